/- A batch read off bytes, in plain words. No conditions. -/
import Derived.Test.YtbhfbpaaghpadaaGC23
import Derived.Test.YtbhfbpaaghpadaaGC24
set_option linter.unusedSimpArgs false
set_option linter.unusedVariables false
namespace Go.Proofs.Ytbhfbpaaghpadaa
open Go.RowKit

/-- So many numbers off a reader. -/
def tkU : Nat → Int → List Nat → List Nat × Int × List Nat
  | 0, e, l => ([], e, l)
  | n + 1, e, l => ((nb 9007199254740991 e l).1 :: (tkU n (nb 9007199254740991 e l).2.1 (nb 9007199254740991 e l).2.2).1, (tkU n (nb 9007199254740991 e l).2.1 (nb 9007199254740991 e l).2.2).2)
theorem tkU_len : ∀ (n : Nat) (e : Int) (l : List Nat), (tkU n e l).1.length = n
  | 0, _, _ => rfl
  | n + 1, e, l => by simp only [tkU, List.length_cons, tkU_len n]
theorem tkU_st : ∀ (n : Nat) {e : Int} (h : e ≠ 0) (l : List Nat), (tkU n e l).2 = (e, l)
  | 0, _, _, _ => rfl
  | n + 1, e, h, l => by
    simp only [tkU, nb_st h]
    exact tkU_st n h l
theorem uP_nat {n : Nat} (h : n ≤ 9007199254740991) : uP (n : Int) = (Dig.enc n, 0) := by
  unfold uP
  rw [if_pos (by omega)]
  simp
theorem tkU_yes : ∀ (n : Nat) {e : Int} {l : List Nat}, Byt l → (tkU n e l).2.1 = 0 → e = 0 ∧ l = uN ((tkU n e l).1.map Int.ofNat) ++ (tkU n e l).2.2 ∧ ∀ x ∈ (tkU n e l).1, x ≤ 9007199254740991
  | 0, e, l, hl, h => ⟨h, rfl, by intro x hx; cases hx⟩
  | n + 1, e, l, hl, h => by
    have hx := nb_yes (most := 9007199254740991) (e := e) hl
    simp only [tkU] at h ⊢
    generalize nb 9007199254740991 e l = x at *
    obtain ⟨a, e1, l1⟩ := x
    simp only at h hx ⊢
    by_cases q : e1 = 0
    · obtain ⟨e0, g1, g2⟩ := hx q
      have hl1 : Byt l1 := by rw [g1] at hl; exact byt_suf hl
      obtain ⟨_, g3, g4⟩ := tkU_yes n hl1 h
      refine ⟨e0, ?_, fun y hy => ?_⟩
      · unfold uN at *
        simp only [List.map_cons, List.flatten_cons]
        rw [show Int.ofNat a = (a : Int) from rfl, uP_nat g2, List.append_assoc, ← g3]
        exact g1
      · rcases List.mem_cons.1 hy with rfl | hy
        · exact g2
        · exact g4 y hy
    · exfalso
      rw [tkU_st n q] at h
      exact q h
def gi (l : List Nat) (k : Nat) : Int := ((l.getD k 0 : Nat) : Int)
/-- One span off a reader. -/
def tkSp (e : Int) (l : List Nat) : Spn × Int × List Nat :=
  let u := tkU 5 e l
  let v := txt 24 u.2.1 u.2.2
  let o := txt 24 v.2.1 v.2.2
  let j := txt 64 o.2.1 o.2.2
  let a := tkAs j.2.1 j.2.2
  (⟨gi u.1 0, gi u.1 1, gi u.1 2, bs v.1, bs o.1, gi u.1 3, gi u.1 4, bs j.1, a.1⟩, a.2)
theorem tP_bs {x : List Nat} (hb : Byt x) (h : (x.length : Int) ≤ 64) : (tP (bs x)).1 = Dig.enc x.length ++ x := by
  unfold tP
  rw [if_pos (by rw [bs_size]; omega), bs_size, sb_bs hb]
theorem list5 {l : List Nat} (h : l.length = 5) : l.map Int.ofNat = [gi l 0, gi l 1, gi l 2, gi l 3, gi l 4] := by
  match l, h with
  | [a, b, c, d, e], _ => rfl
theorem list3 {l : List Nat} (h : l.length = 3) : l.map Int.ofNat = [gi l 0, gi l 1, gi l 2] := by
  match l, h with
  | [a, b, c], _ => rfl
theorem tkAs_st {e : Int} (he : e ≠ 0) (l : List Nat) : (tkAs e l).2.1 ≠ 0 := by
  have h2 : (tkLs e l).2.1 = e := by
    unfold tkLs
    rw [nb_st he]
    simp only
    rw [if_neg (by omega)]
    rfl
  intro h
  unfold tkAs at h
  rw [h2] at h
  split at h
  · rename_i h1
    exact he (fail_zero h1).1
  · rename_i h1
    exact absurd h h1
theorem tkSp_yes {e : Int} {l : List Nat} (hl : Byt l) (h : (tkSp e l).2.1 = 0) : e = 0 ∧ l = spB (tkSp e l).1 ++ (tkSp e l).2.2 := by
  have hu := tkU_yes 5 (e := e) hl
  have hul := tkU_len 5 e l
  have su := fun he => tkU_st 5 (e := e) he l
  unfold tkSp at h ⊢
  simp only at h ⊢
  generalize tkU 5 e l = u at *
  obtain ⟨u, e1, l1⟩ := u
  simp only at h hu hul ⊢
  have hv := fun hl1 => txt_yes (most := 24) (e := e1) (l := l1) hl1
  have sv := fun he => txt_st (most := 24) (e := e1) he l1
  generalize txt 24 e1 l1 = v at *
  obtain ⟨v, e2, l2⟩ := v
  simp only at h hv sv ⊢
  have ho := fun hl1 => txt_yes (most := 24) (e := e2) (l := l2) hl1
  have so := fun he => txt_st (most := 24) (e := e2) he l2
  generalize txt 24 e2 l2 = o at *
  obtain ⟨o, e3, l3⟩ := o
  simp only at h ho so ⊢
  have hj := fun hl1 => txt_yes (most := 64) (e := e3) (l := l3) hl1
  have sj := fun he => txt_st (most := 64) (e := e3) he l3
  generalize txt 64 e3 l3 = j at *
  obtain ⟨j, e4, l4⟩ := j
  simp only at h hj sj ⊢
  have ha := fun hl1 => tkAs_yes (e := e4) (l := l4) hl1
  have sa := fun he => tkAs_st (e := e4) he l4
  generalize tkAs e4 l4 = a at *
  obtain ⟨a, e5, l5⟩ := a
  simp only at h ha sa ⊢
  have q4 : e4 = 0 := Classical.byContradiction fun q => sa q h
  have q3 : e3 = 0 := Classical.byContradiction fun q => by have := sj q; injection this with _ t; injection t with t _; exact q (t ▸ q4)
  have q2 : e2 = 0 := Classical.byContradiction fun q => by have := so q; injection this with _ t; injection t with t _; exact q (t ▸ q3)
  have q1 : e1 = 0 := Classical.byContradiction fun q => by have := sv q; injection this with _ t; injection t with t _; exact q (t ▸ q2)
  obtain ⟨e0, g1, _⟩ := hu q1
  have b1 : Byt l1 := by rw [g1] at hl; exact byt_suf hl
  obtain ⟨_, g2, n2⟩ := hv b1 q2
  have b2 : Byt l2 := by rw [g2] at b1; exact byt_suf b1
  have c2 : Byt v := by rw [g2] at b1; exact byt_suf (byt_pre b1)
  obtain ⟨_, g3, n3⟩ := ho b2 q3
  have b3 : Byt l3 := by rw [g3] at b2; exact byt_suf b2
  have c3 : Byt o := by rw [g3] at b2; exact byt_suf (byt_pre b2)
  obtain ⟨_, g4, n4⟩ := hj b3 q4
  have b4 : Byt l4 := by rw [g4] at b3; exact byt_suf b3
  have c4 : Byt j := by rw [g4] at b3; exact byt_suf (byt_pre b3)
  obtain ⟨_, _, g5⟩ := ha b4 h
  refine ⟨e0, ?_⟩
  unfold spB sN sT tN
  simp only [List.map_cons, List.map_nil, List.flatten_cons, List.flatten_nil, List.append_nil]
  rw [tP_bs c2 (by omega), tP_bs c3 (by omega), tP_bs c4 n4, ← list5 hul]
  conv => lhs; rw [g1, g2, g3, g4, g5]
  simp only [List.append_assoc]
/-- So many spans off a reader, as long as it tells nothing. -/
def tkSN : Nat → Int → List Nat → List Spn × Int × List Nat
  | 0, e, l => ([], e, l)
  | n + 1, e, l => if e = 0 then ((tkSp e l).1 :: (tkSN n (tkSp e l).2.1 (tkSp e l).2.2).1, (tkSN n (tkSp e l).2.1 (tkSp e l).2.2).2) else ([], e, l)
theorem tkSN_stop (n : Nat) {e : Int} (h : e ≠ 0) (l : List Nat) : tkSN n e l = ([], e, l) := by
  cases n with
  | zero => rfl
  | succ n => simp only [tkSN, if_neg h]
theorem tkSN_len : ∀ (n : Nat) (e : Int) (l : List Nat), (tkSN n e l).1.length ≤ n
  | 0, _, _ => Nat.le_refl _
  | n + 1, e, l => by
    simp only [tkSN]
    split
    · simp only [List.length_cons]
      have := tkSN_len n (tkSp e l).2.1 (tkSp e l).2.2
      omega
    · exact Nat.zero_le _
theorem tkSN_yes : ∀ (n : Nat) {e : Int} {l : List Nat}, Byt l → (tkSN n e l).2.1 = 0 → e = 0 ∧ (tkSN n e l).1.length = n ∧ l = ((tkSN n e l).1.map spB).flatten ++ (tkSN n e l).2.2
  | 0, e, l, hl, h => ⟨h, rfl, rfl⟩
  | n + 1, e, l, hl, h => by
    have hx := tkSp_yes (e := e) hl
    by_cases he : e = 0
    · simp only [tkSN, if_pos he] at h ⊢
      generalize tkSp e l = x at *
      obtain ⟨a, e1, l1⟩ := x
      simp only at h hx ⊢
      by_cases q : e1 = 0
      · obtain ⟨_, g1⟩ := hx q
        have hl1 : Byt l1 := by rw [g1] at hl; exact byt_suf hl
        obtain ⟨_, g2, g3⟩ := tkSN_yes n hl1 h
        refine ⟨he, by simp [g2], ?_⟩
        simp only [List.map_cons, List.flatten_cons, List.append_assoc]
        rw [← g3]
        exact g1
      · rw [tkSN_stop n q] at h
        exact absurd h q
    · rw [tkSN_stop _ he] at h
      exact absurd h he
theorem tkSp_pt (e : Int) (l : List Nat) : (∀ a ∈ (tkSp e l).1.ats, a.lab.p < 4294967296) ∧ (tkSp e l).1.ats.length ≤ 8 := by
  unfold tkSp
  simp only
  generalize txt 64 _ _ = j
  have h := tkLs_ok j.2.1 j.2.2
  unfold tkAs
  split
  · exact h
  · exact ⟨(by intro a ha; cases ha), by simp⟩
theorem tkSN_pt : ∀ (n : Nat) (e : Int) (l : List Nat), ∀ s ∈ (tkSN n e l).1, (∀ a ∈ s.ats, a.lab.p < 4294967296) ∧ s.ats.length ≤ 8
  | 0, _, _, s, hs => by cases hs
  | n + 1, e, l, s, hs => by
    simp only [tkSN] at hs
    split at hs
    · rcases List.mem_cons.1 hs with rfl | hs
      · exact tkSp_pt e l
      · exact tkSN_pt n _ _ s hs
    · cases hs
/-- A batch's numbers and spans, the error, what is left. -/
def tkB (l : List Nat) : Bat × Int × List Nat :=
  let u := tkU 3 0 l
  let s := tkSN (u.1.getD 2 0) u.2.1 u.2.2
  (⟨gi u.1 0, gi u.1 1, s.1⟩, s.2)
def noBat : Bat := ⟨0, 0, []⟩
open Classical in
/-- What both Parses answer. -/
noncomputable def prB (l : List Nat) : Bat × Int := if (tkU 3 0 l).1.getD 2 0 ≤ 16 ∧ (tkB l).2.1 = 0 ∧ (tkB l).2.2 = [] ∧ OkB (tkB l).1 then ((tkB l).1, 0) else (noBat, 90)
theorem tkB_yes {l : List Nat} (hl : Byt l) (h : (tkB l).2.1 = 0) : l = btB (tkB l).1 ++ (tkB l).2.2 := by
  have hu := tkU_yes 3 (e := 0) hl
  have hul := tkU_len 3 0 l
  unfold tkB at h ⊢
  simp only at h ⊢
  generalize tkU 3 0 l = u at *
  obtain ⟨u, e1, l1⟩ := u
  simp only at h hu hul ⊢
  have hs := fun hl1 => tkSN_yes (u.getD 2 0) (e := e1) (l := l1) hl1
  have ss := fun he => tkSN_stop (u.getD 2 0) (e := e1) he l1
  have q1 : e1 = 0 := Classical.byContradiction fun q => by have := ss q; rw [this] at h; exact q h
  generalize tkSN (u.getD 2 0) e1 l1 = s at *
  obtain ⟨s, e2, l2⟩ := s
  simp only at h hs ⊢
  obtain ⟨_, g1, _⟩ := hu q1
  have b1 : Byt l1 := by rw [g1] at hl; exact byt_suf hl
  obtain ⟨_, g2, g3⟩ := hs b1 h
  unfold btB
  simp only
  rw [g2, show ((u.getD 2 0 : Nat) : Int) = gi u 2 from rfl, show [gi u 0, gi u 1, gi u 2] = u.map Int.ofNat from (list3 hul).symm, List.append_assoc, ← g3]
  exact g1
end Go.Proofs.Ytbhfbpaaghpadaa
/- What is written of a batch is what is read, in plain words. No conditions. -/
set_option linter.unusedSimpArgs false
set_option linter.unusedVariables false
namespace Go.Proofs.Ytbhfbpaaghpadaa
open Go.RowKit

theorem tkU_to : ∀ (l : List Int) (m : List Nat), (∀ n ∈ l, 0 ≤ n ∧ n ≤ 9007199254740991) → tkU l.length 0 (uN l ++ m) = (l.map Int.toNat, 0, m)
  | [], m, _ => rfl
  | n :: l, m, h => by
    have h1 := h n (by simp)
    have e1 : (uP n).1 = Dig.enc n.toNat := by unfold uP; rw [if_pos h1]
    have e2 : uN (n :: l) ++ m = Dig.enc n.toNat ++ (uN l ++ m) := by
      unfold uN
      rw [List.map_cons, List.flatten_cons, e1, List.append_assoc]
    have e3 := nbv_enc (most := 9007199254740991) n.toNat (by omega) (by omega) (uN l ++ m)
    rw [e2, List.length_cons]
    simp only [tkU, e3, tkU_to l m (fun k hk => h k (List.mem_cons_of_mem _ hk)), List.map_cons]
theorem txt_tP (most : Int) (s : ByteArray) (hs : s.size ≤ 65535) (hm : (s.size : Int) ≤ most) (m : List Nat) : txt most 0 ((tP s).1 ++ m) = (sb s, 0, m) := by
  have e1 : (tP s).1 = Dig.enc (sb s).length ++ sb s := by
    unfold tP
    rw [if_pos hs, sb_length]
  rw [e1]
  exact txt_to most (sb s) m (by rw [sb_length]; exact hs) (by rw [sb_length]; exact hm)
theorem gi_map (l : List Int) (k : Nat) (h : k < l.length) (h0 : ∀ n ∈ l, 0 ≤ n) : gi (l.map Int.toNat) k = l[k] := by
  unfold gi
  have h1 := h0 l[k] (List.getElem_mem h)
  rw [List.getD_eq_getElem?_getD, List.getElem?_map, List.getElem?_eq_getElem h]
  simp only [Option.map_some, Option.getD_some]
  omega
theorem tkSp_to {s : Spn} (h : OkS s) (hp : ∀ a ∈ s.ats, a.lab.p < 4294967296) (m : List Nat) : tkSp 0 (spB s ++ m) = (s, 0, m) := by
  have h1 := h.tr; have h2 := h.id; have h3 := h.pa; have h4 := h.st; have h5 := h.ln
  have n1 := nm_size h.sv; have n2 := nm_size h.op; have n3 := h.sj
  have hr : ∀ n ∈ sN s, 0 ≤ n ∧ n ≤ 9007199254740991 := by
    intro n hn
    simp only [sN, List.mem_cons, List.not_mem_nil, or_false] at hn
    rcases hn with rfl | rfl | rfl | rfl | rfl <;> omega
  have e0 : spB s ++ m = uN (sN s) ++ ((tP s.sv).1 ++ ((tP s.op).1 ++ ((tP s.sj).1 ++ (asB s.ats ++ m)))) := by
    unfold spB sT tN
    simp [List.append_assoc]
  have e1 := tkU_to (sN s) ((tP s.sv).1 ++ ((tP s.op).1 ++ ((tP s.sj).1 ++ (asB s.ats ++ m)))) hr
  rw [show (sN s).length = 5 from rfl] at e1
  unfold tkSp
  rw [e0]
  simp only [e1]
  simp only [txt_tP 24 s.sv (by omega) (by omega)]
  simp only [txt_tP 24 s.op (by omega) (by omega)]
  simp only [txt_tP 64 s.sj (by omega) (by omega)]
  simp only [tkAs_to h.ats hp, bs_sb]
  have g := fun k hk => gi_map (sN s) k hk (fun n hn => (hr n hn).1)
  rw [g 0 (by simp [sN]), g 1 (by simp [sN]), g 2 (by simp [sN]), g 3 (by simp [sN]), g 4 (by simp [sN])]
  rfl
theorem tkSN_to : ∀ (l : List Spn) (m : List Nat), (∀ s ∈ l, OkS s ∧ ∀ a ∈ s.ats, a.lab.p < 4294967296) → tkSN l.length 0 ((l.map spB).flatten ++ m) = (l, 0, m)
  | [], m, _ => rfl
  | s :: l, m, h => by
    have h1 := h s (by simp)
    have e := tkSp_to h1.1 h1.2 ((l.map spB).flatten ++ m)
    rw [List.map_cons, List.flatten_cons, List.append_assoc, List.length_cons]
    simp only [tkSN, if_true, e, tkSN_to l m (fun k hk => h k (List.mem_cons_of_mem _ hk))]
/-- Parts of a label in all of a batch. -/
def PtB (b : Bat) : Prop := ∀ s ∈ b.sp, ∀ a ∈ s.ats, a.lab.p < 4294967296
theorem tkB_to {b : Bat} (h : OkC b) (hp : PtB b) (m : List Nat) : tkB (btB b ++ m) = (b, 0, m) := by
  have h1 := h.ag; have h2 := h.sq; have h3 := h.n
  have hr : ∀ n ∈ [b.ag, b.sq, (b.sp.length : Int)], 0 ≤ n ∧ n ≤ 9007199254740991 := by
    intro n hn
    simp only [List.mem_cons, List.not_mem_nil, or_false] at hn
    rcases hn with rfl | rfl | rfl <;> omega
  have e1 := tkU_to [b.ag, b.sq, (b.sp.length : Int)] ((b.sp.map spB).flatten ++ m) hr
  have g := fun k hk => gi_map [b.ag, b.sq, (b.sp.length : Int)] k hk (fun n hn => (hr n hn).1)
  have g0 := g 0 (by simp)
  have g1 := g 1 (by simp)
  unfold tkB btB
  rw [List.append_assoc]
  rw [show [b.ag, b.sq, (b.sp.length : Int)].length = 3 from rfl] at e1
  simp only [e1]
  rw [show (List.map Int.toNat [b.ag, b.sq, (b.sp.length : Int)]).getD 2 0 = b.sp.length by simp]
  rw [tkSN_to b.sp m (fun s hs => ⟨h.sp s hs, hp s hs⟩), g0, g1]
  rfl
theorem tkU_b {b : Bat} (h : OkC b) (m : List Nat) : (tkU 3 0 (btB b ++ m)).1.getD 2 0 = b.sp.length := by
  have h1 := h.ag; have h2 := h.sq; have h3 := h.n
  have e1 := tkU_to [b.ag, b.sq, (b.sp.length : Int)] ((b.sp.map spB).flatten ++ m) (by
    intro n hn
    simp only [List.mem_cons, List.not_mem_nil, or_false] at hn
    rcases hn with rfl | rfl | rfl <;> omega)
  unfold btB
  rw [List.append_assoc]
  rw [show [b.ag, b.sq, (b.sp.length : Int)].length = 3 from rfl] at e1
  rw [e1]
  simp
/-- What was written is read. -/
theorem prB_to {b : Bat} (h : OkB b) (hp : PtB b) : prB (btB b) = (b, 0) := by
  have e := tkB_to h.1 hp []
  have e2 := tkU_b h.1 []
  rw [List.append_nil] at e e2
  unfold prB
  rw [e, e2, if_pos ⟨h.1.n.2, rfl, rfl, h⟩]
theorem prB_more {b : Bat} (h : OkB b) (hp : PtB b) {m : List Nat} (hm : m ≠ []) : prB (btB b ++ m) = (noBat, 90) := by
  have e := tkB_to h.1 hp m
  unfold prB
  rw [e, if_neg (fun q => hm q.2.2.1)]
theorem tkB_pt (l : List Nat) : PtB (tkB l).1 := fun s hs => (tkSN_pt _ _ _ s hs).1
theorem prB_pt (l : List Nat) : PtB (prB l).1 := by
  unfold prB
  split
  · exact tkB_pt l
  · intro s hs; cases hs
theorem prB_or (l : List Nat) : (prB l).2 = 0 ∨ prB l = (noBat, 90) := by
  unfold prB
  split
  · exact .inl rfl
  · exact .inr rfl
theorem prB_yes {l : List Nat} (hl : Byt l) (h : (prB l).2 = 0) : OkB (prB l).1 ∧ l = btB (prB l).1 := by
  unfold prB at h ⊢
  split
  · rename_i q
    refine ⟨q.2.2.2, ?_⟩
    have := tkB_yes hl q.2.1
    rw [q.2.2.1, List.append_nil] at this
    exact this
  · rename_i q
    rw [if_neg q] at h
    exact absurd h (by decide)
theorem prB_len (l : List Nat) : (prB l).1.sp.length ≤ 16 := by
  unfold prB
  split
  · rename_i q
    exact q.2.2.2.1.n.2
  · exact Nat.zero_le _
theorem prB_ats (l : List Nat) : ∀ s ∈ (prB l).1.sp, s.ats.length ≤ 2199023255552 := by
  unfold prB
  split
  · intro s hs
    have := (tkSN_pt _ _ _ s hs).2
    omega
  · intro s hs; cases hs
/-- With a byte less it is none. -/
theorem prB_less {l : List Nat} (hl : Byt l) {x : Nat} (h : (prB (l ++ [x])).2 = 0) : prB l = (noBat, 90) := by
  rcases prB_or l with q | q
  · exfalso
    have hl' : Byt l := hl
    obtain ⟨h1, h2⟩ := prB_yes hl' q
    have := prB_more h1 (prB_pt l) (m := [x]) (by simp)
    rw [← h2] at this
    rw [this] at h
    exact absurd h (by decide)
  · exact q
theorem btB_inj {a b : Bat} (ha : OkC a) (hb : OkC b) (pa : PtB a) (pb : PtB b) (h : btB a = btB b) : a = b := by
  have e1 := tkB_to ha pa []
  have e2 := tkB_to hb pb []
  rw [h] at e1
  have := e1.symm.trans e2
  injection this
end Go.Proofs.Ytbhfbpaaghpadaa
