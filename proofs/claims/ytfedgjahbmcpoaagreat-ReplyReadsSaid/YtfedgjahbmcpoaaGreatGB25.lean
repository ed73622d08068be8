/- Answers in plain words: what may be, the bytes, what is read. No conditions. -/
import Derived.Test.YtfedgjahbmcpoaaGreatGB24
set_option linter.unusedSimpArgs false
set_option linter.unusedVariables false
namespace Go.Proofs.YtfedgjahbmcpoaaGreat
open Go.RowKit

structure Sen where
  sp : Spn
  dp : Int
  lo : Bool
structure Cel where
  at' : Int
  ct : Int
structure Edg where
  fr : ByteArray
  to' : ByteArray
  ct : Int
structure Ans where
  er : Int
  sn : List Sen
  nx : Int
  ce : List Cel
  ed : List Edg
  lf : Int
def noAns : Ans := ⟨0, [], 0, [], [], 0⟩

structure OkSn (s : Sen) : Prop where
  sp : OkS s.sp
  sj : s.sp.sj = ⟨#[]⟩
  dp : 0 ≤ s.dp ∧ s.dp ≤ 1000
structure OkCe (c : Cel) : Prop where
  at' : -9007199254740991 ≤ c.at' ∧ c.at' ≤ 9007199254740991
  ct : 1 ≤ c.ct ∧ c.ct ≤ 9007199254740991
structure OkEd (e : Edg) : Prop where
  fr : nm (sb e.fr) = true
  to' : nm (sb e.to') = true
  ct : 1 ≤ e.ct ∧ e.ct ≤ 9007199254740991
def aheadC (a b : Cel) : Prop := a.at' < b.at'
/-- One text's bytes stand ahead of another's. -/
def ltB (a b : ByteArray) : Prop := Op.bytesLess a.toList b.toList = true
def aheadE (a b : Edg) : Prop := ltB a.fr b.fr ∨ a.fr = b.fr ∧ ltB a.to' b.to'
/-- A list that may be. -/
def MayL {α : Type} (is : α → Prop) (ah : α → α → Prop) (l : List α) : Prop := (∀ x ∈ l, is x) ∧ ∀ i (h : i + 1 < l.length), ah l[i] l[i + 1]
theorem MayL.nil {α : Type} (is : α → Prop) (ah : α → α → Prop) : MayL is ah [] := ⟨(by intro x h; cases h), fun i h => absurd h (by simp)⟩
theorem MayL.snoc {α : Type} {is : α → Prop} {ah : α → α → Prop} {l : List α} {k : Nat} (hk : k < l.length) : MayL is ah (l.take (k + 1)) ↔ MayL is ah (l.take k) ∧ is l[k] ∧ ∀ (_ : 0 < k), ah (l[k - 1]'(by omega)) l[k] := by
  have hL : (l.take k).length = k := by simp; omega
  have hL1 : (l.take (k + 1)).length = k + 1 := by simp; omega
  constructor
  · rintro ⟨h1, h2⟩
    refine ⟨⟨fun x hx => h1 x ?_, fun i hi => ?_⟩, h1 _ ?_, fun h0 => ?_⟩
    · rw [List.take_succ_eq_append_getElem hk]; exact List.mem_append_left _ hx
    · have := h2 i (by omega)
      simpa using this
    · rw [List.take_succ_eq_append_getElem hk]; exact List.mem_append_right _ (List.mem_singleton.2 rfl)
    · have := h2 (k - 1) (by omega)
      simp only [List.getElem_take] at this
      have e : k - 1 + 1 = k := by omega
      simp only [e] at this
      exact this
  · rintro ⟨⟨h1, h2⟩, h3, h4⟩
    refine ⟨fun x hx => ?_, fun i hi => ?_⟩
    · rw [List.take_succ_eq_append_getElem hk, List.mem_append, List.mem_singleton] at hx
      rcases hx with hx | rfl
      · exact h1 x hx
      · exact h3
    · simp only [List.getElem_take]
      by_cases e : i + 1 = k
      · have := h4 (by omega)
        have e2 : k - 1 = i := by omega
        simp only [e2] at this
        simp only [e]
        exact this
      · have := h2 i (by omega)
        simpa using this
structure OkAn (a : Ans) : Prop where
  er : 0 ≤ a.er ∧ a.er ≤ 65535
  nx : 0 ≤ a.nx ∧ a.nx ≤ 9007199254740991
  lf : 0 ≤ a.lf ∧ a.lf ≤ 9007199254740991
  sn : MayL OkSn (fun _ _ => True) a.sn ∧ a.sn.length ≤ 1000
  ce : MayL OkCe aheadC a.ce ∧ a.ce.length ≤ 20
  ed : MayL OkEd aheadE a.ed ∧ a.ed.length ≤ 10000
  al : a.er = 0 ∨ (a.nx = 0 ∧ a.lf = 0 ∧ a.sn = [] ∧ a.ce = [] ∧ a.ed = [])

def bitN (b : Bool) : Int := if b then 1 else 0
def snB (s : Sen) : List Nat := uN [s.dp, bitN s.lo, s.sp.tr, s.sp.id, s.sp.pa, s.sp.st, s.sp.ln] ++ tN [s.sp.sv, s.sp.op] ++ asB s.sp.ats
def ceB (c : Cel) : List Nat := (sP c.at').1 ++ uN [c.ct]
def edB (e : Edg) : List Nat := tN [e.fr, e.to'] ++ uN [e.ct]
def lsB {α : Type} (f : α → List Nat) (l : List α) : List Nat := uN [(l.length : Int)] ++ (l.map f).flatten
def anB (a : Ans) : List Nat := uN [a.er, a.nx, a.lf] ++ lsB snB a.sn ++ lsB ceB a.ce ++ lsB edB a.ed
open Classical in
/-- What both Bytes answer. -/
noncomputable def anP (a : Ans) : List Nat × Int := if OkAn a then (anB a, 0) else ([], 270)
theorem anP_no {a : Ans} (h : ¬ OkAn a) : anP a = ([], 270) := if_neg h
theorem anP_yes {a : Ans} (h : OkAn a) : anP a = (anB a, 0) := if_pos h
def PtS (l : List Sen) : Prop := ∀ s ∈ l, ∀ a ∈ s.sp.ats, a.lab.p < 4294967296
theorem ceB_len (c : Cel) : (ceB c).length ≤ 16 ∧ Byt (ceB c) := by
  have h1 := sP_ok c.at'
  have h2 := uN_len [c.ct]
  unfold ceB
  rw [List.length_append]
  simp only [List.length_cons, List.length_nil] at h2
  exact ⟨by omega, h1.1.append (uN_byt _)⟩
theorem edB_len (e : Edg) : (edB e).length ≤ 140000 ∧ Byt (edB e) := by
  have h1 := tN_len [e.fr, e.to']
  have h2 := uN_len [e.ct]
  unfold edB
  rw [List.length_append]
  simp only [List.length_cons, List.length_nil] at h1 h2
  exact ⟨by omega, (tN_byt _).append (uN_byt _)⟩
theorem snB_len {s : Sen} (h : OkS s.sp) (hp : ∀ a ∈ s.sp.ats, a.lab.p < 4294967296) : (snB s).length ≤ 140000 ∧ Byt (snB s) := by
  have h1 := tN_len [s.sp.sv, s.sp.op]
  have h2 := uN_len [s.dp, bitN s.lo, s.sp.tr, s.sp.id, s.sp.pa, s.sp.st, s.sp.ln]
  have h3 := asB_ok h.ats hp
  unfold snB
  rw [List.length_append, List.length_append]
  simp only [List.length_cons, List.length_nil] at h1 h2
  exact ⟨by omega, ((uN_byt _).append (tN_byt _)).append h3.1⟩
theorem flat_len {α : Type} {f : α → List Nat} {m : Nat} : ∀ (l : List α), (∀ x ∈ l, (f x).length ≤ m ∧ Byt (f x)) → ((l.map f).flatten).length ≤ m * l.length ∧ Byt (l.map f).flatten
  | [], _ => ⟨by simp, by intro x hx; cases hx⟩
  | x :: l, h => by
    have h1 := h x (by simp)
    have h2 := flat_len l (fun y hy => h y (List.mem_cons_of_mem _ hy))
    rw [List.map_cons, List.flatten_cons, List.length_append, List.length_cons, Nat.mul_succ]
    exact ⟨by omega, h1.2.append h2.2⟩
theorem flat_snoc {α : Type} (f : α → List Nat) {l : List α} {k : Nat} (hk : k < l.length) : ((l.take (k + 1)).map f).flatten = ((l.take k).map f).flatten ++ f l[k] := by
  rw [List.take_succ_eq_append_getElem hk, List.map_append, List.flatten_append]
  simp

/-- A signed number off a reader. -/
def nbS (e : Int) (l : List Nat) : Int × Int × List Nat := (zag (nb 18014398509481982 e l).1, (nb 18014398509481982 e l).2)
/-- A span as it is seen, off a reader: the fields, then the error. -/
def tkSn (e : Int) (l : List Nat) : Sen × Int × List Nat :=
  let u := tkU 7 e l
  let e1 := if 1 < u.1.getD 1 0 then failE u.2.1 270 else u.2.1
  let v := txt 24 e1 u.2.2
  let o := txt 24 v.2.1 v.2.2
  let a := tkAs o.2.1 o.2.2
  (⟨⟨gi u.1 2, gi u.1 3, gi u.1 4, bs v.1, bs o.1, gi u.1 5, gi u.1 6, ⟨#[]⟩, a.1⟩, gi u.1 0, decide (gi u.1 1 = 1)⟩, a.2)
def tkCe (e : Int) (l : List Nat) : Cel × Int × List Nat :=
  (⟨(nbS e l).1, (nb 9007199254740991 (nbS e l).2.1 (nbS e l).2.2).1⟩, (nb 9007199254740991 (nbS e l).2.1 (nbS e l).2.2).2)
def tkEd (e : Int) (l : List Nat) : Edg × Int × List Nat :=
  let v := txt 24 e l
  let o := txt 24 v.2.1 v.2.2
  let n := nb 9007199254740991 o.2.1 o.2.2
  (⟨bs v.1, bs o.1, n.1⟩, n.2)
/-- So many of them, as long as the reader tells nothing. -/
def tkM {α : Type} (one : Int → List Nat → α × Int × List Nat) : Nat → Int → List Nat → List α × Int × List Nat
  | 0, e, l => ([], e, l)
  | n + 1, e, l => if e = 0 then ((one e l).1 :: (tkM one n (one e l).2.1 (one e l).2.2).1, (tkM one n (one e l).2.1 (one e l).2.2).2) else ([], e, l)
theorem tkM_stop {α : Type} (one : Int → List Nat → α × Int × List Nat) (n : Nat) {e : Int} (h : e ≠ 0) (l : List Nat) : tkM one n e l = ([], e, l) := by
  cases n with
  | zero => rfl
  | succ n => simp only [tkM, if_neg h]
theorem tkM_len {α : Type} (one : Int → List Nat → α × Int × List Nat) : ∀ (n : Nat) (e : Int) (l : List Nat), (tkM one n e l).1.length ≤ n
  | 0, _, _ => Nat.le_refl _
  | n + 1, e, l => by
    simp only [tkM]
    split
    · simp only [List.length_cons]
      have := tkM_len one n (one e l).2.1 (one e l).2.2
      omega
    · exact Nat.zero_le _
theorem tkM_all {α : Type} {p : α → Prop} {one : Int → List Nat → α × Int × List Nat} (h : ∀ e l, p (one e l).1) : ∀ (n : Nat) (e : Int) (l : List Nat), ∀ x ∈ (tkM one n e l).1, p x
  | 0, _, _, x, hx => by cases hx
  | n + 1, e, l, x, hx => by
    simp only [tkM] at hx
    split at hx
    · rcases List.mem_cons.1 hx with rfl | hx
      · exact h e l
      · exact tkM_all h n _ _ x hx
    · cases hx
theorem tkM_yes {α : Type} {f : α → List Nat} {one : Int → List Nat → α × Int × List Nat} (hone : ∀ (e : Int) (l : List Nat), Byt l → (one e l).2.1 = 0 → l = f (one e l).1 ++ (one e l).2.2) : ∀ (n : Nat) {e : Int} {l : List Nat}, Byt l → (tkM one n e l).2.1 = 0 → e = 0 ∧ (tkM one n e l).1.length = n ∧ l = ((tkM one n e l).1.map f).flatten ++ (tkM one n e l).2.2
  | 0, e, l, hl, h => ⟨h, rfl, rfl⟩
  | n + 1, e, l, hl, h => by
    have hx := hone e l hl
    by_cases he : e = 0
    · simp only [tkM, if_pos he] at h ⊢
      generalize one e l = x at *
      obtain ⟨a, e1, l1⟩ := x
      simp only at h hx ⊢
      by_cases q : e1 = 0
      · have g1 := hx q
        have hl1 : Byt l1 := by rw [g1] at hl; exact byt_suf hl
        obtain ⟨_, g2, g3⟩ := tkM_yes hone n hl1 h
        refine ⟨he, by simp [g2], ?_⟩
        simp only [List.map_cons, List.flatten_cons, List.append_assoc]
        rw [← g3]
        exact g1
      · rw [tkM_stop one n q] at h
        exact absurd h q
    · rw [tkM_stop one _ he] at h
      exact absurd h he
theorem tkM_to {α : Type} {f : α → List Nat} {one : Int → List Nat → α × Int × List Nat} {p : α → Prop} (hone : ∀ (x : α) (m : List Nat), p x → one 0 (f x ++ m) = (x, 0, m)) : ∀ (l : List α) (m : List Nat), (∀ x ∈ l, p x) → tkM one l.length 0 ((l.map f).flatten ++ m) = (l, 0, m)
  | [], m, _ => rfl
  | s :: l, m, h => by
    have e := hone s ((l.map f).flatten ++ m) (h s (by simp))
    rw [List.map_cons, List.flatten_cons, List.append_assoc, List.length_cons]
    simp only [tkM, if_true, e, tkM_to hone l m (fun k hk => h k (List.mem_cons_of_mem _ hk))]
theorem uN_one {n : Nat} (h : n ≤ 9007199254740991) : uN [(n : Int)] = Dig.enc n := by
  unfold uN
  simp [uP_nat h]
/-- A list of so many at most. -/
def tkLm {α : Type} (most : Nat) (one : Int → List Nat → α × Int × List Nat) (e : Int) (l : List Nat) : List α × Int × List Nat :=
  let n := nb 9007199254740991 e l
  tkM one n.1 (if most < n.1 then failE n.2.1 270 else n.2.1) n.2.2
theorem failE_no (e : Int) : failE e 270 ≠ 0 := failE_ne e (by decide)
theorem tkLm_yes {α : Type} {f : α → List Nat} {most : Nat} {one : Int → List Nat → α × Int × List Nat} (hone : ∀ (e : Int) (l : List Nat), Byt l → (one e l).2.1 = 0 → l = f (one e l).1 ++ (one e l).2.2) {e : Int} {l : List Nat} (hl : Byt l) (h : (tkLm most one e l).2.1 = 0) : e = 0 ∧ l = lsB f (tkLm most one e l).1 ++ (tkLm most one e l).2.2 := by
  have hn := nb_yes (most := 9007199254740991) (e := e) hl
  have hle := nb_le 9007199254740991 e l
  unfold tkLm at h ⊢
  simp only at h ⊢
  generalize nb 9007199254740991 e l = n at *
  obtain ⟨n, e1, l1⟩ := n
  simp only at h hn hle ⊢
  have q : e1 = 0 := Classical.byContradiction fun q => by
    rw [tkM_stop one n (e := if most < n then failE e1 270 else e1) (by split; exact failE_no _; exact q)] at h
    split at h
    · exact failE_no _ h
    · exact q h
  obtain ⟨e0, g1, g2⟩ := hn q
  have b1 : Byt l1 := by rw [g1] at hl; exact byt_suf hl
  obtain ⟨h0, h1, h2⟩ := tkM_yes hone n b1 h
  refine ⟨e0, ?_⟩
  unfold lsB uN
  rw [h1]
  simp only [List.map_cons, List.map_nil, List.flatten_cons, List.flatten_nil, List.append_nil]
  rw [uP_nat g2, List.append_assoc, ← h2]
  exact g1
theorem tkLm_to {α : Type} {f : α → List Nat} {most : Nat} {one : Int → List Nat → α × Int × List Nat} {p : α → Prop} (hone : ∀ (x : α) (m : List Nat), p x → one 0 (f x ++ m) = (x, 0, m)) (l : List α) (m : List Nat) (h : ∀ x ∈ l, p x) (hl : l.length ≤ most) (hm : most ≤ 100000) : tkLm most one 0 (lsB f l ++ m) = (l, 0, m) := by
  have e1 := nbv_enc (most := 9007199254740991) l.length (by omega) (by omega) ((l.map f).flatten ++ m)
  unfold tkLm lsB
  rw [uN_one (by omega), List.append_assoc, e1]
  simp only
  rw [if_neg (by omega)]
  exact tkM_to hone l m h
theorem tkLm_st {α : Type} (most : Nat) (one : Int → List Nat → α × Int × List Nat) {e : Int} (he : e ≠ 0) (l : List Nat) : (tkLm most one e l).2.1 ≠ 0 := by
  unfold tkLm
  rw [nb_st he]
  simp only
  rw [if_neg (by omega)]
  exact he
theorem nbS_st {e : Int} (he : e ≠ 0) (l : List Nat) : (nbS e l).2.1 = e := by unfold nbS; rw [nb_st he]
theorem sP_zig {n : Int} (h : -9007199254740991 ≤ n ∧ n ≤ 9007199254740991) : (sP n).1 = Dig.enc (zig n) := by unfold sP; rw [if_pos h]
theorem nbS_to (n : Int) (h : -9007199254740991 ≤ n ∧ n ≤ 9007199254740991) (m : List Nat) : nbS 0 ((sP n).1 ++ m) = (n, 0, m) := by
  have hz := zig_le n h.1 h.2
  rw [sP_zig h]
  unfold nbS
  rw [nbv_enc (most := 18014398509481982) (zig n) (by omega) hz]
  simp only
  rw [zag_zig]
theorem zag_in (z : Nat) (h : z ≤ 18014398509481982) : -9007199254740991 ≤ zag z ∧ zag z ≤ 9007199254740991 := by
  unfold zag
  split <;> omega
theorem nbS_yes {e : Int} {l : List Nat} (hl : Byt l) (h : (nbS e l).2.1 = 0) : e = 0 ∧ l = (sP (nbS e l).1).1 ++ (nbS e l).2.2 := by
  have hn := nb_yes (most := 18014398509481982) (e := e) hl
  unfold nbS at h ⊢
  generalize nb 18014398509481982 e l = n at *
  obtain ⟨n, e1, l1⟩ := n
  simp only at h hn ⊢
  obtain ⟨e0, g1, g2⟩ := hn h
  refine ⟨e0, ?_⟩
  rw [sP_zig (zag_in n g2), zig_zag]
  exact g1
theorem uN_one' {n : Int} (h : 0 ≤ n ∧ n ≤ 9007199254740991) : uN [n] = Dig.enc n.toNat := by
  unfold uN uP
  simp [h]
theorem tkCe_yes (e : Int) (l : List Nat) (hl : Byt l) (h : (tkCe e l).2.1 = 0) : l = ceB (tkCe e l).1 ++ (tkCe e l).2.2 := by
  have ha := nbS_yes (e := e) hl
  have hst := fun he => nbS_st (e := e) he l
  unfold tkCe at h ⊢
  generalize nbS e l = a at *
  obtain ⟨a, e1, l1⟩ := a
  simp only at h ha hst ⊢
  have hb := fun b1 => nb_yes (most := 9007199254740991) (e := e1) (l := l1) b1
  have sb' := fun he => nb_st (most := 9007199254740991) (e := e1) he l1
  generalize nb 9007199254740991 e1 l1 = n at *
  obtain ⟨n, e2, l2⟩ := n
  simp only at h hb sb' ⊢
  have q1 : e1 = 0 := Classical.byContradiction fun q => by have := sb' q; injection this with _ t; injection t with t _; exact q (t ▸ h)
  obtain ⟨_, g1⟩ := ha q1
  have b1 : Byt l1 := by rw [g1] at hl; exact byt_suf hl
  obtain ⟨_, g2, g3⟩ := hb b1 h
  unfold ceB
  simp only
  rw [uN_one g3, List.append_assoc, ← g2]
  exact g1
theorem tkCe_to (c : Cel) (m : List Nat) (h : OkCe c) : tkCe 0 (ceB c ++ m) = (c, 0, m) := by
  have h1 := h.at'; have h2 := h.ct
  have e1 := nbS_to c.at' h1 (uN [c.ct] ++ m)
  have e2 := nbv_enc (most := 9007199254740991) c.ct.toNat (by omega) (by omega) m
  unfold tkCe ceB
  rw [List.append_assoc, e1]
  simp only
  rw [uN_one' (by omega), e2]
  simp only
  congr 2
  omega
theorem tkEd_yes (e : Int) (l : List Nat) (hl : Byt l) (h : (tkEd e l).2.1 = 0) : l = edB (tkEd e l).1 ++ (tkEd e l).2.2 := by
  have hv := fun hl1 => txt_yes (most := 24) (e := e) (l := l) hl1
  have sv := fun he => txt_st (most := 24) (e := e) he l
  unfold tkEd at h ⊢
  simp only at h ⊢
  generalize txt 24 e l = v at *
  obtain ⟨v, e2, l2⟩ := v
  simp only at h hv sv ⊢
  have ho := fun hl1 => txt_yes (most := 24) (e := e2) (l := l2) hl1
  have so := fun he => txt_st (most := 24) (e := e2) he l2
  generalize txt 24 e2 l2 = o at *
  obtain ⟨o, e3, l3⟩ := o
  simp only at h ho so ⊢
  have hj := fun b1 => nb_yes (most := 9007199254740991) (e := e3) (l := l3) b1
  have sj := fun he => nb_st (most := 9007199254740991) (e := e3) he l3
  generalize nb 9007199254740991 e3 l3 = n at *
  obtain ⟨n, e4, l4⟩ := n
  simp only at h hj sj ⊢
  have q3 : e3 = 0 := Classical.byContradiction fun q => by have := sj q; injection this with _ t; injection t with t _; exact q (t ▸ h)
  have q2 : e2 = 0 := Classical.byContradiction fun q => by have := so q; injection this with _ t; injection t with t _; exact q (t ▸ q3)
  obtain ⟨_, g2, n2⟩ := hv hl q2
  have b2 : Byt l2 := by rw [g2] at hl; exact byt_suf hl
  have c2 : Byt v := by rw [g2] at hl; exact byt_suf (byt_pre hl)
  obtain ⟨_, g3, n3⟩ := ho b2 q3
  have b3 : Byt l3 := by rw [g3] at b2; exact byt_suf b2
  have c3 : Byt o := by rw [g3] at b2; exact byt_suf (byt_pre b2)
  obtain ⟨_, g4, n4⟩ := hj b3 h
  unfold edB tN
  simp only [List.map_cons, List.map_nil, List.flatten_cons, List.flatten_nil, List.append_nil]
  rw [tP_bs c2 (by omega), tP_bs c3 (by omega), uN_one n4]
  conv => lhs; rw [g2, g3, g4]
  simp only [List.append_assoc]
theorem tkEd_to (c : Edg) (m : List Nat) (h : OkEd c) : tkEd 0 (edB c ++ m) = (c, 0, m) := by
  have n1 := nm_size h.fr; have n2 := nm_size h.to'; have h2 := h.ct
  have e0 : edB c ++ m = (tP c.fr).1 ++ ((tP c.to').1 ++ (Dig.enc c.ct.toNat ++ m)) := by
    unfold edB tN
    rw [uN_one' (by omega)]
    simp [List.append_assoc]
  have e2 := nbv_enc (most := 9007199254740991) c.ct.toNat (by omega) (by omega) m
  unfold tkEd
  rw [e0]
  simp only [txt_tP 24 c.fr (by omega) (by omega)]
  simp only [txt_tP 24 c.to' (by omega) (by omega)]
  simp only [e2, bs_sb]
  congr 2
  omega
theorem list7 {l : List Nat} (h : l.length = 7) : l.map Int.ofNat = [gi l 0, gi l 1, gi l 2, gi l 3, gi l 4, gi l 5, gi l 6] := by
  match l, h with
  | [a, b, c, d, e, f, g], _ => rfl
theorem tkSn_yes (e : Int) (l : List Nat) (hl : Byt l) (h : (tkSn e l).2.1 = 0) : l = snB (tkSn e l).1 ++ (tkSn e l).2.2 := by
  have hu := tkU_yes 7 (e := e) hl
  have hul := tkU_len 7 e l
  unfold tkSn at h ⊢
  simp only at h ⊢
  generalize tkU 7 e l = u at *
  obtain ⟨u, e0, l1⟩ := u
  simp only at h hu hul ⊢
  generalize he1 : (if 1 < u.getD 1 0 then failE e0 270 else e0) = e1 at *
  have hv := fun hl1 => txt_yes (most := 24) (e := e1) (l := l1) hl1
  have sv := fun he => txt_st (most := 24) (e := e1) he l1
  generalize txt 24 e1 l1 = v at *
  obtain ⟨v, e2, l2⟩ := v
  simp only at h hv sv ⊢
  have ho := fun hl1 => txt_yes (most := 24) (e := e2) (l := l2) hl1
  have so := fun he => txt_st (most := 24) (e := e2) he l2
  generalize txt 24 e2 l2 = o at *
  obtain ⟨o, e3, l3⟩ := o
  simp only at h ho so ⊢
  have ha := fun hl1 => tkAs_yes (e := e3) (l := l3) hl1
  have sa := fun he => tkAs_st (e := e3) he l3
  generalize tkAs e3 l3 = a at *
  obtain ⟨a, e5, l5⟩ := a
  simp only at h ha sa ⊢
  have q3 : e3 = 0 := Classical.byContradiction fun q => sa q h
  have q2 : e2 = 0 := Classical.byContradiction fun q => by have := so q; injection this with _ t; injection t with t _; exact q (t ▸ q3)
  have q1 : e1 = 0 := Classical.byContradiction fun q => by have := sv q; injection this with _ t; injection t with t _; exact q (t ▸ q2)
  have hb : ¬ 1 < u.getD 1 0 := fun hb => by rw [if_pos hb] at he1; exact failE_no e0 (he1.trans q1)
  rw [if_neg hb] at he1
  have q0 : e0 = 0 := he1.trans q1
  obtain ⟨_, g1, hr⟩ := hu q0
  have b1 : Byt l1 := by rw [g1] at hl; exact byt_suf hl
  obtain ⟨_, g2, n2⟩ := hv b1 q2
  have b2 : Byt l2 := by rw [g2] at b1; exact byt_suf b1
  have c2 : Byt v := by rw [g2] at b1; exact byt_suf (byt_pre b1)
  obtain ⟨_, g3, n3⟩ := ho b2 q3
  have b3 : Byt l3 := by rw [g3] at b2; exact byt_suf b2
  have c3 : Byt o := by rw [g3] at b2; exact byt_suf (byt_pre b2)
  obtain ⟨_, _, g5⟩ := ha b3 h
  have hbit : bitN (decide (gi u 1 = 1)) = gi u 1 := by
    unfold bitN gi
    by_cases hq : u.getD 1 0 = 1
    · rw [hq]; rfl
    · have : u.getD 1 0 = 0 := by omega
      rw [this]; rfl
  unfold snB tN
  simp only [List.map_cons, List.map_nil, List.flatten_cons, List.flatten_nil, List.append_nil]
  rw [tP_bs c2 (by omega), tP_bs c3 (by omega), hbit, ← list7 hul]
  conv => lhs; rw [g1, g2, g3, g5]
  simp only [List.append_assoc]
theorem tkSn_to (s : Sen) (m : List Nat) (h : OkSn s ∧ ∀ a ∈ s.sp.ats, a.lab.p < 4294967296) : tkSn 0 (snB s ++ m) = (s, 0, m) := by
  obtain ⟨hk, hp⟩ := h
  have ho := hk.sp
  have h1 := ho.tr; have h2 := ho.id; have h3 := ho.pa; have h4 := ho.st; have h5 := ho.ln; have h6 := hk.dp
  have n1 := nm_size ho.sv; have n2 := nm_size ho.op
  have hbt : 0 ≤ bitN s.lo ∧ bitN s.lo ≤ 1 := by unfold bitN; split <;> omega
  have hr : ∀ n ∈ [s.dp, bitN s.lo, s.sp.tr, s.sp.id, s.sp.pa, s.sp.st, s.sp.ln], 0 ≤ n ∧ n ≤ 9007199254740991 := by
    intro n hn
    simp only [List.mem_cons, List.not_mem_nil, or_false] at hn
    rcases hn with rfl | rfl | rfl | rfl | rfl | rfl | rfl <;> omega
  have e0 : snB s ++ m = uN [s.dp, bitN s.lo, s.sp.tr, s.sp.id, s.sp.pa, s.sp.st, s.sp.ln] ++ ((tP s.sp.sv).1 ++ ((tP s.sp.op).1 ++ (asB s.sp.ats ++ m))) := by
    unfold snB tN
    simp [List.append_assoc]
  have e1 := tkU_to [s.dp, bitN s.lo, s.sp.tr, s.sp.id, s.sp.pa, s.sp.st, s.sp.ln] ((tP s.sp.sv).1 ++ ((tP s.sp.op).1 ++ (asB s.sp.ats ++ m))) hr
  rw [show [s.dp, bitN s.lo, s.sp.tr, s.sp.id, s.sp.pa, s.sp.st, s.sp.ln].length = 7 from rfl] at e1
  have hg : ¬ 1 < ([s.dp, bitN s.lo, s.sp.tr, s.sp.id, s.sp.pa, s.sp.st, s.sp.ln].map Int.toNat).getD 1 0 := by
    show ¬ 1 < (bitN s.lo).toNat
    omega
  unfold tkSn
  rw [e0]
  simp only [e1]
  rw [if_neg hg]
  simp only [txt_tP 24 s.sp.sv (by omega) (by omega)]
  simp only [txt_tP 24 s.sp.op (by omega) (by omega)]
  simp only [tkAs_to ho.ats hp, bs_sb]
  have g := fun k hk => gi_map [s.dp, bitN s.lo, s.sp.tr, s.sp.id, s.sp.pa, s.sp.st, s.sp.ln] k hk (fun n hn => (hr n hn).1)
  rw [g 0 (by simp), g 1 (by simp), g 2 (by simp), g 3 (by simp), g 4 (by simp), g 5 (by simp), g 6 (by simp)]
  have hsj := hk.sj
  obtain ⟨⟨tr, id, pa, sv, op, st, ln, sj, ats⟩, dp, lo⟩ := s
  simp only at hsj
  subst hsj
  have hlo : decide ((bitN lo) = 1) = lo := by cases lo <;> decide
  simp only [List.getElem_cons_succ, List.getElem_cons_zero, hlo]
theorem tkSn_pt (e : Int) (l : List Nat) : (∀ a ∈ (tkSn e l).1.sp.ats, a.lab.p < 4294967296) ∧ (tkSn e l).1.sp.ats.length ≤ 8 := by
  unfold tkSn
  simp only
  generalize txt 24 (txt 24 _ _).2.1 _ = j
  have h := tkLs_ok j.2.1 j.2.2
  unfold tkAs
  split
  · exact h
  · exact ⟨(by intro a ha; cases ha), by simp⟩
/-- An answer's fields off bytes: the answer, the error, what is left. -/
def tkAn (l : List Nat) : Ans × Int × List Nat :=
  let u := tkU 3 0 l
  let s := tkLm 1000 tkSn u.2.1 u.2.2
  let c := tkLm 20 tkCe s.2.1 s.2.2
  let d := tkLm 10000 tkEd c.2.1 c.2.2
  (⟨gi u.1 0, s.1, gi u.1 1, c.1, d.1, gi u.1 2⟩, d.2)
open Classical in
/-- What both Parses answer. -/
noncomputable def prAn (l : List Nat) : Ans × Int := if (tkAn l).2.1 = 0 ∧ (tkAn l).2.2 = [] ∧ OkAn (tkAn l).1 then ((tkAn l).1, 0) else (noAns, 270)
theorem tkAn_yes {l : List Nat} (hl : Byt l) (h : (tkAn l).2.1 = 0) : l = anB (tkAn l).1 ++ (tkAn l).2.2 := by
  have hu := tkU_yes 3 (e := 0) hl
  have hul := tkU_len 3 0 l
  unfold tkAn at h ⊢
  simp only at h ⊢
  generalize tkU 3 0 l = u at *
  obtain ⟨u, e1, l1⟩ := u
  simp only at h hu hul ⊢
  have hs := fun hl1 => tkLm_yes (most := 1000) tkSn_yes (e := e1) (l := l1) hl1
  have ss := fun he => tkLm_st 1000 tkSn (e := e1) he l1
  generalize tkLm 1000 tkSn e1 l1 = s at *
  obtain ⟨s, e2, l2⟩ := s
  simp only at h hs ss ⊢
  have hc := fun hl1 => tkLm_yes (most := 20) tkCe_yes (e := e2) (l := l2) hl1
  have sc := fun he => tkLm_st 20 tkCe (e := e2) he l2
  generalize tkLm 20 tkCe e2 l2 = c at *
  obtain ⟨c, e3, l3⟩ := c
  simp only at h hc sc ⊢
  have hd := fun hl1 => tkLm_yes (most := 10000) tkEd_yes (e := e3) (l := l3) hl1
  have sd := fun he => tkLm_st 10000 tkEd (e := e3) he l3
  generalize tkLm 10000 tkEd e3 l3 = d at *
  obtain ⟨d, e4, l4⟩ := d
  simp only at h hd sd ⊢
  have q3 : e3 = 0 := Classical.byContradiction fun q => sd q h
  have q2 : e2 = 0 := Classical.byContradiction fun q => sc q q3
  have q1 : e1 = 0 := Classical.byContradiction fun q => ss q q2
  obtain ⟨_, g1, _⟩ := hu q1
  have b1 : Byt l1 := by rw [g1] at hl; exact byt_suf hl
  obtain ⟨_, g2⟩ := hs b1 q2
  have b2 : Byt l2 := by rw [g2] at b1; exact byt_suf b1
  obtain ⟨_, g3⟩ := hc b2 q3
  have b3 : Byt l3 := by rw [g3] at b2; exact byt_suf b2
  obtain ⟨_, g4⟩ := hd b3 h
  unfold anB
  simp only
  rw [← list3 hul]
  conv => lhs; rw [g1, g2, g3, g4]
  simp only [List.append_assoc]
theorem tkAn_to {a : Ans} (h : OkAn a) (hp : PtS a.sn) (m : List Nat) : tkAn (anB a ++ m) = (a, 0, m) := by
  have h1 := h.er; have h2 := h.nx; have h3 := h.lf
  have hr : ∀ n ∈ [a.er, a.nx, a.lf], 0 ≤ n ∧ n ≤ 9007199254740991 := by
    intro n hn
    simp only [List.mem_cons, List.not_mem_nil, or_false] at hn
    rcases hn with rfl | rfl | rfl <;> omega
  have e0 : anB a ++ m = uN [a.er, a.nx, a.lf] ++ (lsB snB a.sn ++ (lsB ceB a.ce ++ (lsB edB a.ed ++ m))) := by
    unfold anB
    simp [List.append_assoc]
  have e1 := tkU_to [a.er, a.nx, a.lf] (lsB snB a.sn ++ (lsB ceB a.ce ++ (lsB edB a.ed ++ m))) hr
  rw [show [a.er, a.nx, a.lf].length = 3 from rfl] at e1
  have g := fun k hk => gi_map [a.er, a.nx, a.lf] k hk (fun n hn => (hr n hn).1)
  have g0 := g 0 (by simp)
  have g1 := g 1 (by simp)
  have g2 := g 2 (by simp)
  unfold tkAn
  rw [e0]
  simp only [e1]
  simp only [tkLm_to tkSn_to a.sn _ (fun x hx => ⟨h.sn.1.1 x hx, hp x hx⟩) h.sn.2 (by omega)]
  simp only [tkLm_to tkCe_to a.ce _ (fun x hx => h.ce.1.1 x hx) h.ce.2 (by omega)]
  simp only [tkLm_to tkEd_to a.ed _ (fun x hx => h.ed.1.1 x hx) h.ed.2 (by omega)]
  rw [g0, g1, g2]
  rfl
theorem prAn_to {a : Ans} (h : OkAn a) (hp : PtS a.sn) : prAn (anB a) = (a, 0) := by
  have e := tkAn_to h hp []
  rw [List.append_nil] at e
  unfold prAn
  rw [e, if_pos ⟨rfl, rfl, h⟩]
theorem prAn_more {a : Ans} (h : OkAn a) (hp : PtS a.sn) {m : List Nat} (hm : m ≠ []) : prAn (anB a ++ m) = (noAns, 270) := by
  have e := tkAn_to h hp m
  unfold prAn
  rw [e, if_neg (fun q => hm q.2.1)]
theorem tkAn_ats (l : List Nat) : ∀ s ∈ (tkAn l).1.sn, (∀ a ∈ s.sp.ats, a.lab.p < 4294967296) ∧ s.sp.ats.length ≤ 8 := by
  unfold tkAn
  simp only
  unfold tkLm
  exact tkM_all (p := fun s : Sen => (∀ a ∈ s.sp.ats, a.lab.p < 4294967296) ∧ s.sp.ats.length ≤ 8) tkSn_pt _ _ _
theorem prAn_ats (l : List Nat) : ∀ s ∈ (prAn l).1.sn, (∀ a ∈ s.sp.ats, a.lab.p < 4294967296) ∧ s.sp.ats.length ≤ 8 := by
  unfold prAn
  split
  · exact tkAn_ats l
  · intro s hs; cases hs
theorem prAn_pt (l : List Nat) : PtS (prAn l).1.sn := fun s hs => (prAn_ats l s hs).1
theorem prAn_or (l : List Nat) : (prAn l).2 = 0 ∨ prAn l = (noAns, 270) := by
  unfold prAn
  split
  · exact .inl rfl
  · exact .inr rfl
theorem noAns_ok : OkAn noAns := ⟨by decide, by decide, by decide, ⟨MayL.nil _ _, by decide⟩, ⟨MayL.nil _ _, by decide⟩, ⟨MayL.nil _ _, by decide⟩, .inl rfl⟩
theorem prAn_ok (l : List Nat) : OkAn (prAn l).1 := by
  unfold prAn
  split
  · rename_i h; exact h.2.2
  · exact noAns_ok
theorem prAn_yes {l : List Nat} (hl : Byt l) (h : (prAn l).2 = 0) : l = anB (prAn l).1 := by
  unfold prAn at h ⊢
  split
  · rename_i q
    have := tkAn_yes hl q.1
    rw [q.2.1, List.append_nil] at this
    exact this
  · rename_i q
    rw [if_neg q] at h
    exact absurd h (by decide)
theorem prAn_less {l : List Nat} (hl : Byt l) {x : Nat} (h : (prAn (l ++ [x])).2 = 0) : prAn l = (noAns, 270) := by
  rcases prAn_or l with q | q
  · exfalso
    have h1 := prAn_ok l
    have h2 := prAn_yes hl q
    have := prAn_more h1 (prAn_pt l) (m := [x]) (by simp)
    rw [← h2] at this
    rw [this] at h
    exact absurd h (by decide)
  · exact q
theorem anB_inj {a b : Ans} (ha : OkAn a) (hb : OkAn b) (pa : PtS a.sn) (pb : PtS b.sn) (h : anB a = anB b) : a = b := by
  have e1 := tkAn_to ha pa []
  have e2 := tkAn_to hb pb []
  rw [h] at e1
  have := e1.symm.trans e2
  injection this
theorem anB_pos (a : Ans) (h : OkAn a) : 0 < (anB a).length := by
  have h1 := h.er
  unfold anB uN
  simp only [List.map_cons, List.flatten_cons, List.length_append]
  have : 0 < (uP a.er).1.length := by
    unfold uP
    rw [if_pos (by omega)]
    simp only
    rw [Dig.length_enc]
    exact Dig.sz_pos _
  omega
theorem anB_ok {a : Ans} (h : OkAn a) (hp : PtS a.sn) : Byt (anB a) ∧ (anB a).length ≤ 2000000000 := by
  have h1 := flat_len (f := snB) (m := 140000) a.sn (fun x hx => snB_len (h.sn.1.1 x hx).sp (hp x hx))
  have h2 := flat_len (f := ceB) (m := 16) a.ce (fun x _ => ceB_len x)
  have h3 := flat_len (f := edB) (m := 140000) a.ed (fun x _ => edB_len x)
  have l1 := h.sn.2; have l2 := h.ce.2; have l3 := h.ed.2
  have u0 := uN_len [a.er, a.nx, a.lf]
  have u1 := uN_len [(a.sn.length : Int)]
  have u2 := uN_len [(a.ce.length : Int)]
  have u3 := uN_len [(a.ed.length : Int)]
  unfold anB lsB
  simp only [List.length_append, List.length_cons, List.length_nil] at *
  refine ⟨Byt.append (Byt.append (Byt.append (uN_byt _) ((uN_byt _).append h1.2)) ((uN_byt _).append h2.2)) ((uN_byt _).append h3.2), ?_⟩
  have k1 : 140000 * a.sn.length ≤ 140000 * 1000 := Nat.mul_le_mul_left _ l1
  have k3 : 140000 * a.ed.length ≤ 140000 * 10000 := Nat.mul_le_mul_left _ l3
  omega
end Go.Proofs.YtfedgjahbmcpoaaGreat
