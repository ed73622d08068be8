/- The document's Parse of an answer, in plain words: it answers as the program's. No conditions. -/
import Derived.Test.YtfedgjahbmcpoaaGreatGB25
set_option linter.unusedSimpArgs false
set_option linter.unusedVariables false
namespace Go.Proofs.YtfedgjahbmcpoaaGreat
open Go.RowKit

/-- A span as it is seen, off the document's reader: a bit that is neither 0 nor 1 is no failure here. -/
def tkSnR (e : Int) (l : List Nat) : Sen × Int × List Nat :=
  let u := tkU 7 e l
  let v := txt 24 u.2.1 u.2.2
  let o := txt 24 v.2.1 v.2.2
  let a := tkAs o.2.1 o.2.2
  (⟨⟨gi u.1 2, gi u.1 3, gi u.1 4, bs v.1, bs o.1, gi u.1 5, gi u.1 6, ⟨#[]⟩, a.1⟩, gi u.1 0, decide (gi u.1 1 = 1)⟩, a.2)
/-- A list of so many at most, and one more. -/
def tkLr {α : Type} (most : Nat) (one : Int → List Nat → α × Int × List Nat) (e : Int) (l : List Nat) : List α × Int × List Nat :=
  let n := nb 9007199254740991 e l
  tkM one (min n.1 (most + 1)) n.2.1 n.2.2
def tkAnR (l : List Nat) : Ans × Int × List Nat :=
  let u := tkU 3 0 l
  let s := tkLr 1000 tkSnR u.2.1 u.2.2
  let c := tkLr 20 tkCe s.2.1 s.2.2
  let d := tkLr 10000 tkEd c.2.1 c.2.2
  (⟨gi u.1 0, s.1, gi u.1 1, c.1, d.1, gi u.1 2⟩, d.2)
open Classical in
noncomputable def prAnR (l : List Nat) : Ans × Int := if (tkAnR l).2.1 = 0 ∧ (tkAnR l).2.2 = [] ∧ OkAn (tkAnR l).1 ∧ anB (tkAnR l).1 = l then ((tkAnR l).1, 0) else (noAns, 270)
theorem tkSnR_to (s : Sen) (m : List Nat) (h : OkSn s ∧ ∀ a ∈ s.sp.ats, a.lab.p < 4294967296) : tkSnR 0 (snB s ++ m) = (s, 0, m) := by
  obtain ⟨hk, hp⟩ := h
  have ho := hk.sp
  have h1 := ho.tr; have h2 := ho.id; have h3 := ho.pa; have h4 := ho.st; have h5 := ho.ln; have h6 := hk.dp
  have n1 := nm_size ho.sv; have n2 := nm_size ho.op
  have hbt : 0 ≤ bitN s.lo ∧ bitN s.lo ≤ 1 := by unfold bitN; split <;> omega
  have hr : ∀ n ∈ [s.dp, bitN s.lo, s.sp.tr, s.sp.id, s.sp.pa, s.sp.st, s.sp.ln], 0 ≤ n ∧ n ≤ 9007199254740991 := by
    intro n hn
    simp only [List.mem_cons, List.not_mem_nil, or_false] at hn
    rcases hn with rfl | rfl | rfl | rfl | rfl | rfl | rfl <;> omega
  have e0 : snB s ++ m = uN [s.dp, bitN s.lo, s.sp.tr, s.sp.id, s.sp.pa, s.sp.st, s.sp.ln] ++ ((tP s.sp.sv).1 ++ ((tP s.sp.op).1 ++ (asB s.sp.ats ++ m))) := by
    unfold snB tN
    simp [List.append_assoc]
  have e1 := tkU_to [s.dp, bitN s.lo, s.sp.tr, s.sp.id, s.sp.pa, s.sp.st, s.sp.ln] ((tP s.sp.sv).1 ++ ((tP s.sp.op).1 ++ (asB s.sp.ats ++ m))) hr
  rw [show [s.dp, bitN s.lo, s.sp.tr, s.sp.id, s.sp.pa, s.sp.st, s.sp.ln].length = 7 from rfl] at e1
  unfold tkSnR
  rw [e0]
  simp only [e1]
  simp only [txt_tP 24 s.sp.sv (by omega) (by omega)]
  simp only [txt_tP 24 s.sp.op (by omega) (by omega)]
  simp only [tkAs_to ho.ats hp, bs_sb]
  have g := fun k hk => gi_map [s.dp, bitN s.lo, s.sp.tr, s.sp.id, s.sp.pa, s.sp.st, s.sp.ln] k hk (fun n hn => (hr n hn).1)
  rw [g 0 (by simp), g 1 (by simp), g 2 (by simp), g 3 (by simp), g 4 (by simp), g 5 (by simp), g 6 (by simp)]
  have hsj := hk.sj
  obtain ⟨⟨tr, id, pa, sv, op, st, ln, sj, ats⟩, dp, lo⟩ := s
  simp only at hsj
  subst hsj
  have hlo : decide ((bitN lo) = 1) = lo := by cases lo <;> decide
  simp only [List.getElem_cons_succ, List.getElem_cons_zero, hlo]
theorem tkSnR_pt (e : Int) (l : List Nat) : (∀ a ∈ (tkSnR e l).1.sp.ats, a.lab.p < 4294967296) ∧ (tkSnR e l).1.sp.ats.length ≤ 8 := by
  unfold tkSnR
  simp only
  generalize txt 24 (txt 24 _ _).2.1 _ = j
  have h := tkLs_ok j.2.1 j.2.2
  unfold tkAs
  split
  · exact h
  · exact ⟨(by intro a ha; cases ha), by simp⟩
theorem tkLr_to {α : Type} {f : α → List Nat} {most : Nat} {one : Int → List Nat → α × Int × List Nat} {p : α → Prop} (hone : ∀ (x : α) (m : List Nat), p x → one 0 (f x ++ m) = (x, 0, m)) (l : List α) (m : List Nat) (h : ∀ x ∈ l, p x) (hl : l.length ≤ most) (hm : most ≤ 100000) : tkLr most one 0 (lsB f l ++ m) = (l, 0, m) := by
  have e1 := nbv_enc (most := 9007199254740991) l.length (by omega) (by omega) ((l.map f).flatten ++ m)
  unfold tkLr lsB
  rw [uN_one (by omega), List.append_assoc, e1]
  simp only
  rw [show min l.length (most + 1) = l.length by omega]
  exact tkM_to hone l m h
theorem tkAnR_to {a : Ans} (h : OkAn a) (hp : PtS a.sn) (m : List Nat) : tkAnR (anB a ++ m) = (a, 0, m) := by
  have h1 := h.er; have h2 := h.nx; have h3 := h.lf
  have hr : ∀ n ∈ [a.er, a.nx, a.lf], 0 ≤ n ∧ n ≤ 9007199254740991 := by
    intro n hn
    simp only [List.mem_cons, List.not_mem_nil, or_false] at hn
    rcases hn with rfl | rfl | rfl <;> omega
  have e0 : anB a ++ m = uN [a.er, a.nx, a.lf] ++ (lsB snB a.sn ++ (lsB ceB a.ce ++ (lsB edB a.ed ++ m))) := by
    unfold anB
    simp [List.append_assoc]
  have e1 := tkU_to [a.er, a.nx, a.lf] (lsB snB a.sn ++ (lsB ceB a.ce ++ (lsB edB a.ed ++ m))) hr
  rw [show [a.er, a.nx, a.lf].length = 3 from rfl] at e1
  have g := fun k hk => gi_map [a.er, a.nx, a.lf] k hk (fun n hn => (hr n hn).1)
  have g0 := g 0 (by simp)
  have g1 := g 1 (by simp)
  have g2 := g 2 (by simp)
  unfold tkAnR
  rw [e0]
  simp only [e1]
  simp only [tkLr_to tkSnR_to a.sn _ (fun x hx => ⟨h.sn.1.1 x hx, hp x hx⟩) h.sn.2 (by omega)]
  simp only [tkLr_to tkCe_to a.ce _ (fun x hx => h.ce.1.1 x hx) h.ce.2 (by omega)]
  simp only [tkLr_to tkEd_to a.ed _ (fun x hx => h.ed.1.1 x hx) h.ed.2 (by omega)]
  rw [g0, g1, g2]
  rfl
theorem tkAnR_ats (l : List Nat) : ∀ s ∈ (tkAnR l).1.sn, (∀ a ∈ s.sp.ats, a.lab.p < 4294967296) ∧ s.sp.ats.length ≤ 8 := by
  unfold tkAnR
  simp only
  unfold tkLr
  exact tkM_all (p := fun s : Sen => (∀ a ∈ s.sp.ats, a.lab.p < 4294967296) ∧ s.sp.ats.length ≤ 8) tkSnR_pt _ _ _
theorem prAnR_eq (l : List Nat) (hl : Byt l) : prAnR l = prAn l := by
  rcases prAn_or l with q | q
  · have h1 := prAn_ok l
    have h2 := prAn_yes hl q
    have h3 := tkAnR_to h1 (prAn_pt l) []
    rw [List.append_nil, ← h2] at h3
    unfold prAnR
    rw [h3, if_pos ⟨rfl, rfl, h1, h2.symm⟩]
    show ((prAn l).1, (0 : Int)) = prAn l
    rw [← q]
  · rw [q]
    unfold prAnR
    rw [if_neg]
    rintro ⟨_, _, h3, h4⟩
    have h5 := prAn_to h3 (fun s hs => (tkAnR_ats l s hs).1)
    rw [h4, q] at h5
    have := congrArg Prod.snd h5
    exact absurd (show (270 : Int) = 0 from this) (by decide)
end Go.Proofs.YtfedgjahbmcpoaaGreat
