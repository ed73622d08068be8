/- Attributes with other bytes in their values, as many; where each one's bytes begin. Plain, no conditions. -/
import Derived.Test.YtbbejajnfajpoaaVBack
import Derived.Lib.Repeat
set_option linter.unusedSimpArgs false
set_option linter.unusedVariables false
namespace Go.Proofs.Ytbbejajnfajpoaa
open Go.RowKit

/-- So many bytes that are one. -/
def repB (by_ n : Nat) : ByteArray := ⟨(Lib.repeatL (bs [by_]).data.toList n).toArray⟩
theorem repB_size (b n : Nat) : (repB b n).size = n := by
  show (Lib.repeatL (bs [b]).data.toList n).toArray.size = n
  rw [List.size_toArray, Lib.repeatL_length]
  show n * [UInt8.ofNat b].length = n
  simp
def rep (b : Nat) (a : Att) : Att := if a.val.k = 2 then ⟨a.name, a.lab, ⟨a.val.k, a.val.n, repB b a.val.b.size⟩⟩ else a
theorem rep_name (b : Nat) (a : Att) : (rep b a).name = a.name := by unfold rep; split <;> rfl
theorem rep_lab (b : Nat) (a : Att) : (rep b a).lab = a.lab := by unfold rep; split <;> rfl
theorem rep_chk (b : Nat) (a : Att) : chkA (rep b a) = chkA a := by
  unfold rep
  split
  · rename_i h
    obtain ⟨nm0, lb0, ⟨k, n, s⟩⟩ := a
    simp only at h
    subst h
    unfold chkA
    simp only [chk_2, repB_size]
  · rfl
theorem rep_len {b : Nat} {a : Att} (h : chkA a = 0) : (ab (rep b a)).length = (ab a).length := by
  have h3 := (chkA_yes h).2.2
  have h4 := (chkA_yes ((rep_chk b a).trans h)).2.2
  unfold rep at h4 ⊢
  split
  · rename_i hk
    rw [if_pos hk] at h4
    obtain ⟨nm0, lb0, ⟨k, n, s⟩⟩ := a
    simp only at hk
    subst hk
    unfold ab vb
    simp only at h3 h4 ⊢
    rw [if_pos h3, if_pos h4]
    unfold vp
    have q : ¬ ((2 : Int) = 1) := by decide
    simp only [if_neg q, if_true, List.length_append, sb_length, repB_size]
  · rfl
theorem rep_okAt (b : Nat) (l : List Att) (i : Nat) : okAt (l.map (rep b)) i = okAt l i := by
  unfold okAt
  rw [List.getElem?_map, List.getElem?_map]
  cases l[i]? with
  | none => cases l[i - 1]? <;> rfl
  | some x =>
    cases l[i - 1]? with
    | none => rfl
    | some y => simp only [Option.map_some, rep_chk, rep_name]
theorem rep_may (b : Nat) (l : List Att) : mayA (l.map (rep b)) = mayA l := by
  unfold mayA
  rw [List.length_map, show okAt (l.map (rep b)) = okAt l from funext (rep_okAt b l)]
theorem rep_flat (b : Nat) : ∀ (l : List Att), (∀ a ∈ l, chkA a = 0) → (((l.map (rep b)).map ab).flatten).length = ((l.map ab).flatten).length
  | [], _ => rfl
  | a :: l, h => by
    simp only [List.map_cons, List.flatten_cons, List.length_append]
    rw [rep_len (h a (by simp)), rep_flat b l (fun x hx => h x (List.mem_cons_of_mem _ hx))]
theorem may_all {l : List Att} (h : mayA l = 0) : ∀ a ∈ l, chkA a = 0 := fun a ha => by
  obtain ⟨i, hi, rfl⟩ := List.getElem_of_mem ha
  exact may_att h hi
theorem rep_asB {b : Nat} {l : List Att} (h : mayA l = 0) : (asB (l.map (rep b))).length = (asB l).length := by
  unfold asB
  rw [List.length_append, List.length_append, List.length_map, rep_flat b l (may_all h)]

/-- Where the k-th one's bytes begin. -/
def qAt (l : List Att) (k : Nat) : Nat := 1 + (((l.take k).map ab).flatten).length
theorem enc_one {n : Nat} (h : n < 128) : (Dig.enc n).length = 1 := by
  rw [Dig.length_enc]
  have h1 := Dig.sz_of_lt n 1 (by omega) (by omega) (by omega)
  have h2 := Dig.sz_pos n
  omega
theorem qAt_succ {l : List Att} {k : Nat} (hk : k < l.length) : qAt l (k + 1) = qAt l k + (ab l[k]).length := by
  unfold qAt
  rw [take_snoc l k hk, List.map_append, List.flatten_append, List.length_append]
  simp
  omega
theorem asB_drop {l : List Att} (h8 : l.length ≤ 8) {k : Nat} (hk : k < l.length) : (asB l).drop (qAt l k) = ab l[k] ++ ((l.drop (k + 1)).map ab).flatten := by
  have e1 := enc_one (n := l.length) (by omega)
  have e : l = l.take k ++ (l[k] :: l.drop (k + 1)) := by
    rw [List.getElem_cons_drop]; exact (List.take_append_drop k l).symm
  have h2 : (l.map ab).flatten = ((l.take k).map ab).flatten ++ (ab l[k] ++ ((l.drop (k + 1)).map ab).flatten) := by
    have := congrArg (fun z => (z.map ab).flatten) e
    simp only [List.map_append, List.map_cons, List.flatten_append, List.flatten_cons] at this
    exact this
  unfold asB qAt
  rw [h2]
  generalize Dig.enc l.length = E at *
  generalize ((l.take k).map ab).flatten = F at *
  rw [← e1, ← List.append_assoc, List.drop_append, List.drop_of_length_le (by rw [List.length_append]; omega), List.nil_append, List.length_append, Nat.sub_self, List.drop_zero]
theorem asB_len {l : List Att} (h8 : l.length ≤ 8) : (asB l).length = qAt l l.length := by
  unfold asB qAt
  rw [List.take_length, List.length_append, enc_one (by omega)]
/-- What a reader takes off behind a name. -/
theorem raw_name {l : List Att} (h : mayA l = 0) {k : Nat} (hk : k < l.length) :
    tk 0 ((qAt l k + 1 + l[k].name.size : Nat) : Int) (asB l) = (true, (asB l).take (qAt l k + 1 + l[k].name.size), 0, (lb l[k].lab).1 ++ ((vb l[k].val).1 ++ ((l.drop (k + 1)).map ab).flatten)) := by
  have h8 := (may_yes h).1
  have hd := asB_drop h8 hk
  obtain ⟨y1, y2, y3⟩ := chkA_yes (may_att h hk)
  have hs := nm_size y1
  have e1 := enc_one (n := l[k].name.size) (by omega)
  have hl : (asB l).length = qAt l k + ((ab l[k]).length + (((l.drop (k + 1)).map ab).flatten).length) := by
    have := congrArg List.length hd
    rw [List.length_drop, List.length_append] at this
    have h3 : qAt l k ≤ (asB l).length := by
      rw [asB_len h8]
      have : ∀ m, k ≤ m → m ≤ l.length → qAt l k ≤ qAt l m := by
        intro m
        induction m with
        | zero => intro h1 _; rw [Nat.le_zero.1 h1]; exact Nat.le_refl _
        | succ m ih =>
          intro h1 h2
          rcases Nat.lt_or_ge k (m + 1) with h3 | h3
          · have := ih (by omega) (by omega)
            rw [qAt_succ (by omega)]
            omega
          · rw [show k = m + 1 by omega]; exact Nat.le_refl _
      exact this _ (by omega) (Nat.le_refl _)
    omega
  have hab : (ab l[k]).length = 1 + l[k].name.size + ((lb l[k].lab).1.length + (vb l[k].val).1.length) := by
    unfold ab
    simp only [List.length_append, sb_length, e1]
  unfold tk
  rw [if_neg (by simp), if_neg (by omega), if_neg (by omega), Int.toNat_natCast]
  congr 3
  rw [Nat.add_assoc, ← List.drop_drop, hd]
  unfold ab
  rw [List.append_assoc, List.drop_append, List.drop_of_length_le (by rw [List.length_append, sb_length, e1]; omega), List.nil_append]
  rw [List.length_append, sb_length, e1, Nat.sub_self, List.drop_zero, List.append_assoc]
theorem ab_len {l : List Att} (h : mayA l = 0) {k : Nat} (hk : k < l.length) : (ab l[k]).length = 1 + l[k].name.size + ((lb l[k].lab).1.length + (vb l[k].val).1.length) := by
  obtain ⟨y1, y2, y3⟩ := chkA_yes (may_att h hk)
  have hs := nm_size y1
  have e1 := enc_one (n := l[k].name.size) (by omega)
  unfold ab
  simp only [List.length_append, sb_length, e1]
theorem lb_two {x : Lab} (h : chkL x = 0) (hp : x.p < 4294967296) (m : List Nat) : ∃ m1, nb 9007199254740991 0 ((lb x).1 ++ m) = (x.l.toNat, 0, m1) ∧ nb 9007199254740991 0 m1 = (x.p, 0, m) := by
  have hb : (lb x).1 = Dig.enc x.l.toNat ++ Dig.enc x.p := by unfold lb; rw [if_pos h]
  rcases chkL_cases x with ⟨_, h1, h2⟩ | ⟨h0, _⟩
  · refine ⟨Dig.enc x.p ++ m, ?_, nbv_enc _ (by omega) (by omega) m⟩
    rw [hb, List.append_assoc, nbv_enc _ (by omega) (by omega)]
  · omega
end Go.Proofs.Ytbbejajnfajpoaa
