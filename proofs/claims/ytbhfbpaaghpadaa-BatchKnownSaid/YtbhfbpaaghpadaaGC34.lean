/- Attributes with other bytes in their values, as many; where each one's bytes begin. Plain, no conditions. -/
import Derived.Test.YtbhfbpaaghpadaaGC24
import Derived.Lib.Repeat
import Derived.Test.YtbhfbpaaghpadaaGC23
set_option linter.unusedSimpArgs false
set_option linter.unusedVariables false
namespace Go.Proofs.Ytbhfbpaaghpadaa
open Go.RowKit

/-- So many bytes that are one. -/
def repB (by_ n : Nat) : ByteArray := ⟨(Lib.repeatL (bs [by_]).data.toList n).toArray⟩
theorem repB_size (b n : Nat) : (repB b n).size = n := by
  show (Lib.repeatL (bs [b]).data.toList n).toArray.size = n
  rw [List.size_toArray, Lib.repeatL_length]
  show n * [UInt8.ofNat b].length = n
  simp
def rep (b : Nat) (a : Att) : Att := if a.val.k = 2 then ⟨a.name, a.lab, ⟨a.val.k, a.val.n, repB b a.val.b.size⟩⟩ else a
theorem rep_name (b : Nat) (a : Att) : (rep b a).name = a.name := by unfold rep; split <;> rfl
theorem rep_lab (b : Nat) (a : Att) : (rep b a).lab = a.lab := by unfold rep; split <;> rfl
theorem rep_chk (b : Nat) (a : Att) : chkA (rep b a) = chkA a := by
  unfold rep
  split
  · rename_i h
    obtain ⟨nm0, lb0, ⟨k, n, s⟩⟩ := a
    simp only at h
    subst h
    unfold chkA
    simp only [chk_2, repB_size]
  · rfl
theorem rep_len {b : Nat} {a : Att} (h : chkA a = 0) : (ab (rep b a)).length = (ab a).length := by
  have h3 := (chkA_yes h).2.2
  have h4 := (chkA_yes ((rep_chk b a).trans h)).2.2
  unfold rep at h4 ⊢
  split
  · rename_i hk
    rw [if_pos hk] at h4
    obtain ⟨nm0, lb0, ⟨k, n, s⟩⟩ := a
    simp only at hk
    subst hk
    unfold ab vb
    simp only at h3 h4 ⊢
    rw [if_pos h3, if_pos h4]
    unfold vp
    have q : ¬ ((2 : Int) = 1) := by decide
    simp only [if_neg q, if_true, List.length_append, sb_length, repB_size]
  · rfl
theorem rep_okAt (b : Nat) (l : List Att) (i : Nat) : okAt (l.map (rep b)) i = okAt l i := by
  unfold okAt
  rw [List.getElem?_map, List.getElem?_map]
  cases l[i]? with
  | none => cases l[i - 1]? <;> rfl
  | some x =>
    cases l[i - 1]? with
    | none => rfl
    | some y => simp only [Option.map_some, rep_chk, rep_name]
theorem rep_may (b : Nat) (l : List Att) : mayA (l.map (rep b)) = mayA l := by
  unfold mayA
  rw [List.length_map, show okAt (l.map (rep b)) = okAt l from funext (rep_okAt b l)]
theorem rep_flat (b : Nat) : ∀ (l : List Att), (∀ a ∈ l, chkA a = 0) → (((l.map (rep b)).map ab).flatten).length = ((l.map ab).flatten).length
  | [], _ => rfl
  | a :: l, h => by
    simp only [List.map_cons, List.flatten_cons, List.length_append]
    rw [rep_len (h a (by simp)), rep_flat b l (fun x hx => h x (List.mem_cons_of_mem _ hx))]
theorem may_all {l : List Att} (h : mayA l = 0) : ∀ a ∈ l, chkA a = 0 := fun a ha => by
  obtain ⟨i, hi, rfl⟩ := List.getElem_of_mem ha
  exact may_att h hi
theorem rep_asB {b : Nat} {l : List Att} (h : mayA l = 0) : (asB (l.map (rep b))).length = (asB l).length := by
  unfold asB
  rw [List.length_append, List.length_append, List.length_map, rep_flat b l (may_all h)]

/-- Where the k-th one's bytes begin. -/
def qAt (l : List Att) (k : Nat) : Nat := 1 + (((l.take k).map ab).flatten).length
theorem enc_one {n : Nat} (h : n < 128) : (Dig.enc n).length = 1 := by
  rw [Dig.length_enc]
  have h1 := Dig.sz_of_lt n 1 (by omega) (by omega) (by omega)
  have h2 := Dig.sz_pos n
  omega
theorem qAt_succ {l : List Att} {k : Nat} (hk : k < l.length) : qAt l (k + 1) = qAt l k + (ab l[k]).length := by
  unfold qAt
  rw [take_snoc l k hk, List.map_append, List.flatten_append, List.length_append]
  simp
  omega
theorem asB_drop {l : List Att} (h8 : l.length ≤ 8) {k : Nat} (hk : k < l.length) : (asB l).drop (qAt l k) = ab l[k] ++ ((l.drop (k + 1)).map ab).flatten := by
  have e1 := enc_one (n := l.length) (by omega)
  have e : l = l.take k ++ (l[k] :: l.drop (k + 1)) := by
    rw [List.getElem_cons_drop]; exact (List.take_append_drop k l).symm
  have h2 : (l.map ab).flatten = ((l.take k).map ab).flatten ++ (ab l[k] ++ ((l.drop (k + 1)).map ab).flatten) := by
    have := congrArg (fun z => (z.map ab).flatten) e
    simp only [List.map_append, List.map_cons, List.flatten_append, List.flatten_cons] at this
    exact this
  unfold asB qAt
  rw [h2]
  generalize Dig.enc l.length = E at *
  generalize ((l.take k).map ab).flatten = F at *
  rw [← e1, ← List.append_assoc, List.drop_append, List.drop_of_length_le (by rw [List.length_append]; omega), List.nil_append, List.length_append, Nat.sub_self, List.drop_zero]
theorem asB_len {l : List Att} (h8 : l.length ≤ 8) : (asB l).length = qAt l l.length := by
  unfold asB qAt
  rw [List.take_length, List.length_append, enc_one (by omega)]
/-- What a reader takes off behind a name. -/
theorem raw_name {l : List Att} (h : mayA l = 0) {k : Nat} (hk : k < l.length) :
    tk 0 ((qAt l k + 1 + l[k].name.size : Nat) : Int) (asB l) = (true, (asB l).take (qAt l k + 1 + l[k].name.size), 0, (lb l[k].lab).1 ++ ((vb l[k].val).1 ++ ((l.drop (k + 1)).map ab).flatten)) := by
  have h8 := (may_yes h).1
  have hd := asB_drop h8 hk
  obtain ⟨y1, y2, y3⟩ := chkA_yes (may_att h hk)
  have hs := nm_size y1
  have e1 := enc_one (n := l[k].name.size) (by omega)
  have hl : (asB l).length = qAt l k + ((ab l[k]).length + (((l.drop (k + 1)).map ab).flatten).length) := by
    have := congrArg List.length hd
    rw [List.length_drop, List.length_append] at this
    have h3 : qAt l k ≤ (asB l).length := by
      rw [asB_len h8]
      have : ∀ m, k ≤ m → m ≤ l.length → qAt l k ≤ qAt l m := by
        intro m
        induction m with
        | zero => intro h1 _; rw [Nat.le_zero.1 h1]; exact Nat.le_refl _
        | succ m ih =>
          intro h1 h2
          rcases Nat.lt_or_ge k (m + 1) with h3 | h3
          · have := ih (by omega) (by omega)
            rw [qAt_succ (by omega)]
            omega
          · rw [show k = m + 1 by omega]; exact Nat.le_refl _
      exact this _ (by omega) (Nat.le_refl _)
    omega
  have hab : (ab l[k]).length = 1 + l[k].name.size + ((lb l[k].lab).1.length + (vb l[k].val).1.length) := by
    unfold ab
    simp only [List.length_append, sb_length, e1]
  unfold tk
  rw [if_neg (by simp), if_neg (by omega), if_neg (by omega), Int.toNat_natCast]
  congr 3
  rw [Nat.add_assoc, ← List.drop_drop, hd]
  unfold ab
  rw [List.append_assoc, List.drop_append, List.drop_of_length_le (by rw [List.length_append, sb_length, e1]; omega), List.nil_append]
  rw [List.length_append, sb_length, e1, Nat.sub_self, List.drop_zero, List.append_assoc]
theorem ab_len {l : List Att} (h : mayA l = 0) {k : Nat} (hk : k < l.length) : (ab l[k]).length = 1 + l[k].name.size + ((lb l[k].lab).1.length + (vb l[k].val).1.length) := by
  obtain ⟨y1, y2, y3⟩ := chkA_yes (may_att h hk)
  have hs := nm_size y1
  have e1 := enc_one (n := l[k].name.size) (by omega)
  unfold ab
  simp only [List.length_append, sb_length, e1]
theorem lb_two {x : Lab} (h : chkL x = 0) (hp : x.p < 4294967296) (m : List Nat) : ∃ m1, nb 9007199254740991 0 ((lb x).1 ++ m) = (x.l.toNat, 0, m1) ∧ nb 9007199254740991 0 m1 = (x.p, 0, m) := by
  have hb : (lb x).1 = Dig.enc x.l.toNat ++ Dig.enc x.p := by unfold lb; rw [if_pos h]
  rcases chkL_cases x with ⟨_, h1, h2⟩ | ⟨h0, _⟩
  · refine ⟨Dig.enc x.p ++ m, ?_, nbv_enc _ (by omega) (by omega) m⟩
    rw [hb, List.append_assoc, nbv_enc _ (by omega) (by omega)]
  · omega
end Go.Proofs.Ytbhfbpaaghpadaa
/- A batch with other bytes in its subjects, names and values, as many: as long. Plain, no conditions. -/
set_option linter.unusedSimpArgs false
set_option linter.unusedVariables false
namespace Go.Proofs.Ytbhfbpaaghpadaa
open Go.RowKit

theorem repL_mem {l : List UInt8} {x : UInt8} : ∀ (n : Nat), x ∈ Lib.repeatL l n → x ∈ l
  | 0, h => by simp [Lib.repeatL] at h
  | n + 1, h => by
    simp only [Lib.repeatL, List.mem_append] at h
    rcases h with h | h
    · first | exact h | exact repL_mem n h
    · first | exact h | exact repL_mem n h
theorem repB_all {b n : Nat} (hb : b < 256) : ∀ x ∈ sb (repB b n), x = b := by
  intro x hx
  unfold sb repB at hx
  obtain ⟨u, hu, rfl⟩ := List.mem_map.1 hx
  have h := repL_mem n hu
  have : u = UInt8.ofNat b := by simpa [bs] using h
  rw [this]
  simp
  omega
theorem repB_nm {b n : Nat} (hb : b < 256) (hl : ltr b = true) (h1 : 1 ≤ n) (h2 : n ≤ 24) : nm (sb (repB b n)) = true := by
  have hlen : (sb (repB b n)).length = n := by rw [sb_length, repB_size]
  have hall := repB_all (n := n) hb
  refine nm_yes (by omega) (by omega) ?_ ?_
  · have h0 : 0 < (sb (repB b n)).length := by omega
    rw [List.getD_eq_getElem?_getD, List.getElem?_eq_getElem h0, Option.getD_some, hall _ (List.getElem_mem h0)]
    exact hl
  · rw [List.all_eq_true]
    intro x hx
    rw [hall x hx]
    exact ltr_okc hl
def repS (b : Nat) (s : Spn) : Spn := ⟨s.tr, s.id, s.pa, repB 122 s.sv.size, repB 121 s.op.size, s.st, s.ln, repB b s.sj.size, s.ats.map (rep b)⟩
theorem ok_repS {b : Nat} {s : Spn} (h : OkS s) : OkS (repS b s) := by
  have h1 := nm_size h.sv
  have h2 := nm_size h.op
  exact ⟨h.tr, h.id, h.pa, h.st, h.ln, h.sum, repB_nm (by omega) (by decide) h1.1 h1.2, repB_nm (by omega) (by decide) h2.1 h2.2, by show (repB b s.sj.size).size ≤ 64; rw [repB_size]; exact h.sj, (rep_may b s.ats).trans h.ats⟩
theorem tP_len {s : ByteArray} (h : s.size ≤ 65535) : (tP s).1.length = Dig.sz s.size + s.size := by
  unfold tP
  rw [if_pos h]
  simp only
  rw [List.length_append, Dig.length_enc, sb_length]
theorem tN3_len {x y z : ByteArray} (hx : x.size ≤ 65535) (hy : y.size ≤ 65535) (hz : z.size ≤ 65535) : (tN [x, y, z]).length = (Dig.sz x.size + x.size) + ((Dig.sz y.size + y.size) + (Dig.sz z.size + z.size)) := by
  unfold tN
  simp only [List.map_cons, List.map_nil, List.flatten_cons, List.flatten_nil, List.length_append, List.length_nil, Nat.add_zero]
  rw [tP_len hx, tP_len hy, tP_len hz]
theorem spB_rep {b : Nat} {s : Spn} (h : OkS s) : (spB (repS b s)).length = (spB s).length := by
  have h1 := nm_size h.sv
  have h2 := nm_size h.op
  have h3 := h.sj
  unfold spB
  simp only [List.length_append]
  rw [show sN (repS b s) = sN s from rfl]
  have e1 : (tN (sT (repS b s))).length = (tN (sT s)).length := by
    unfold sT
    rw [tN3_len (by show (repB 122 s.sv.size).size ≤ _; rw [repB_size]; omega) (by show (repB 121 s.op.size).size ≤ _; rw [repB_size]; omega) (by show (repB b s.sj.size).size ≤ _; rw [repB_size]; omega), tN3_len (by omega) (by omega) (by omega)]
    show (Dig.sz (repB 122 s.sv.size).size + (repB 122 s.sv.size).size) + ((Dig.sz (repB 121 s.op.size).size + (repB 121 s.op.size).size) + (Dig.sz (repB b s.sj.size).size + (repB b s.sj.size).size)) = _
    rw [repB_size, repB_size, repB_size]
  have e2 : (asB (repS b s).ats).length = (asB s.ats).length := rep_asB h.ats
  rw [e1, e2]
theorem flat_repS {b : Nat} : ∀ (l : List Spn), (∀ s ∈ l, OkS s) → ((((l.map (repS b)).map spB)).flatten).length = ((l.map spB).flatten).length
  | [], _ => rfl
  | s :: l, h => by
    simp only [List.map_cons, List.flatten_cons, List.length_append]
    rw [spB_rep (h s (List.mem_cons_self)), flat_repS l (fun x hx => h x (List.mem_cons_of_mem _ hx))]
theorem btB_rep {k : Nat} {b : Bat} (h : OkB b) : (btB { b with sp := b.sp.map (repS k) }).length = (btB b).length := by
  unfold btB
  rw [List.length_append, List.length_append]
  show (uN [b.ag, b.sq, ((b.sp.map (repS k)).length : Int)]).length + (((b.sp.map (repS k)).map spB).flatten).length = _
  rw [List.length_map, flat_repS b.sp h.1.sp]
theorem ok_repB {k : Nat} {b : Bat} (h : OkB b) : OkB { b with sp := b.sp.map (repS k) } := by
  refine ⟨⟨h.1.ag, h.1.sq, ?_, ?_⟩, ?_⟩
  · show 1 ≤ (b.sp.map (repS k)).length ∧ (b.sp.map (repS k)).length ≤ 16
    rw [List.length_map]
    exact h.1.n
  · intro s hs
    obtain ⟨x, hx, rfl⟩ := List.mem_map.1 hs
    exact ok_repS (h.1.sp x hx)
  · rw [btB_rep h]
    exact h.2
end Go.Proofs.Ytbhfbpaaghpadaa
