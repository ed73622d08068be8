/- All frames of bytes, in plain words; lists of numbers, lists of bytes in memory of one's own. No conditions. -/
import Derived.Test.YtmnabhennibddaaGC20
import Derived.Test.YtmnabhennibddaaGC21
set_option linter.unusedSimpArgs false
set_option linter.unusedVariables false
namespace Go.Proofs.Ytmnabhennibddaa
open Go.RowKit

/-- The frames that bytes begin with, how many bytes they have, why there is no more. -/
def allN : Nat → List Nat → List (Nat × List Nat) × Nat × Int
  | 0, _ => ([], 0, 3)
  | n + 1, l => if (fstP l).2 = 0 then (((fstP l).1.1, (fstP l).1.2.1) :: (allN n (l.drop (fstP l).1.2.2)).1, (fstP l).1.2.2 + (allN n (l.drop (fstP l).1.2.2)).2.1, (allN n (l.drop (fstP l).1.2.2)).2.2) else ([], 0, (fstP l).2)
theorem frame_pos (k : Nat) (b : List Nat) : 0 < (Par.frame k b).length := by
  unfold Par.frame
  rw [List.length_append, crc_row_length]
  omega
/-- What All answers. -/
def alP (l : List Nat) : List (Nat × List Nat) × List Nat × Int :=
  let x := allN (l.length + 1) l
  if x.2.2 = 30 then ([], [], 30) else (x.1, l.drop x.2.1, 0)
theorem allN_step {n : Nat} {l : List Nat} (h : (fstP l).2 = 0) : allN (n + 1) l = (((fstP l).1.1, (fstP l).1.2.1) :: (allN n (l.drop (fstP l).1.2.2)).1, (fstP l).1.2.2 + (allN n (l.drop (fstP l).1.2.2)).2.1, (allN n (l.drop (fstP l).1.2.2)).2.2) := by
  simp only [allN, if_pos h]
theorem allN_stop {n : Nat} {l : List Nat} (h : (fstP l).2 ≠ 0) : allN (n + 1) l = ([], 0, (fstP l).2) := by
  simp only [allN, if_neg h]
theorem fst_drop {l : List Nat} (hl : Byt l) (h : (fstP l).2 = 0) : (fstP l).1.2.2 ≤ l.length ∧ 0 < (fstP l).1.2.2 ∧ (l.drop (fstP l).1.2.2).length < l.length := by
  obtain ⟨h1, _, _, h2⟩ := fstP_ok hl h
  have h3 := frame_pos (fstP l).1.1 (fstP l).1.2.1
  have h4 := congrArg List.length h1
  rw [List.length_append, ← h2] at h4
  rw [← h2] at h3
  rw [List.length_drop] at h4
  rw [List.length_drop]
  omega
theorem allN_le : ∀ (n : Nat) {l : List Nat}, Byt l → (allN n l).2.1 ≤ l.length ∧ ∀ x ∈ (allN n l).1, Byt x.2 ∧ x.2.length ≤ 65536 ∧ x.1 ≤ 127
  | 0, l, _ => ⟨Nat.zero_le _, (by intro x hx; cases hx)⟩
  | n + 1, l, hl => by
    by_cases h : (fstP l).2 = 0
    · obtain ⟨h1, h2, h3, h4⟩ := fstP_ok hl h
      obtain ⟨g1, g2, g3⟩ := fst_drop hl h
      have ih := allN_le n (l := l.drop (fstP l).1.2.2) (fun x hx => hl x (List.mem_of_mem_drop hx))
      rw [allN_step h]
      refine ⟨by have := ih.1; rw [List.length_drop] at this; show _ + _ ≤ _; omega, fun x hx => ?_⟩
      rcases List.mem_cons.1 hx with rfl | hx
      · refine ⟨fun y hy => hl y ?_, h3, h2⟩
        rw [h1]
        refine List.mem_append_left _ ?_
        unfold Par.frame Par.hd
        simp only [List.mem_append]
        exact .inl (.inr (.inr hy))
      · exact ih.2 x hx
    · rw [allN_stop h]
      exact ⟨Nat.zero_le _, (by intro x hx; cases hx)⟩
theorem allN_len : ∀ (n : Nat) {l : List Nat}, Byt l → (allN n l).1.length ≤ l.length
  | 0, l, _ => Nat.zero_le _
  | n + 1, l, hl => by
    by_cases h : (fstP l).2 = 0
    · obtain ⟨g1, g2, g3⟩ := fst_drop hl h
      have ih := allN_len n (l := l.drop (fstP l).1.2.2) (fun x hx => hl x (List.mem_of_mem_drop hx))
      rw [allN_step h]
      simp only [List.length_cons]
      omega
    · rw [allN_stop h]
      exact Nat.zero_le _
theorem allN_e : ∀ (n : Nat) (l : List Nat), (allN n l).2.2 = 3 ∨ (allN n l).2.2 = 30
  | 0, l => .inl rfl
  | n + 1, l => by
    by_cases h : (fstP l).2 = 0
    · rw [allN_step h]
      exact allN_e n _
    · rw [allN_stop h]
      exact (fstP_no l h).2
/-- Numbers in memory. -/
def inR : RdE Int := { k := 1, kpos := by omega, rd := fun _ x cs => cs = [.int .i64 x], len := fun w x cs h => by rw [h]; rfl, below := fun w w' x cs h _ => h }
/-- Lists of bytes in memory. -/
def blR : RdE (List Nat) := { k := 1, kpos := by omega, rd := fun w x cs => ∃ A n c, cs = [.slice A n c] ∧ BS w A n c x, len := fun w x cs ⟨_, _, _, h, _⟩ => by rw [h]; rfl, below := fun w w' x cs ⟨A, n, c, h, hb⟩ hB => ⟨A, n, c, h, hb.below hB⟩ }
def inO : RoE inR where
  T := 3
  ro := fun _ _ x cs => cs = [.int .i64 x]
  len := fun w b x cs h => (by rw [h]; rfl)
  one := fun w b x cs h => (by
    subst h
    intro u hu
    rw [List.mem_singleton] at hu
    rw [hu]
    rfl)
  keep := fun w w' b x cs h _ => h
  base := fun w b b' x cs h _ => h
def blO : RoE blR where
  T := 22
  ro := fun w b x cs => ∃ v, cs = [v] ∧ w.ownsRow b 5 1 v x.length (bv x)
  len := fun w b x cs ⟨v, h, _⟩ => (by rw [h]; rfl)
  one := fun w b x cs ⟨v, h, ho⟩ => (by
    subst h
    intro u hu
    rw [List.mem_singleton] at hu
    rw [hu]
    rcases ho.2 with ⟨e, _⟩ | ⟨_, _, _, e, _⟩ <;> rw [e] <;> rfl)
  keep := fun w w' b x cs ⟨v, h, ho⟩ hk => ⟨v, h, own_keep ho (fun k c mk hb _ hc => hk k c _ mk hb (by decide) hc)⟩
  base := fun w b b' x cs ⟨v, h, ho⟩ hb => ⟨v, h, ownsRow_base ho hb⟩
theorem inO_rd : ∀ (w : World) b x cs, True → inO.ro w b x cs → inR.rd w x cs := fun _ _ _ _ _ h => h
theorem blO_rd : ∀ (w : World) b x cs, (Byt x ∧ x.length ≤ 140737488354304) → blO.ro w b x cs → blR.rd w x cs := by
  rintro w b x cs ⟨hp, hl⟩ ⟨v, h, ho⟩
  obtain ⟨A, n, c, e, hA, _⟩ := ownsRow_bs ho hp hl
  exact ⟨A, n, c, by rw [h, e], hA⟩
theorem infoIn : (Try.prog.info? 3).map (fun i => (i.zero, i.size, i.bytes)) = some (some (.int .i64 0), 1, 8) := by kernel_rfl
theorem infoBl : (Try.prog.info? 22).map (fun i => (i.zero, i.size, i.bytes)) = some (some (.slice none 0 0), 1, 24) := by kernel_rfl
/-- What All answers, in memory. -/
def AllR (w w' : World) (r : Ending) (x : List (Nat × List Nat) × List Nat × Int) : Prop :=
  ∃ v u z, r = .returned (.tuple #[v, u, z, .int .i64 x.2.2]) ∧ EOwn inO w' w.heap.size v (x.1.map fun f => (f.1 : Int)) ∧ EOwn blO w' w.heap.size u (x.1.map (·.2)) ∧ w'.ownsRow w.heap.size 5 1 z x.2.1.length (bv x.2.1) ∧ Below w.heap.size w w'
end Go.Proofs.Ytmnabhennibddaa
