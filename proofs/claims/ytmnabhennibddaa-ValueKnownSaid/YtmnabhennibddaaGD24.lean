/- value.Attrs: its contract. No conditions. -/
import Derived.Test.YtmnabhennibddaaGD23
import Derived.Test.YtmnabhennibddaaGD10
import Derived.Test.YtmnabhennibddaaGD11
import Derived.BigQuiet
import Derived.Deep.QuietTactic
set_option linter.unusedSimpArgs false
set_option linter.unusedVariables false
namespace Go.Proofs.Ytmnabhennibddaa
open Go.RowKit

/-- An attribute's bytes; a list's; what Attrs answers. -/
def ab (a : Att) : List Nat := (Dig.enc a.name.size ++ sb a.name) ++ ((lb a.lab).1 ++ (vb a.val).1)
def asB (l : List Att) : List Nat := Dig.enc l.length ++ (l.map ab).flatten
def atP (l : List Att) : List Nat × Int := if mayA l = 0 then (asB l, 0) else ([], 80)
theorem may_cases (l : List Att) : mayA l = 0 ∨ mayA l = 80 := by
  unfold mayA
  split
  · exact .inl rfl
  · exact .inr rfl
theorem may_yes {l : List Att} (h : mayA l = 0) : l.length ≤ 8 ∧ ∀ i (hi : i < l.length), okAt l i = true := by
  unfold mayA at h
  split at h
  · rename_i h1
    refine ⟨h1.1, fun i hi => ?_⟩
    exact List.all_eq_true.1 h1.2 i (List.mem_range.2 hi)
  · simp at h
theorem may_att {l : List Att} (h : mayA l = 0) {i : Nat} (hi : i < l.length) : chkA l[i] = 0 := by
  have h1 := (may_yes h).2 i hi
  rw [okAt_of hi] at h1
  simp only [Bool.and_eq_true, decide_eq_true_eq] at h1
  exact h1.1
theorem chkA_yes {a : Att} (h : chkA a = 0) : nm (sb a.name) = true ∧ chkL a.lab = 0 ∧ chkV a.val = 0 := by
  unfold chkA at h
  split at h
  · assumption
  · simp at h
theorem nm_size {s : ByteArray} (h : nm (sb s) = true) : 1 ≤ s.size ∧ s.size ≤ 24 := by
  unfold nm at h
  simp only [Bool.and_eq_true, decide_eq_true_eq] at h
  have := h.1.1
  rwa [sb_length] at this
theorem lb_ok (x : Lab) (hp : x.p < 4294967296) : Byt (lb x).1 ∧ (lb x).1.length ≤ 16 := by
  unfold lb
  split
  · rename_i h
    have hl : x.l.toNat < 72057594037927936 := by
      unfold chkL at h
      split at h
      · omega
      · simp at h
    refine ⟨Byt.append (Dig.enc_byt _ hl) (Dig.enc_byt _ (by omega)), ?_⟩
    simp only
    rw [List.length_append, Dig.length_enc, Dig.length_enc]
    have := Dig.sz_le x.l.toNat
    have := Dig.sz_le x.p
    omega
  · exact ⟨(by intro y hy; cases hy), by simp⟩
theorem vb_ok (x : Val) : Byt (vb x).1 ∧ (vb x).1.length ≤ 88 := by
  unfold vb
  split
  · rename_i h
    have hc := chk_cases h
    have hk : x.k.toNat < 72057594037927936 := by omega
    have hsz := Dig.sz_le x.k.toNat
    unfold vp
    simp only
    rcases hc with ⟨h1, h2, h3, _⟩ | ⟨h1, h2, h3⟩ | ⟨h1, h2, _⟩
    · rw [if_pos h1]
      have hz := zig_le x.n h2 h3
      refine ⟨Byt.append (Dig.enc_byt _ hk) (Dig.enc_byt _ (by omega)), ?_⟩
      rw [List.length_append, Dig.length_enc, Dig.length_enc]
      have := Dig.sz_le (zig x.n)
      omega
    · rw [if_neg (by omega), if_pos h1]
      refine ⟨Byt.append (Dig.enc_byt _ hk) (Byt.append (Dig.enc_byt _ (by omega)) (sb_byt _)), ?_⟩
      rw [List.length_append, List.length_append, Dig.length_enc, Dig.length_enc, sb_length]
      have := Dig.sz_le x.b.size
      omega
    · rw [if_neg (by omega), if_neg (by omega)]
      refine ⟨Byt.append (Dig.enc_byt _ hk) (Dig.enc_byt _ (by omega)), ?_⟩
      rw [List.length_append, Dig.length_enc, Dig.length_enc]
      have := Dig.sz_le x.n.toNat
      omega
  · exact ⟨(by intro y hy; cases hy), by simp⟩
/-- A boxed attribute. -/
def BA (w : World) (q : Nat) (x : Att) : Prop := w.heap[q]? = some (.cells #[.string x.name, .int .i64 x.lab.l, .int .u32 (x.lab.p : Int), .int .i64 x.val.k, .int .i64 x.val.n, .string x.val.b] 49 (0, 0))
theorem BA.cells {w : World} {q : Nat} {x : Att} (h : BA w q x) : w.cell? ⟨q, 0, none⟩ = some (.string x.name) ∧ w.cell? ⟨q, 1, none⟩ = some (.int .i64 x.lab.l) ∧ w.cell? ⟨q, 2, none⟩ = some (.int .u32 (x.lab.p : Int)) ∧
    w.cell? ⟨q, 3, none⟩ = some (.int .i64 x.val.k) ∧ w.cell? ⟨q, 4, none⟩ = some (.int .i64 x.val.n) ∧ w.cell? ⟨q, 5, none⟩ = some (.string x.val.b) :=
  ⟨cell_of h 0, cell_of h 1, cell_of h 2, cell_of h 3, cell_of h 4, cell_of h 5⟩
theorem BA.below {w w' : World} {q : Nat} {x : Att} (h : BA w q x) (hb : Below w.heap.size w w') : BA w' q x := (hb.block q (Array.getElem?_eq_some_iff.1 h).1).trans h
theorem BA.new (w : World) (x : Att) : BA (w.alloc (.cells #[.string x.name, .int .i64 x.lab.l, .int .u32 (x.lab.p : Int), .int .i64 x.val.k, .int .i64 x.val.n, .string x.val.b] 49)) w.heap.size x := heap_alloc_new w _

set_option maxHeartbeats 16000000 in
set_option maxRecDepth 100000 in
theorem attrs_any {A : Option Addr} {n c : Nat} {l : List Att} {w : World} (h : AS w A n c l) :
    Calls Try.prog 21 #[.slice A n c] w fun e w' => TwoB w w' e (atP l).1 (atP l).2 := by
  obtain rfl := h.len
  have HL := Lib.hid h
  have hlim := h.lim
  have HM := Lib.hid (may_any h)
  clear h
  obtain ⟨X, hX⟩ : ∃ X, X = atP l := ⟨_, rfl⟩
  rw [← hX]
  unfold atP at hX
  have HX := Lib.hid hX
  clear hX
  rcases may_cases l with h0 | h0
  · rw [h0] at HM
    have HX1 := Lib.hid (HX.out.trans (if_pos h0))
    have HY := Lib.hid (may_yes h0)
    have HCK := Lib.hid (fun i (hi : i < l.length) => may_att h0 hi)
    have h8 : l.length ≤ 8 := HY.out.1
    have P0 := Lib.hid (fun w => U_any (l.length : Int) w (by omega) (by omega))
    rw [Int.toNat_natCast] at P0
    have Z0 : Hid ((Dig.enc l.length).length ≤ 8) := Lib.hid (by rw [Dig.length_enc]; exact Dig.sz_le _)
    clear h0 HX
    go_enter Try.func21, Try.ntmps21
    go_wp2_with fail
    refine HM.out.mono ?_
    rintro e w1 ⟨rfl, hb1⟩
    go_wp2_with fail
    refine (P0.out _).mono ?_
    rintro e w2 ⟨v1, rfl, ho1, hb2⟩
    obtain ⟨A1, n1, c1, rfl, _⟩ : ∃ A4 n4 c4, v1 = .slice A4 n4 c4 ∧ True := (by rcases ho1.2 with ⟨h, _⟩ | ⟨g', cap, cur, h, _⟩ <;> exact ⟨_, _, _, h, trivial⟩)
    have O1 := Lib.hid (ownsRow_base ho1 hb1.size)
    have hb02 := nx hb1 hb2
    clear ho1
    go_wp2_with fail
    obtain ⟨W0, hW0⟩ : ∃ W0, W0 = (w2.alloc (.cells #[.slice A1 n1 c1] 22)).alloc (.cells #[.int .i64 0] 24) := ⟨_, rfl⟩
    obtain ⟨q5, hq5⟩ : ∃ q, q = w2.heap.size := ⟨_, rfl⟩
    obtain ⟨q6, hq6⟩ : ∃ q, q = w2.heap.size + 1 := ⟨_, rfl⟩
    rw [← hW0, ← hq6, ← hq5]
    have hps : PS w W0 q5 q6 (Dig.enc l.length) 0 := by
      subst hW0 hq5 hq6
      refine ⟨(hb02.alloc hb02.size _).alloc (by have := hb02.size; simp; omega) _, ⟨.slice A1 n1 c1, (Below.heap_alloc _ _ _ (by simp)).trans (heap_alloc_new w2 _), (O1.out.alloc _).alloc _⟩, ?_, hb02.size, by have := hb02.size; omega, by omega⟩
      have := heap_alloc_new (w2.alloc (.cells #[.slice A1 n1 c1] 22)) (.cells #[.int .i64 0] 24)
      simpa using this
    have HPS := Lib.hid hps
    clear hps hW0 hq5 hq6 O1 hb1 hb2 hb02
    go_loopw [24] (fun i wr => ∃ k : Nat, k ≤ l.length ∧ i = .int .i64 k ∧ Hid (PS w wr q5 q6 (Dig.enc l.length ++ ((l.take k).map ab).flatten) 0) ∧ Hid ((((l.take k).map ab).flatten).length ≤ 160 * k)) (fun i _ => l.length - (intOf i).toNat)
    case atStart => exact ⟨0, Nat.zero_le _, rfl, Lib.hid (by simpa using HPS.out), Lib.hid (by simp)⟩
    case round =>
      clear HPS
      obtain ⟨k, hk, rfl, HPS, HSZ⟩ := hrel
      by_cases hlt : k < l.length
      · obtain ⟨g, o, hA, hc⟩ := HL.out.cellsAt HPS.out.bel hlt
        subst hA
        have haa : (⟨g, o, none⟩ : Addr).add (k * 6) = ⟨g, o + k * 6, none⟩ := addr_add _ _ _
        obtain ⟨y1, y2, y3⟩ := chkA_yes (HCK.out k hlt)
        have hp := HL.out.pt _ (List.getElem_mem hlt)
        have hsn : ((l.take (k + 1)).map ab).flatten = ((l.take k).map ab).flatten ++ ab l[k] := by
          rw [take_snoc l k hlt, List.map_append, List.flatten_append]; simp
        obtain ⟨a, ha⟩ : ∃ a, a = l[k] := ⟨_, rfl⟩
        rw [← ha] at hc y1 y2 y3 hp hsn
        have hnsz := nm_size y1
        have hl2 : (lb a.lab).2 = 0 := by unfold lb; rw [if_pos y2]
        have hv2 : (vb a.val).2 = 0 := by unfold vb; rw [if_pos y3]
        have T0 := Lib.hid (fun w => Text_any a.name w (by omega))
        have T1 := Lib.hid (fun w => veilBytes_any a.lab hp w)
        have T2 := Lib.hid (fun w => bytesV_any a.val w)
        rw [hl2] at T1
        rw [hv2] at T2
        have U0 := Lib.hid (show Byt (Dig.enc a.name.size ++ sb a.name) from Byt.append (Dig.enc_byt _ (by omega)) (sb_byt _))
        have U0l : Hid ((Dig.enc a.name.size ++ sb a.name).length ≤ 32) := Lib.hid (by rw [List.length_append, Dig.length_enc, sb_length]; have := Dig.sz_le a.name.size; omega)
        have U1 := Lib.hid (lb_ok a.lab hp)
        have U2 := Lib.hid (vb_ok a.val)
        have HSN := Lib.hid hsn
        have hca0 : wr.cell? ⟨g, o + k * 6, none⟩ = some (.string a.name) := hc 0 _ rfl
        have hca1 := hc 1 _ rfl
        have hca2 := hc 2 _ rfl
        have hca3 := hc 3 _ rfl
        have hca4 := hc 4 _ rfl
        have hca5 := hc 5 _ rfl
        clear hc ha y1 y2 y3 hsn hl2 hv2 hp
        unfold Lab.v at T1
        unfold Val.v at T2
        have hq5 : q5 < wr.heap.size := by obtain ⟨v, hv, _⟩ := HPS.out.out; exact (Array.getElem?_eq_some_iff.1 hv).1
        have hq6 : q6 < wr.heap.size := (Array.getElem?_eq_some_iff.1 HPS.out.err).1
        have BA0 := Lib.hid (BA.new wr a)
        have PS0 := Lib.hid (HPS.out.below ((bel0 wr).alloc (Nat.le_refl _) (.cells #[.string a.name, .int .i64 a.lab.l, .int .u32 (a.lab.p : Int), .int .i64 a.val.k, .int .i64 a.val.n, .string a.val.b] 49)))
        have hkk : k ≤ 8 := by omega
        have hz := Z0.out
        have hsz := HSZ.out
        generalize hLk : ((l.take k).map ab).flatten = Lk at *
        clear hLk
        go_wp2_with fail
        obtain ⟨W1, hW1⟩ : ∃ W, W = wr.alloc (.cells #[.string a.name, .int .i64 a.lab.l, .int .u32 (a.lab.p : Int), .int .i64 a.val.k, .int .i64 a.val.n, .string a.val.b] 49) := ⟨_, rfl⟩
        rw [← hW1] at BA0 PS0 ⊢
        clear hW1
        refine (T0.out _).mono ?_
        intro r w3 hh
        obtain ⟨A2, n2, c2, rfl, hB, hb3⟩ := hh.open U0.out (by have := U0l.out; omega)
        have BA1 := BA0.out.below hb3
        clear hh
        go_wp2_with fail
        refine (put_any (PS0.out.below hb3) hB (by rw [List.length_append]; have := U0l.out; omega)).mono ?_
        rintro r w4 ⟨rfl, hps, hkp⟩
        rw [show mxI 0 0 = 0 from rfl] at hps
        have BA2 : BA w4 wr.heap.size a := hkp _ _ _ _ (by omega) (by omega) (by decide) BA1
        have PS2 := Lib.hid hps
        have HB2 := Lib.hid BA2
        obtain ⟨b0, b1, b2, b3, b4, b5⟩ := BA2.cells
        clear hps hkp BA1 BA2 hb3 hB
        go_wp2_with fail
        refine (T1.out _).mono ?_
        intro r w5 hh
        obtain ⟨A3, n3, c3, rfl, hB, hb5⟩ := hh.open U1.out.1 (by have := U1.out.2; omega)
        have BA3 := HB2.out.below hb5
        clear hh
        go_wp2_with fail
        refine (put_any (PS2.out.below hb5) hB (by rw [List.length_append, List.length_append]; have := U0l.out; have := U1.out.2; rw [List.length_append] at *; omega)).mono ?_
        rintro r w6 ⟨rfl, hps, hkp⟩
        rw [show mxI 0 0 = 0 from rfl] at hps
        have BA4 : BA w6 wr.heap.size a := hkp _ _ _ _ (by omega) (by omega) (by decide) BA3
        have PS4 := Lib.hid hps
        clear b0 b1 b2 b3 b4 b5
        obtain ⟨b0, b1, b2, b3, b4, b5⟩ := BA4.cells
        clear hps hkp BA3 BA4 hb5 hB HB2
        go_wp2_with fail
        refine (T2.out _).mono ?_
        intro r w7 hh
        obtain ⟨A4, n4, c4, rfl, hB, hb7⟩ := hh.open U2.out.1 (by have := U2.out.2; omega)
        clear hh
        go_wp2_with fail
        refine (put_any (PS4.out.below hb7) hB (by have := U0l.out; have := U1.out.2; have := U2.out.2; simp only [List.length_append] at *; omega)).mono ?_
        rintro r w8 ⟨rfl, hps, hkp⟩
        rw [show mxI 0 0 = 0 from rfl] at hps
        have PS6 := Lib.hid hps
        clear hps hkp b0 b1 b2 b3 b4 b5 hb7 hB
        go_wp2_with fail
        refine ⟨⟨k + 1, by omega, by go_num, Lib.hid (by rw [HSN.out]; unfold ab; have := PS6.out; simpa only [List.append_assoc] using this), Lib.hid ?_⟩, by simp [intOf]; omega⟩
        rw [HSN.out]
        have := U0l.out
        have := U1.out.2
        have := U2.out.2
        unfold ab
        simp only [List.length_append] at *
        omega
      · obtain rfl : k = l.length := by omega
        rw [List.take_length] at HPS
        obtain ⟨hb, ⟨v, h5, ho⟩, h6, _⟩ := HPS.out
        have d5 := cell_of h5 0
        have d6 := cell_of h6 0
        simp at d5 d6
        have HO := Lib.hid ho
        clear h5 h6 ho HPS
        go_wp2_with fail
        go_quiet (fail)
        go_wp2_with fail
        go_ret2
        rw [HX1.out]
        exact ⟨_, rfl, HO.out, below_drewN hb _⟩
  · rw [h0] at HM
    have HX1 := Lib.hid (HX.out.trans (if_neg (by rw [h0]; decide)))
    go_enter Try.func21, Try.ntmps21
    go_wp2_with fail
    refine HM.out.mono ?_
    rintro e w1 ⟨rfl, hb1⟩
    go_wp2_with fail
    go_ret2
    rw [HX1.out]
    exact ⟨_, rfl, World.ownsRow_nil _ _ _ _, hb1⟩
end Go.Proofs.Ytmnabhennibddaa
