/- The laws' helpers: small, is, works. No conditions. -/
import Derived.Test.YtfedgjahbmcpoaaGreatGB49
import Derived.Test.YtfedgjahbmcpoaaGreatGB39
import Derived.Test.YtfedgjahbmcpoaaGreatGB02
set_option linter.unusedSimpArgs false
set_option linter.unusedVariables false
namespace Go.Proofs.YtfedgjahbmcpoaaGreat
open Go.RowKit
attribute [local go_sem] min2_mn min_2

/-- A slice, thirty long at most. -/
def cut30 : Value → Value
  | .slice A n c => .slice A (min n 30) c
  | v => v
/-- An answer with thirty of each list at most. -/
def smA (a : Ans) : Ans := ⟨a.er, a.sn.take 30, a.nx, a.ce.take 30, a.ed.take 30, a.lf⟩
theorem smA_pt {a : Ans} (h : ∀ s ∈ a.sn, (∀ a ∈ s.sp.ats, a.lab.p < 4294967296) ∧ s.sp.ats.length ≤ 2199023255552) : ∀ s ∈ (smA a).sn, (∀ a ∈ s.sp.ats, a.lab.p < 4294967296) ∧ s.sp.ats.length ≤ 2199023255552 := fun s hs => h s (List.mem_of_mem_take hs)
theorem smA_len (a : Ans) : (smA a).sn.length ≤ 30 ∧ (smA a).ce.length ≤ 30 ∧ (smA a).ed.length ≤ 30 := by
  unfold smA
  simp only [List.length_take]
  omega
theorem EL.cut30 {α : Type} {R : RdE α} {w : World} {A : Option Addr} {c : Nat} {l : List α} (h : EL R w A l.length c l) : EL R w A (l.take 30).length c (l.take 30) := by
  have := h.cut (m := min l.length 30) (Nat.min_le_left _ _)
  rw [show l.take (min l.length 30) = l.take 30 by rw [List.take_eq_take_iff]; omega] at this
  rw [show (l.take 30).length = min l.length 30 by rw [List.length_take]; omega]
  exact this
theorem AnL.sm {w : World} {a : Ans} {u v x : Value} (h : AnL w a u v x) : AnL w (smA a) (cut30 u) (cut30 v) (cut30 x) := by
  obtain ⟨⟨A, c, rfl, h1⟩, ⟨B, d, rfl, h2⟩, ⟨D, e, rfl, h3⟩⟩ := h
  refine ⟨⟨A, c, ?_, h1.cut30⟩, ⟨B, d, ?_, h2.cut30⟩, ⟨D, e, ?_, h3.cut30⟩⟩ <;> (unfold Go.Proofs.YtfedgjahbmcpoaaGreat.cut30 smA; simp only [List.length_take]; congr 1; omega)
theorem AnL.pt {w : World} {a : Ans} {u v x : Value} (h : AnL w a u v x) : PtS a.sn := by
  obtain ⟨⟨A, c, _, h1⟩, _, _⟩ := h
  intro s hs b hb
  obtain ⟨i, hi, rfl⟩ := List.getElem_of_mem hs
  obtain ⟨g, o, cs, _, _, B, m, d, _, hA⟩ := h1.at' i hi
  exact hA.pt b hb
theorem size_sn (w : World) : (sizeOf (Tryz.prog.elem 25)).run Tryz.prog w = .ok snR.k w := by
  obtain ⟨i5, hi5, hz5, hs5, hb5⟩ := info_parts infoSn
  rw [show Tryz.prog.elem 25 = 50 by kernel_rfl]
  simp [sizeOf, typeInfo, hi5, hs5]
  rfl
set_option maxRecDepth 100000 in
theorem slice_take_sn {w : World} {A : Option Addr} {n c : Nat} {k : Nat} (hk : k ≤ c) :
    (Instr.slice 25 (.slice A n c) none (some (.int .i64 (k : Int))) none).run Tryz.prog w = .ok (.slice A k c) w := by
  have h1 : (k : Int) ≤ (c : Int) := by omega
  rw [run_slice_h w 25 A n c Tryz.underlying25 .i64 k (by omega) h1]
  rw [size_sn]
  simp only [sliced, Result.andThen, Int.toNat_natCast, Nat.zero_mul, Nat.sub_zero]
  split
  · rfl
  · cases A <;> simp [Addr.add]
theorem size_ce (w : World) : (sizeOf (Tryz.prog.elem 26)).run Tryz.prog w = .ok ceR.k w := by
  obtain ⟨i5, hi5, hz5, hs5, hb5⟩ := info_parts infoCe
  rw [show Tryz.prog.elem 26 = 54 by kernel_rfl]
  simp [sizeOf, typeInfo, hi5, hs5]
  rfl
set_option maxRecDepth 100000 in
theorem slice_take_ce {w : World} {A : Option Addr} {n c : Nat} {k : Nat} (hk : k ≤ c) :
    (Instr.slice 26 (.slice A n c) none (some (.int .i64 (k : Int))) none).run Tryz.prog w = .ok (.slice A k c) w := by
  have h1 : (k : Int) ≤ (c : Int) := by omega
  rw [run_slice_h w 26 A n c Tryz.underlying26 .i64 k (by omega) h1]
  rw [size_ce]
  simp only [sliced, Result.andThen, Int.toNat_natCast, Nat.zero_mul, Nat.sub_zero]
  split
  · rfl
  · cases A <;> simp [Addr.add]
theorem size_ed (w : World) : (sizeOf (Tryz.prog.elem 27)).run Tryz.prog w = .ok edR.k w := by
  obtain ⟨i5, hi5, hz5, hs5, hb5⟩ := info_parts infoEd
  rw [show Tryz.prog.elem 27 = 58 by kernel_rfl]
  simp [sizeOf, typeInfo, hi5, hs5]
  rfl
set_option maxRecDepth 100000 in
theorem slice_take_ed {w : World} {A : Option Addr} {n c : Nat} {k : Nat} (hk : k ≤ c) :
    (Instr.slice 27 (.slice A n c) none (some (.int .i64 (k : Int))) none).run Tryz.prog w = .ok (.slice A k c) w := by
  have h1 : (k : Int) ≤ (c : Int) := by omega
  rw [run_slice_h w 27 A n c Tryz.underlying27 .i64 k (by omega) h1]
  rw [size_ed]
  simp only [sliced, Result.andThen, Int.toNat_natCast, Nat.zero_mul, Nat.sub_zero]
  split
  · rfl
  · cases A <;> simp [Addr.add]
set_option maxHeartbeats 32000000 in
set_option maxRecDepth 100000 in
theorem small_any {a : Ans} {u v x : Value} {w : World} (h : AnL w a u v x) :
    Calls Tryz.prog 11 #[anV a u v x] w fun e w' => e = .returned (anV (smA a) (cut30 u) (cut30 v) (cut30 x)) ∧ Below w.heap.size w w' := by
  obtain ⟨⟨A, c, rfl, h1⟩, ⟨B, d, rfl, h2⟩, ⟨D, e, rfl, h3⟩⟩ := h
  have l1 := h1.lim
  have l2 := h2.lim
  have l3 := h3.lim
  have c1 := h1.le
  have c2 := h2.le
  have c3 := h3.le
  have m1 := mnI_lit a.sn.length 30 30 rfl
  have m2 := mnI_lit a.ce.length 30 30 rfl
  have m3 := mnI_lit a.ed.length 30 30 rfl
  have s1 := fun w : World => slice_take_sn (w := w) (A := A) (n := a.sn.length) (c := c) (k := min a.sn.length 30) (by omega)
  have s2 := fun w : World => slice_take_ce (w := w) (A := B) (n := a.ce.length) (c := d) (k := min a.ce.length 30) (by omega)
  have s3 := fun w : World => slice_take_ed (w := w) (A := D) (n := a.ed.length) (c := e) (k := min a.ed.length 30) (by omega)
  clear h1 h2 h3
  unfold anV
  obtain ⟨n, hn⟩ : ∃ n, n = a.sn.length := ⟨_, rfl⟩
  obtain ⟨m, hm⟩ : ∃ n, n = a.ce.length := ⟨_, rfl⟩
  obtain ⟨p, hp⟩ : ∃ n, n = a.ed.length := ⟨_, rfl⟩
  rw [← hn] at l1 c1 m1 s1 ⊢
  rw [← hm] at l2 c2 m2 s2 ⊢
  rw [← hp] at l3 c3 m3 s3 ⊢
  clear hn hm hp
  obtain ⟨n3, hn⟩ : ∃ k, k = min n 30 := ⟨_, rfl⟩
  obtain ⟨m3', hm⟩ : ∃ k, k = min m 30 := ⟨_, rfl⟩
  obtain ⟨p3, hp⟩ : ∃ k, k = min p 30 := ⟨_, rfl⟩
  rw [← hn] at m1 s1
  rw [← hm] at m2 s2
  rw [← hp] at m3 s3
  have N1 := Lib.hid hn
  have N2 := Lib.hid hm
  have N3 := Lib.hid hp
  have b1 : n3 ≤ c := by omega
  have b2 : m3' ≤ d := by omega
  have b3 : p3 ≤ e := by omega
  clear hn hm hp
  have hq1 := blkB (heap_alloc_new w (.cells #[.int .i64 a.er, .slice A n c, .int .i64 a.nx, .slice B m d, .slice D p e, .int .i64 a.lf] 29)) (bel1 _ (.cells #[.int .i64 0, .slice none 0 0, .int .i64 0, .slice none 0 0, .slice none 0 0, .int .i64 0] 29))
  have hq2 := heap_alloc_new (w.alloc (.cells #[.int .i64 a.er, .slice A n c, .int .i64 a.nx, .slice B m d, .slice D p e, .int .i64 a.lf] 29)) (.cells #[.int .i64 0, .slice none 0 0, .int .i64 0, .slice none 0 0, .slice none 0 0, .int .i64 0] 29)
  have hb := nx (bel1 w (.cells #[.int .i64 a.er, .slice A n c, .int .i64 a.nx, .slice B m d, .slice D p e, .int .i64 a.lf] 29)) (bel1 (w.alloc (.cells #[.int .i64 a.er, .slice A n c, .int .i64 a.nx, .slice B m d, .slice D p e, .int .i64 a.lf] 29)) (.cells #[.int .i64 0, .slice none 0 0, .int .i64 0, .slice none 0 0, .slice none 0 0, .int .i64 0] 29))
  rw [World.size_alloc] at hq2
  go_enter Tryz.func11, Tryz.ntmps11
  go_upto_region 1 with (fail)
  obtain ⟨W0, hW⟩ : ∃ W, W = (w.alloc (.cells #[.int .i64 a.er, .slice A n c, .int .i64 a.nx, .slice B m d, .slice D p e, .int .i64 a.lf] 29)).alloc (.cells #[.int .i64 0, .slice none 0 0, .int .i64 0, .slice none 0 0, .slice none 0 0, .int .i64 0] 29) := ⟨_, rfl⟩
  rw [← hW] at hq1 hq2 hb ⊢
  clear hW
  obtain ⟨q2, hqq2⟩ : ∃ q, q = w.heap.size + 1 := ⟨_, rfl⟩
  rw [← hqq2] at hq2 ⊢
  obtain ⟨q1, hqq1⟩ : ∃ q, q = w.heap.size := ⟨_, rfl⟩
  rw [← hqq1] at hq1 ⊢
  have hne : q1 ≠ q2 := by omega
  have hle1 : w.heap.size ≤ q1 := by omega
  have hle2 : w.heap.size ≤ q2 := by omega
  clear hqq1 hqq2
  obtain ⟨x0, x1, x2, x3, x4, x5⟩ := an_block hq1
  obtain ⟨y0, y1, y2, y3, y4, y5⟩ := an_block hq2
  have f1 := frozen_of hq1 1
  have f3 := frozen_of hq1 3
  have f4 := frozen_of hq1 4
  have g0 := frozen_of hq2 0
  have g1 := frozen_of hq2 1
  have g2 := frozen_of hq2 2
  have g3 := frozen_of hq2 3
  have g4 := frozen_of hq2 4
  have g5 := frozen_of hq2 5
  have HQ2 := Lib.hid hq2
  have HB := Lib.hid hb
  clear hq1 hq2 hb
  go_wp2_with fail
  obtain ⟨W, hW⟩ : ∃ W, W = (((((((((W0.setCell ⟨q1, 1, none⟩ (.slice A n3 c)).setCell ⟨q1, 3, none⟩ (.slice B m3' d)).setCell ⟨q1, 4, none⟩ (.slice D p3 e)).setCell ⟨q2, 0, none⟩ (.int .i64 a.er)).setCell ⟨q2, 1, none⟩ (.slice A n3 c)).setCell ⟨q2, 2, none⟩ (.int .i64 a.nx)).setCell ⟨q2, 3, none⟩ (.slice B m3' d)).setCell ⟨q2, 4, none⟩ (.slice D p3 e)).setCell ⟨q2, 5, none⟩ (.int .i64 a.lf)) := ⟨_, rfl⟩
  have B3 : (((W0.setCell ⟨q1, 1, none⟩ (.slice A n3 c)).setCell ⟨q1, 3, none⟩ (.slice B m3' d)).setCell ⟨q1, 4, none⟩ (.slice D p3 e)).heap[q2]? = some (.cells #[.int .i64 0, .slice none 0 0, .int .i64 0, .slice none 0 0, .slice none 0 0, .int .i64 0] 29 (0, 0)) := (Below.heap_setCell _ ⟨q1, 4, none⟩ _ q2 (by show q2 ≠ q1; omega)).trans ((Below.heap_setCell _ ⟨q1, 3, none⟩ _ q2 (by show q2 ≠ q1; omega)).trans ((Below.heap_setCell _ ⟨q1, 1, none⟩ _ q2 (by show q2 ≠ q1; omega)).trans HQ2.out))
  have B4 : W.heap[q2]? = some (.cells #[.int .i64 a.er, .slice A n3 c, .int .i64 a.nx, .slice B m3' d, .slice D p3 e, .int .i64 a.lf] 29 (0, 0)) := by
    rw [hW]
    exact (heap_set (heap_set (heap_set (heap_set (heap_set (heap_set B3 0 _) 1 _) 2 _) 3 _) 4 _) 5 _)
  have hBW : Below w.heap.size w W := by
    rw [hW]
    have h3 := ((HB.out.setCell (p := ⟨q1, 1, none⟩) hle1 (.slice A n3 c)).setCell (p := ⟨q1, 3, none⟩) hle1 (.slice B m3' d)).setCell (p := ⟨q1, 4, none⟩) hle1 (.slice D p3 e)
    exact (((((h3.setCell (p := ⟨q2, 0, none⟩) hle2 _).setCell (p := ⟨q2, 1, none⟩) hle2 _).setCell (p := ⟨q2, 2, none⟩) hle2 _).setCell (p := ⟨q2, 3, none⟩) hle2 _).setCell (p := ⟨q2, 4, none⟩) hle2 _).setCell (p := ⟨q2, 5, none⟩) hle2 _
  rw [← hW]
  clear hW x0 x1 x2 x3 x4 x5 y0 y1 y2 y3 y4 y5 f1 f3 f4 g0 g1 g2 g3 g4 g5
  obtain ⟨d0, d1, d2, d3, d4, d5⟩ := an_block B4
  refine bodyPost_ret (by simp [results, Tryz.results11, go_sem, d0, d1, d2, d3, d4, d5]; try rfl) rfl ?_
  exact ⟨by rw [N1.out, N2.out, N3.out]; rfl, hBW⟩
set_option maxHeartbeats 32000000 in
set_option maxRecDepth 100000 in
theorem is_yes {a : Ans} {u v x : Value} {w : World} {A0 : Option Addr} {k0 c0 : Nat} {l : List Nat} (h : AnL w a u v x) (hok : OkAn a) (hl : anB a = l) (hs : BS w A0 k0 c0 l) :
    Calls Tryz.prog 35 #[anV a u v x, .slice A0 k0 c0] w fun e w' => e = .returned (.bool true) ∧ Below w.heap.size w w' := by
  have HP := Lib.hid (by have := prAn_to hok h.pt; rwa [hl] at this)
  have HPT := Lib.hid h.pt
  have HOK := Lib.hid hok
  have HBO := Lib.hid (anB_ok hok h.pt)
  obtain ⟨AK, hAK⟩ : ∃ AK : World → Prop, AK = fun w' => AnL w' a u v x := ⟨_, rfl⟩
  have HA := Lib.hid h
  have HS := Lib.hid hs
  have HL := Lib.hid hl
  have hb1 := bel1 w (.cells #[.int .i64 a.er, u, .int .i64 a.nx, v, x, .int .i64 a.lf] 29)
  have hq1 := heap_alloc_new w (.cells #[.int .i64 a.er, u, .int .i64 a.nx, v, x, .int .i64 a.lf] 29)
  obtain ⟨A, c, e1, hu⟩ := h.sn
  obtain ⟨B, d, e2, hv⟩ := h.ce
  obtain ⟨D, e, e3, hx⟩ := h.ed
  subst e1 e2 e3
  have HC := Lib.hid (fun (w' : World) (hb : Below w.heap.size w w') => rBytes_any (HA.out.below hb) HPT.out)
  have HM := Lib.hid (fun (w' : World) (hb : Below w.heap.size w w') (u' v' x' : Value) (h' : AnL w' a u' v' x') => refAnSame_any (HA.out.below hb) h')
  clear h hs hok hu hv hx hAK hl AK
  have HPR := Lib.hid (fun (w' : World) (h' : BS w' A0 k0 c0 l) => rParse_any h')
  unfold anV at HC HM ⊢
  go_enter Tryz.func35, Tryz.ntmps35
  obtain ⟨W0, hW⟩ : ∃ W, W = w.alloc (.cells #[.int .i64 a.er, .slice A a.sn.length c, .int .i64 a.nx, .slice B a.ce.length d, .slice D a.ed.length e, .int .i64 a.lf] 29) := ⟨_, rfl⟩
  go_upto_region 1 with (fail)
  rw [← hW] at hb1 hq1 ⊢
  clear hW
  obtain ⟨q1, hqq⟩ : ∃ q, q = w.heap.size := ⟨_, rfl⟩
  rw [← hqq] at hq1 ⊢
  clear hqq
  obtain ⟨x0, x1, x2, x3, x4, x5⟩ := an_block hq1
  have HQ1 := Lib.hid hq1
  have HB1 := Lib.hid hb1
  clear hq1 hb1
  go_wp2_with fail
  refine (HC.out _ HB1.out).mono ?_
  rw [anP_yes HOK.out]
  intro r w2 hh
  obtain ⟨A2, n2, c2, rfl, hB2, hb2⟩ := hh.open HBO.out.1 (by have := HBO.out.2; show (anB a).length ≤ _; omega)
  have HB2 := Lib.hid (nx HB1.out hb2)
  have HQ2 := Lib.hid (blkB HQ1.out hb2)
  have B2 := Lib.hid hB2
  clear hh hB2 hb2 x0 x1 x2 x3 x4 x5
  go_wp2_with fail
  refine (HPR.out _ (HS.out.below HB2.out)).mono ?_
  rw [HP.out]
  rintro r w3 ⟨u3, v3, z3, rfl, hA3, hb3⟩
  have HB3 := Lib.hid (nx HB2.out hb3)
  have HQ3 := Lib.hid (blkB HQ2.out hb3)
  have B3 := Lib.hid (B2.out.below hb3)
  have HA3 := Lib.hid hA3
  obtain ⟨A4, c4, e1, hu⟩ := hA3.sn
  obtain ⟨B4, d4, e2, hv⟩ := hA3.ce
  obtain ⟨D4, e4, e3, hx⟩ := hA3.ed
  subst e1 e2 e3
  clear hA3 hb3 hu hv hx
  unfold anV
  have hb4 := bel1 w3 (.cells #[.int .i64 a.er, .slice A4 a.sn.length c4, .int .i64 a.nx, .slice B4 a.ce.length d4, .slice D4 a.ed.length e4, .int .i64 a.lf] 29)
  have hq4 := heap_alloc_new w3 (.cells #[.int .i64 a.er, .slice A4 a.sn.length c4, .int .i64 a.nx, .slice B4 a.ce.length d4, .slice D4 a.ed.length e4, .int .i64 a.lf] 29)
  go_upto_region 3 with (fail)
  obtain ⟨W4, hW⟩ : ∃ W, W = w3.alloc (.cells #[.int .i64 a.er, .slice A4 a.sn.length c4, .int .i64 a.nx, .slice B4 a.ce.length d4, .slice D4 a.ed.length e4, .int .i64 a.lf] 29) := ⟨_, rfl⟩
  rw [← hW] at hb4 hq4 ⊢
  clear hW
  obtain ⟨q4, hqq⟩ : ∃ q, q = w3.heap.size := ⟨_, rfl⟩
  rw [← hqq] at hq4 ⊢
  clear hqq
  have HB4 := Lib.hid (nx HB3.out hb4)
  have HQ4 := Lib.hid (blkB HQ3.out hb4)
  have HR4 := Lib.hid hq4
  have BB4 := Lib.hid (B3.out.below hb4)
  have HA4 := Lib.hid (HA3.out.below hb4)
  clear hb4 hq4 B3 HA3
  go_wp2_with fail
  refine (eqBytes_any A2 A0 n2 c2 k0 c0 _ _ _ BB4.out (HS.out.below HB4.out)).mono ?_
  rintro r w5 ⟨rfl, hb5⟩
  rw [decide_eq_true HL.out]
  have HB5 := Lib.hid (nx HB4.out hb5)
  have HA5 := Lib.hid (HA4.out.below hb5)
  obtain ⟨x0, x1, x2, x3, x4, x5⟩ := an_block (blkB HQ4.out hb5)
  obtain ⟨y0, y1, y2, y3, y4, y5⟩ := an_block (blkB HR4.out hb5)
  clear hb5
  go_wp2_with fail
  refine (HM.out _ HB5.out _ _ _ HA5.out).mono ?_
  rintro r w6 ⟨bb, rfl, hbb, hb6⟩
  obtain rfl : bb = true := hbb.2 (by trivial)
  have HB6 := Lib.hid (nx HB5.out hb6)
  clear hbb hb6 x0 x1 x2 x3 x4 x5 y0 y1 y2 y3 y4 y5
  go_wp2_with fail
  go_ret
  exact ⟨rfl, HB6.out⟩
end Go.Proofs.YtfedgjahbmcpoaaGreat
/- The chapter's examples of answers. No conditions. -/
set_option linter.unusedSimpArgs false
set_option linter.unusedVariables false
namespace Go.Proofs.YtfedgjahbmcpoaaGreat
open Go.RowKit

def an1 : Ans := ⟨230, [], 0, [], [], 0⟩
def an2 : Ans := ⟨0, [], 0, [⟨-1, 5⟩], [], 3⟩
theorem an1_ok : OkAn an1 := ⟨by decide, by decide, by decide, ⟨MayL.nil _ _, by decide⟩, ⟨MayL.nil _ _, by decide⟩, ⟨MayL.nil _ _, by decide⟩, .inr ⟨rfl, rfl, rfl, rfl, rfl⟩⟩
theorem an2_ok : OkAn an2 := ⟨by decide, by decide, by decide, ⟨MayL.nil _ _, by decide⟩, ⟨⟨(by intro x hx; simp only [an2, List.mem_singleton] at hx; subst hx; exact ⟨by decide, by decide⟩), (by intro i h; exact absurd h (by simp [an2]))⟩, by decide⟩, ⟨MayL.nil _ _, by decide⟩, .inl rfl⟩
theorem an1_bytes : anB an1 = [128, 230, 0, 0, 0, 0, 0] := by decide +kernel
theorem an2_bytes : anB an2 = [0, 0, 3, 0, 1, 1, 5, 0] := by decide +kernel
set_option maxHeartbeats 32000000 in
set_option maxRecDepth 100000 in
theorem rworks_any (w : World) : Calls Tryz.prog 10 #[] w fun e w' => e = .returned (.bool true) ∧ Below w.heap.size w w' := by
  have hs1 : BS (w.alloc (.cells #[.int .u8 128, .int .u8 230, .int .u8 0, .int .u8 0, .int .u8 0, .int .u8 0, .int .u8 0] 5)) (some ⟨w.heap.size, 0, none⟩) 7 7 [128, 230, 0, 0, 0, 0, 0] := BS.alloc w [128, 230, 0, 0, 0, 0, 0] _ _ (by decide) (by decide)
  have HS1 := Lib.hid hs1
  have HB1 := Lib.hid (bel1 w (.cells #[.int .u8 128, .int .u8 230, .int .u8 0, .int .u8 0, .int .u8 0, .int .u8 0, .int .u8 0] 5))
  clear hs1
  go_enter Tryz.func10, Tryz.ntmps10
  go_wp2_with fail
  refine (is_yes (a := an1) ⟨⟨none, 0, rfl, EL.zero _ _⟩, ⟨none, 0, rfl, EL.zero _ _⟩, ⟨none, 0, rfl, EL.zero _ _⟩⟩ an1_ok an1_bytes HS1.out).mono ?_
  rintro e w2 ⟨rfl, hb2⟩
  have HB2 := Lib.hid (nx HB1.out hb2)
  have hs3 : BS ((w2.alloc (.cells #[.int .i64 (-1), .int .i64 5] 54)).alloc (.cells #[.int .u8 0, .int .u8 0, .int .u8 3, .int .u8 0, .int .u8 1, .int .u8 1, .int .u8 5, .int .u8 0] 5)) (some ⟨(w2.alloc (.cells #[.int .i64 (-1), .int .i64 5] 54)).heap.size, 0, none⟩) 8 8 [0, 0, 3, 0, 1, 1, 5, 0] := BS.alloc (w2.alloc (.cells #[.int .i64 (-1), .int .i64 5] 54)) [0, 0, 3, 0, 1, 1, 5, 0] _ _ (by decide) (by decide)
  rw [World.size_alloc] at hs3
  have HS3 := Lib.hid hs3
  have HC := Lib.hid (blkB (heap_alloc_new w2 (.cells #[.int .i64 (-1), .int .i64 5] 54)) (bel1 (w2.alloc (.cells #[.int .i64 (-1), .int .i64 5] 54)) (.cells #[.int .u8 0, .int .u8 0, .int .u8 3, .int .u8 0, .int .u8 1, .int .u8 1, .int .u8 5, .int .u8 0] 5)))
  have HB3 := Lib.hid (nx HB2.out (nx (bel1 w2 (.cells #[.int .i64 (-1), .int .i64 5] 54)) (bel1 (w2.alloc (.cells #[.int .i64 (-1), .int .i64 5] 54)) (.cells #[.int .u8 0, .int .u8 0, .int .u8 3, .int .u8 0, .int .u8 1, .int .u8 1, .int .u8 5, .int .u8 0] 5))))
  clear hs3 hb2 HB1 HS1
  go_wp2_with fail
  refine (is_yes (a := an2) ⟨⟨none, 0, rfl, EL.zero _ _⟩, ⟨some ⟨w2.heap.size, 0, none⟩, 1, rfl, EL.one (R := ceR) (x := ⟨-1, 5⟩) (cs := Cel.cells ⟨-1, 5⟩) HC.out rfl⟩, ⟨none, 0, rfl, EL.zero _ _⟩⟩ an2_ok an2_bytes HS3.out).mono ?_
  rintro e w4 ⟨rfl, hb4⟩
  have HB4 := Lib.hid (nx HB3.out hb4)
  clear hb4
  go_wp2_with fail
  go_ret
  exact ⟨rfl, HB4.out⟩
end Go.Proofs.YtfedgjahbmcpoaaGreat
