/- The walk of the law ParcelKnown. No conditions. -/
import Derived.Test.YtmnabhennibddaaGB34
import Derived.Test.YtmnabhennibddaaGB35
import Derived.Test.YtmnabhennibddaaGB14
import Derived.Test.YtmnabhennibddaaGB01
import Derived.Deep.OwnRows
import Derived.ArgAppend
set_option linter.unusedSimpArgs false
set_option linter.unusedVariables false
namespace Go.Proofs.Ytmnabhennibddaa
open Go.RowKit

theorem bs_made (w : World) (n : Nat) (hn : n ≤ 140737488354304) : BS (w.alloc (.cells (madeCells #[.int .u8 0] n) 5)) (some ⟨w.heap.size, 0, none⟩) n n (List.replicate n 0) := by
  have hr := World.rowIs_made w (.int .u8 0) n 5
  refine ⟨by simp, by simp, (by intro h; cases h), ?_, (by intro x hx; rw [List.mem_replicate] at hx; omega), by simpa using hn⟩
  intro i hi
  have hi2 : i < n := by simpa [bv] using hi
  refine ⟨_, rfl, ?_⟩
  rw [addr_add, Nat.zero_add]
  have h1 := hr.cell hi2
  rw [h1]
  simp [bv]
/-- Slices of bytes, each with its list. -/
def BSs (W : World) : List (Option Addr × Nat × Nat) → List (List Nat) → Prop
  | [], [] => True
  | a :: ss, l :: ls => BS W a.1 a.2.1 a.2.2 l ∧ BSs W ss ls
  | _, _ => False
theorem BSs.at {W : World} : ∀ {ss : List (Option Addr × Nat × Nat)} {ls : List (List Nat)}, BSs W ss ls → ss.length = ls.length ∧ ∀ i (h : i < ls.length) (h2 : i < ss.length), BS W ss[i].1 ss[i].2.1 ss[i].2.2 ls[i]
  | [], [], _ => ⟨rfl, fun i h => absurd h (by simp)⟩
  | a :: ss, l :: ls, h => by
    obtain ⟨h1, h2⟩ := BSs.at h.2
    refine ⟨by simp [h1], fun i hi hi2 => ?_⟩
    cases i with
    | zero => exact h.1
    | succ i => exact h2 i (by simpa using hi) (by simpa using hi2)
  | [], l :: ls, h => h.elim
  | a :: ss, [], h => h.elim
theorem el_bl {W : World} {g : Nat} {t : TypeId} {mk : Nat × Nat} {ss : List (Option Addr × Nat × Nat)} {ls : List (List Nat)} (hg : W.heap[g]? = some (.cells (ss.map fun a => Value.slice a.1 a.2.1 a.2.2).toArray t mk)) (h : BSs W ss ls) (hl : ls.length ≤ 8796093021952) : EL blR W (some ⟨g, 0, none⟩) ls.length ls.length ls := by
  obtain ⟨h1, h2⟩ := h.at
  refine ⟨rfl, Nat.le_refl _, (by intro h; cases h), fun i hi => ?_, hl⟩
  have hi2 : i < ss.length := by omega
  refine ⟨g, 0, [.slice ss[i].1 ss[i].2.1 ss[i].2.2], rfl, fun j v hj => ?_, _, _, _, rfl, h2 i hi hi2⟩
  cases j with
  | zero =>
    simp only [List.getElem?_cons_zero, Option.some.injEq] at hj
    subst hj
    show W.cell? ⟨g, 0 + i * 1 + 0, none⟩ = _
    rw [show 0 + i * 1 + 0 = i by omega, cell_of hg i, List.getElem?_toArray, List.getElem?_map, List.getElem?_eq_getElem hi2]
    rfl
  | succ j => simp at hj
theorem below_none {w w' : World} (h : w.grownBy w' none) : Below w.heap.size w w' := (bel0 w).grown h (Nat.le_refl _) (fun k e => by cases e)
/-- append onto a full slice: new memory. -/
theorem append_full {w : World} {ops : Array Oper} {rest : List Oper} {o : Oper} {a : Act} {Q : Exit → Act → World → Prop} (hgd : o.guard = none) (s x : Operand) (ho : o.op = .call { callee := .builtin .append, args := #[s, x], argTypes := #[22, 22] })
    (g n c : Nat) (L : List Nat) (hs : a.eval s = .slice (some ⟨g, 0, none⟩) n c) (hm : BS w (some ⟨g, 0, none⟩) n c L) (g2 m d : Nat) (M : List Nat) (hx : a.eval x = .slice (some ⟨g2, 0, none⟩) m d) (hM : BS w (some ⟨g2, 0, none⟩) m d M) (hfull : c < n + m) (hb : n + m ≤ 1000000000)
    (h : ∀ v' w', w'.ownsRow w.heap.size 5 1 v' (L ++ M).length (bv (L ++ M)) → w.grownBy w' none → wpList Try.prog ops Q rest (a.put o.dst v') w') : wpList Try.prog ops Q (o :: rest) a w := by
  obtain ⟨i, hi, hz, hsize, hby⟩ := info_parts infoU8
  have hl := hm.len
  have hl2 := hM.len
  have cells : ∀ {q n c : Nat} {L : List Nat}, BS w (some ⟨q, 0, none⟩) n c L → ∀ j u, (bv L)[j]? = some u → w.cell? ((⟨q, 0, none⟩ : Addr).add j) = some u := by
    intro q n c L hB j u hj
    obtain ⟨hj', rfl⟩ := List.getElem?_eq_some_iff.1 hj
    obtain ⟨ad, e, hc⟩ := hB.lies j hj'
    cases e
    exact hc
  refine wpList_append_grows w hgd s x 22 ho 5 i (.int .u8 0) 1 1 Try.underlying22 hi hz hsize hby rfl (by decide) _ n c (bv L) hs (by intro h; cases h) (by simp [bv, hl]) (by
    intro b hb
    cases hb
    exact cells hm) _ m d (bv M) hx (by simp [bv, hl2]) (cells hM) (oneCell_bv M) hfull (by unfold maxLen; omega) (by omega) ?_
  intro v' w' h1 h2
  refine h v' w' ?_ h2
  rw [List.length_append, ← hl, ← hl2, bv_append]
  exact h1
def wl : List (List Nat) := [[128, 128], [1, 128, 1], [255], [1, 255], [1, 193, 0, 1]]
def tl : List (List Nat) := [[], [1], [128], [1, 128], [1, 193, 0, 0], [1, 2, 3, 0, 0, 0], [1, 0, 1, 2, 3]]
theorem wl_no : ∀ x ∈ wl, nxP x = (0, [], [], 30) ∧ alP x = ([], [], 30) := by decide +kernel
theorem tl_no : ∀ x ∈ tl, nxP x = (0, [], [], 3) ∧ alP x = ([], x, 0) := by decide +kernel
theorem pk_big (l : List Nat) (hl : l.length = 65536) : Par.pk 127 l = (Par.frame 127 l, 0) ∧ (Par.frame 127 l).length = 65544 ∧ nxP (Par.frame 127 l) = (127, l, [], 0) := by
  have h1 : Par.pk 127 l = (Par.frame 127 l, 0) := by
    unfold Par.pk
    rw [if_neg (by decide), if_neg (by omega)]
    rfl
  have h2 : (Par.frame 127 l).length = 65544 := by
    unfold Par.frame
    rw [List.length_append, crc_row_length, Par.length_hd, hl]
    decide
  refine ⟨h1, h2, ?_⟩
  have h3 := fstP_frame (k := 127) (b := l) (by decide) (by omega) []
  rw [List.append_nil] at h3
  unfold nxP
  rw [h3, if_pos rfl]
  simp
theorem pk_more (l : List Nat) (hl : 65536 < l.length) : Par.pk 127 l = ([], 5) := by
  unfold Par.pk
  rw [if_neg (by decide), if_pos hl]
theorem pk_out (l : List Nat) : Par.pk 128 l = ([], 2) := by unfold Par.pk; rw [if_pos (by decide)]
theorem pk_neg (l : List Nat) : Par.pk (-1) l = ([], 2) := by unfold Par.pk; rw [if_pos (by decide)]
set_option maxHeartbeats 64000000 in
set_option maxRecDepth 100000 in
theorem parcelKnown_walk (w : World) :
    Calls Try.prog 5 #[] w fun e w' => e = .returned (.bool true) ∧ Below w.heap.size w w' := by
  have hmk := fun w : World => run_make_row' (P := Try.prog) 22 5 (.int .u8 0) 1 Try.underlying22 infoU8 rfl .i64 .i64 65536 (by decide) (by decide) w
  simp only [show ((65536 : Nat) : Int) = 65536 from rfl] at hmk
  obtain ⟨BG, hBG⟩ : ∃ l, l = List.replicate 65536 0 := ⟨_, rfl⟩
  have hbl : BG.length = 65536 := by rw [hBG]; exact List.length_replicate
  have HPB := Lib.hid (pk_big BG hbl)
  have HBL := Lib.hid hbl
  have hb0 := bs_made w 65536 (by decide)
  rw [← hBG] at hb0
  have HB0 := Lib.hid hb0
  have hx := bel1' w (.cells (madeCells #[.int .u8 0] 65536) 5)
  have HW0 := Lib.hid hx
  clear hBG hbl hb0 hx
  go_enter Try.func5, Try.ntmps5
  (try simp only [List.append_eq, List.cons_append, List.nil_append])
  go_wp2_with fail
  obtain ⟨W0, hW⟩ : ∃ W, W = w.alloc (.cells (madeCells #[.int .u8 0] 65536) 5) := ⟨_, rfl⟩
  rw [← hW] at HB0 HW0 ⊢
  obtain ⟨g0, hg0⟩ : ∃ g, g = w.heap.size := ⟨_, rfl⟩
  rw [← hg0] at HB0 ⊢
  clear hW hg0 hmk
  refine (pack_any 127 _ _ _ BG _ HB0.out).mono ?_
  rw [HPB.out.1]
  intro r w1 hh
  obtain ⟨A1, n1, c1, rfl, hB1, hb1⟩ := hh.open (by have := pk_ok (kind := 127) HB0.out.byt; rw [HPB.out.1] at this; exact this.1) (by have := HPB.out.2.1; simp only; omega)
  have hn1 := hB1.len
  rw [HPB.out.2.1] at hn1
  subst hn1
  have B1 := Lib.hid hB1
  have HB1 := Lib.hid (HB0.out.below hb1)
  have HW1 := Lib.hid (nx HW0.out hb1)
  clear hh hB1 hb1 HB0 HW0
  have KB1 := Lib.hid (bel1' w1 (.cells #[.int .u8 0] 5))
  have BZ := Lib.hid (show BS (w1.alloc (.cells #[.int .u8 0] 5)) (some ⟨w1.heap.size, 0, none⟩) 1 1 [0] from BS.alloc w1 [0] _ _ (by decide) (by decide))
  go_wp2_with (at_builtin; refine append_full rfl (.tmp 42) (.tmp 43) rfl g0 65536 65536 BG rfl (HB1.out.below KB1.out) w1.heap.size 1 1 [0] rfl BZ.out (by omega) (by omega) ?_; intro v' w2 ho hg; refine hold3 ?_)
  have hlb : (BG ++ [0]).length = 65537 := by rw [List.length_append, HBL.out]; rfl
  obtain ⟨V2, n2, c2, rfl, hV, _⟩ := ownsRow_bs ho (by
    intro x hx
    rcases List.mem_append.1 hx with h | h
    · exact HB1.out.byt x h
    · rw [List.mem_singleton] at h; omega) (by omega)
  have HV2 := Lib.hid hV
  have HB2 := Lib.hid (HB1.out.below (nx KB1.out (below_none hg)))
  have HW2 := Lib.hid (nx HW1.out (nx KB1.out (below_none hg)))
  have B2 := Lib.hid (B1.out.below (nx KB1.out (below_none hg)))
  have PK2 := Lib.hid (pk_more (BG ++ [0]) (by omega))
  clear ho hg hV hlb KB1 BZ HB1 HW1 B1
  refine Lib.hid ?_
  go_wp2_with fail
  refine (pack_any 127 _ _ _ (BG ++ [0]) _ HV2.out).mono ?_
  rw [PK2.out]
  intro r w3 hh
  obtain ⟨A3, n3, c3, rfl, hB3, hb3⟩ := hh.open (by intro x hx; cases hx) (by simp)
  have HB3 := Lib.hid (HB2.out.below hb3)
  have HW3 := Lib.hid (nx HW2.out hb3)
  have B3 := Lib.hid (B2.out.below hb3)
  clear hh hB3 hb3 HB2 HW2 B2 HV2 PK2
  have KB1 := Lib.hid (bel1' w3 (.cells #[.int .u8 0] 5))
  have BZ := Lib.hid (show BS (w3.alloc (.cells #[.int .u8 0] 5)) (some ⟨w3.heap.size, 0, none⟩) 1 1 [0] from BS.alloc w3 [0] _ _ (by decide) (by decide))
  go_wp2_with (at_builtin; refine append_full rfl (.tmp 49) (.tmp 50) rfl g0 65536 65536 BG rfl (HB3.out.below KB1.out) w3.heap.size 1 1 [0] rfl BZ.out (by omega) (by omega) ?_; intro v' w4 ho hg; refine hold3 ?_)
  have hlb : (BG ++ [0]).length = 65537 := by rw [List.length_append, HBL.out]; rfl
  obtain ⟨V4, n4, c4, rfl, hV, _⟩ := ownsRow_bs ho (by
    intro x hx
    rcases List.mem_append.1 hx with h | h
    · exact HB3.out.byt x h
    · rw [List.mem_singleton] at h; omega) (by omega)
  have HV4 := Lib.hid hV
  have HW4 := Lib.hid (nx HW3.out (nx KB1.out (below_none hg)))
  have B4 := Lib.hid (B3.out.below (nx KB1.out (below_none hg)))
  have PK4 := Lib.hid (pk_out (BG ++ [0]))
  clear ho hg hV hlb KB1 BZ HB3 HW3 B3
  refine Lib.hid ?_
  go_wp2_with fail
  refine (pack_any 128 _ _ _ (BG ++ [0]) _ HV4.out).mono ?_
  rw [PK4.out]
  intro r w5 hh
  obtain ⟨A5, n5, c5, rfl, hB5, hb5⟩ := hh.open (by intro x hx; cases hx) (by simp)
  have HW5 := Lib.hid (nx HW4.out hb5)
  have B5 := Lib.hid (B4.out.below hb5)
  clear hh hB5 hb5 HW4 B4 HV4 PK4
  go_wp2_with fail
  refine (pack_any (-1) none 0 0 [] _ (BS.empty _)).mono ?_
  rw [pk_neg]
  intro r w6 hh
  obtain ⟨A6, n6, c6, rfl, hB6, hb6⟩ := hh.open (by intro x hx; cases hx) (by simp)
  have HW6 := Lib.hid (nx HW5.out hb6)
  have B6 := Lib.hid (B5.out.below hb6)
  clear hh hB6 hb6 HW5 B5
  go_wp2_with fail
  refine (next_any B6.out).mono ?_
  have hnp := HPB.out.2.2
  (try simp only at hnp)
  (try simp only)
  rw [hnp]
  intro r w7 hh
  obtain ⟨v, u, rfl, ho, hu, hb7⟩ := hh
  have hbyt : Byt BG := by
    have := B6.out.byt
    intro x hx
    refine this x ?_
    unfold Par.frame Par.hd
    simp only [List.mem_append]
    exact .inl (.inr (.inr hx))
  obtain ⟨V7, n7, c7, rfl, hV7, _⟩ := ownsRow_bs ho hbyt (by have := HBL.out; simp only; omega)
  obtain ⟨U7, o7, f7, rfl, hU7, _⟩ := ownsRow_bs hu (by intro x hx; cases hx) (by simp)
  have hn7 := hV7.len
  simp only at hn7
  rw [HBL.out] at hn7
  subst hn7
  have HW7 := Lib.hid (nx HW6.out hb7)
  clear ho hu hV7 hU7 hb7 hnp hbyt HW6 B6 HPB HBL
  go_upto_region 8 with (fail)
  have hp0 := BS.alloc w7 [128, 128] 5 (0, 0) (by decide) (by decide)
  obtain ⟨pw1, hpw1⟩ : ∃ W, W = w7.alloc (.cells #[.int .u8 128, .int .u8 128] 5) := ⟨_, rfl⟩
  have hbpw1 : Below w7.heap.size w7 pw1 := by rw [hpw1]; exact bel1' _ _
  replace hp0 : BS pw1 (some ⟨w7.heap.size, 0, none⟩) 2 2 [128, 128] := by rw [hpw1]; exact hp0
  have spw1 : pw1.heap.size = w7.heap.size + 1 := by rw [hpw1, World.size_alloc]
  have hp1 := BS.alloc pw1 [1, 128, 1] 5 (0, 0) (by decide) (by decide)
  obtain ⟨pw2, hpw2⟩ : ∃ W, W = pw1.alloc (.cells #[.int .u8 1, .int .u8 128, .int .u8 1] 5) := ⟨_, rfl⟩
  have hbpw2 : Below pw1.heap.size pw1 pw2 := by rw [hpw2]; exact bel1' _ _
  replace hp1 : BS pw2 (some ⟨w7.heap.size + 1, 0, none⟩) 3 3 [1, 128, 1] := by rw [hpw2, ← spw1]; exact hp1
  have spw2 : pw2.heap.size = w7.heap.size + 2 := by rw [hpw2, World.size_alloc, spw1]
  replace hp0 := hp0.below hbpw2
  have hp2 := BS.alloc pw2 [255] 5 (0, 0) (by decide) (by decide)
  obtain ⟨pw3, hpw3⟩ : ∃ W, W = pw2.alloc (.cells #[.int .u8 255] 5) := ⟨_, rfl⟩
  have hbpw3 : Below pw2.heap.size pw2 pw3 := by rw [hpw3]; exact bel1' _ _
  replace hp2 : BS pw3 (some ⟨w7.heap.size + 2, 0, none⟩) 1 1 [255] := by rw [hpw3, ← spw2]; exact hp2
  have spw3 : pw3.heap.size = w7.heap.size + 3 := by rw [hpw3, World.size_alloc, spw2]
  replace hp0 := hp0.below hbpw3
  replace hp1 := hp1.below hbpw3
  have hp3 := BS.alloc pw3 [1, 255] 5 (0, 0) (by decide) (by decide)
  obtain ⟨pw4, hpw4⟩ : ∃ W, W = pw3.alloc (.cells #[.int .u8 1, .int .u8 255] 5) := ⟨_, rfl⟩
  have hbpw4 : Below pw3.heap.size pw3 pw4 := by rw [hpw4]; exact bel1' _ _
  replace hp3 : BS pw4 (some ⟨w7.heap.size + 3, 0, none⟩) 2 2 [1, 255] := by rw [hpw4, ← spw3]; exact hp3
  have spw4 : pw4.heap.size = w7.heap.size + 4 := by rw [hpw4, World.size_alloc, spw3]
  replace hp0 := hp0.below hbpw4
  replace hp1 := hp1.below hbpw4
  replace hp2 := hp2.below hbpw4
  have hp4 := BS.alloc pw4 [1, 193, 0, 1] 5 (0, 0) (by decide) (by decide)
  obtain ⟨pw5, hpw5⟩ : ∃ W, W = pw4.alloc (.cells #[.int .u8 1, .int .u8 193, .int .u8 0, .int .u8 1] 5) := ⟨_, rfl⟩
  have hbpw5 : Below pw4.heap.size pw4 pw5 := by rw [hpw5]; exact bel1' _ _
  replace hp4 : BS pw5 (some ⟨w7.heap.size + 4, 0, none⟩) 4 4 [1, 193, 0, 1] := by rw [hpw5, ← spw4]; exact hp4
  have spw5 : pw5.heap.size = w7.heap.size + 5 := by rw [hpw5, World.size_alloc, spw4]
  replace hp0 := hp0.below hbpw5
  replace hp1 := hp1.below hbpw5
  replace hp2 := hp2.below hbpw5
  replace hp3 := hp3.below hbpw5
  have hgp := World.alloc_heap_new pw5 (.cells #[.slice (some ⟨w7.heap.size, 0, none⟩) 2 2, .slice (some ⟨w7.heap.size + 1, 0, none⟩) 3 3, .slice (some ⟨w7.heap.size + 2, 0, none⟩) 1 1, .slice (some ⟨w7.heap.size + 3, 0, none⟩) 2 2, .slice (some ⟨w7.heap.size + 4, 0, none⟩) 4 4] 22)
  obtain ⟨pwz, hpwz⟩ : ∃ W, W = pw5.alloc (.cells #[.slice (some ⟨w7.heap.size, 0, none⟩) 2 2, .slice (some ⟨w7.heap.size + 1, 0, none⟩) 3 3, .slice (some ⟨w7.heap.size + 2, 0, none⟩) 1 1, .slice (some ⟨w7.heap.size + 3, 0, none⟩) 2 2, .slice (some ⟨w7.heap.size + 4, 0, none⟩) 4 4] 22) := ⟨_, rfl⟩
  have hbpwz : Below pw5.heap.size pw5 pwz := by rw [hpwz]; exact bel1' _ _
  rw [← hpwz, spw5] at hgp
  replace hp0 := hp0.below hbpwz
  replace hp1 := hp1.below hbpwz
  replace hp2 := hp2.below hbpwz
  replace hp3 := hp3.below hbpwz
  replace hp4 := hp4.below hbpwz
  have Ep := Lib.hid (show EL blR pwz (some ⟨w7.heap.size + 5, 0, none⟩) 5 5 wl from el_bl (ss := [((some ⟨w7.heap.size, 0, none⟩), 2, 2), ((some ⟨w7.heap.size + 1, 0, none⟩), 3, 3), ((some ⟨w7.heap.size + 2, 0, none⟩), 1, 1), ((some ⟨w7.heap.size + 3, 0, none⟩), 2, 2), ((some ⟨w7.heap.size + 4, 0, none⟩), 4, 4)]) (ls := wl) hgp ⟨hp0, hp1, hp2, hp3, hp4, trivial⟩ (by decide))
  have Kp := Lib.hid (show Below w7.heap.size w7 pwz from nx (nx (nx (nx (nx (hbpw1) hbpw2) hbpw3) hbpw4) hbpw5) hbpwz)
  have Qpw1 := Lib.hid hpw1
  have Qpw2 := Lib.hid hpw2
  have Qpw3 := Lib.hid hpw3
  have Qpw4 := Lib.hid hpw4
  have Qpw5 := Lib.hid hpw5
  have Qpwz := Lib.hid hpwz
  clear hpw1 hbpw1 hpw2 hbpw2 hpw3 hbpw3 hpw4 hbpw4 hpw5 hbpw5 hpwz hbpwz spw1 spw2 spw3 spw4 spw5 hgp hp0 hp1 hp2 hp3 hp4
  go_upto_region 9 with (fail)
  simp only [Nat.add_assoc, Nat.reduceAdd]
  rw [← Qpw1.out]
  rw [← Qpw2.out]
  rw [← Qpw3.out]
  rw [← Qpw4.out]
  rw [← Qpw5.out]
  rw [← Qpwz.out]
  obtain ⟨pg, hgg⟩ : ∃ g, g = w7.heap.size + 5 := ⟨_, rfl⟩
  rw [← hgg] at Ep ⊢
  clear hgg Qpw1 Qpw2 Qpw3 Qpw4 Qpw5 Qpwz
  have hq1 := BS.alloc pwz [1] 5 (0, 0) (by decide) (by decide)
  obtain ⟨qw1, hqw1⟩ : ∃ W, W = pwz.alloc (.cells #[.int .u8 1] 5) := ⟨_, rfl⟩
  have hbqw1 : Below pwz.heap.size pwz qw1 := by rw [hqw1]; exact bel1' _ _
  replace hq1 : BS qw1 (some ⟨pwz.heap.size, 0, none⟩) 1 1 [1] := by rw [hqw1]; exact hq1
  have sqw1 : qw1.heap.size = pwz.heap.size + 1 := by rw [hqw1, World.size_alloc]
  have hq2 := BS.alloc qw1 [128] 5 (0, 0) (by decide) (by decide)
  obtain ⟨qw2, hqw2⟩ : ∃ W, W = qw1.alloc (.cells #[.int .u8 128] 5) := ⟨_, rfl⟩
  have hbqw2 : Below qw1.heap.size qw1 qw2 := by rw [hqw2]; exact bel1' _ _
  replace hq2 : BS qw2 (some ⟨pwz.heap.size + 1, 0, none⟩) 1 1 [128] := by rw [hqw2, ← sqw1]; exact hq2
  have sqw2 : qw2.heap.size = pwz.heap.size + 2 := by rw [hqw2, World.size_alloc, sqw1]
  replace hq1 := hq1.below hbqw2
  have hq3 := BS.alloc qw2 [1, 128] 5 (0, 0) (by decide) (by decide)
  obtain ⟨qw3, hqw3⟩ : ∃ W, W = qw2.alloc (.cells #[.int .u8 1, .int .u8 128] 5) := ⟨_, rfl⟩
  have hbqw3 : Below qw2.heap.size qw2 qw3 := by rw [hqw3]; exact bel1' _ _
  replace hq3 : BS qw3 (some ⟨pwz.heap.size + 2, 0, none⟩) 2 2 [1, 128] := by rw [hqw3, ← sqw2]; exact hq3
  have sqw3 : qw3.heap.size = pwz.heap.size + 3 := by rw [hqw3, World.size_alloc, sqw2]
  replace hq1 := hq1.below hbqw3
  replace hq2 := hq2.below hbqw3
  have hq4 := BS.alloc qw3 [1, 193, 0, 0] 5 (0, 0) (by decide) (by decide)
  obtain ⟨qw4, hqw4⟩ : ∃ W, W = qw3.alloc (.cells #[.int .u8 1, .int .u8 193, .int .u8 0, .int .u8 0] 5) := ⟨_, rfl⟩
  have hbqw4 : Below qw3.heap.size qw3 qw4 := by rw [hqw4]; exact bel1' _ _
  replace hq4 : BS qw4 (some ⟨pwz.heap.size + 3, 0, none⟩) 4 4 [1, 193, 0, 0] := by rw [hqw4, ← sqw3]; exact hq4
  have sqw4 : qw4.heap.size = pwz.heap.size + 4 := by rw [hqw4, World.size_alloc, sqw3]
  replace hq1 := hq1.below hbqw4
  replace hq2 := hq2.below hbqw4
  replace hq3 := hq3.below hbqw4
  have hq5 := BS.alloc qw4 [1, 2, 3, 0, 0, 0] 5 (0, 0) (by decide) (by decide)
  obtain ⟨qw5, hqw5⟩ : ∃ W, W = qw4.alloc (.cells #[.int .u8 1, .int .u8 2, .int .u8 3, .int .u8 0, .int .u8 0, .int .u8 0] 5) := ⟨_, rfl⟩
  have hbqw5 : Below qw4.heap.size qw4 qw5 := by rw [hqw5]; exact bel1' _ _
  replace hq5 : BS qw5 (some ⟨pwz.heap.size + 4, 0, none⟩) 6 6 [1, 2, 3, 0, 0, 0] := by rw [hqw5, ← sqw4]; exact hq5
  have sqw5 : qw5.heap.size = pwz.heap.size + 5 := by rw [hqw5, World.size_alloc, sqw4]
  replace hq1 := hq1.below hbqw5
  replace hq2 := hq2.below hbqw5
  replace hq3 := hq3.below hbqw5
  replace hq4 := hq4.below hbqw5
  have hq6 := BS.alloc qw5 [1, 0, 1, 2, 3] 5 (0, 0) (by decide) (by decide)
  obtain ⟨qw6, hqw6⟩ : ∃ W, W = qw5.alloc (.cells #[.int .u8 1, .int .u8 0, .int .u8 1, .int .u8 2, .int .u8 3] 5) := ⟨_, rfl⟩
  have hbqw6 : Below qw5.heap.size qw5 qw6 := by rw [hqw6]; exact bel1' _ _
  replace hq6 : BS qw6 (some ⟨pwz.heap.size + 5, 0, none⟩) 5 5 [1, 0, 1, 2, 3] := by rw [hqw6, ← sqw5]; exact hq6
  have sqw6 : qw6.heap.size = pwz.heap.size + 6 := by rw [hqw6, World.size_alloc, sqw5]
  replace hq1 := hq1.below hbqw6
  replace hq2 := hq2.below hbqw6
  replace hq3 := hq3.below hbqw6
  replace hq4 := hq4.below hbqw6
  replace hq5 := hq5.below hbqw6
  have hgq := World.alloc_heap_new qw6 (.cells #[.slice none 0 0, .slice (some ⟨pwz.heap.size, 0, none⟩) 1 1, .slice (some ⟨pwz.heap.size + 1, 0, none⟩) 1 1, .slice (some ⟨pwz.heap.size + 2, 0, none⟩) 2 2, .slice (some ⟨pwz.heap.size + 3, 0, none⟩) 4 4, .slice (some ⟨pwz.heap.size + 4, 0, none⟩) 6 6, .slice (some ⟨pwz.heap.size + 5, 0, none⟩) 5 5] 22)
  obtain ⟨qwz, hqwz⟩ : ∃ W, W = qw6.alloc (.cells #[.slice none 0 0, .slice (some ⟨pwz.heap.size, 0, none⟩) 1 1, .slice (some ⟨pwz.heap.size + 1, 0, none⟩) 1 1, .slice (some ⟨pwz.heap.size + 2, 0, none⟩) 2 2, .slice (some ⟨pwz.heap.size + 3, 0, none⟩) 4 4, .slice (some ⟨pwz.heap.size + 4, 0, none⟩) 6 6, .slice (some ⟨pwz.heap.size + 5, 0, none⟩) 5 5] 22) := ⟨_, rfl⟩
  have hbqwz : Below qw6.heap.size qw6 qwz := by rw [hqwz]; exact bel1' _ _
  rw [← hqwz, sqw6] at hgq
  replace hq1 := hq1.below hbqwz
  replace hq2 := hq2.below hbqwz
  replace hq3 := hq3.below hbqwz
  replace hq4 := hq4.below hbqwz
  replace hq5 := hq5.below hbqwz
  replace hq6 := hq6.below hbqwz
  have Eq := Lib.hid (show EL blR qwz (some ⟨pwz.heap.size + 6, 0, none⟩) 7 7 tl from el_bl (ss := [(none, 0, 0), ((some ⟨pwz.heap.size, 0, none⟩), 1, 1), ((some ⟨pwz.heap.size + 1, 0, none⟩), 1, 1), ((some ⟨pwz.heap.size + 2, 0, none⟩), 2, 2), ((some ⟨pwz.heap.size + 3, 0, none⟩), 4, 4), ((some ⟨pwz.heap.size + 4, 0, none⟩), 6, 6), ((some ⟨pwz.heap.size + 5, 0, none⟩), 5, 5)]) (ls := tl) hgq ⟨BS.empty _, hq1, hq2, hq3, hq4, hq5, hq6, trivial⟩ (by decide))
  have Kq := Lib.hid (show Below pwz.heap.size pwz qwz from nx (nx (nx (nx (nx (nx (hbqw1) hbqw2) hbqw3) hbqw4) hbqw5) hbqw6) hbqwz)
  have Qqw1 := Lib.hid hqw1
  have Qqw2 := Lib.hid hqw2
  have Qqw3 := Lib.hid hqw3
  have Qqw4 := Lib.hid hqw4
  have Qqw5 := Lib.hid hqw5
  have Qqw6 := Lib.hid hqw6
  have Qqwz := Lib.hid hqwz
  clear hqw1 hbqw1 hqw2 hbqw2 hqw3 hbqw3 hqw4 hbqw4 hqw5 hbqw5 hqw6 hbqw6 hqwz hbqwz sqw1 sqw2 sqw3 sqw4 sqw5 sqw6 hgq hq1 hq2 hq3 hq4 hq5 hq6
  go_upto_region 10 with (fail)
  simp only [Nat.add_assoc, Nat.reduceAdd]
  rw [← Qqw1.out]
  rw [← Qqw2.out]
  rw [← Qqw3.out]
  rw [← Qqw4.out]
  rw [← Qqw5.out]
  rw [← Qqw6.out]
  rw [← Qqwz.out]
  obtain ⟨qg, hgg⟩ : ∃ g, g = pwz.heap.size + 6 := ⟨_, rfl⟩
  rw [← hgg] at Eq ⊢
  clear hgg Qqw1 Qqw2 Qqw3 Qqw4 Qqw5 Qqw6 Qqwz
  have Ep' := Lib.hid (Ep.out.below Kq.out)
  have HW8 := Lib.hid (nx (nx HW7.out Kp.out) Kq.out)
  clear Ep Kp Kq HW7
  go_wp2_with fail
  go_loopw [17] (fun i wr => ∃ k : Nat, k ≤ 5 ∧ i = .int .i64 k ∧ Hid (Below w.heap.size w wr) ∧ Hid (Below qwz.heap.size qwz wr)) (fun i _ => 5 - (intOf i).toNat)
  case atStart => exact ⟨0, Nat.zero_le _, rfl, HW8, Lib.hid (bel0 _)⟩
  case round =>
    clear HW8
    obtain ⟨k, hk, rfl, HW8, HK⟩ := hrel
    by_cases hlt : k < 5
    · have hki : (k : Int) < 5 := by omega
      have hkl : k < wl.length := hlt
      obtain ⟨g1, o1, cs1, hA, ⟨P1, m1, d1, rfl, hs1⟩, hc1⟩ := Ep'.out.cellsAt HK.out hkl
      injection hA with hA
      injection hA with hA1 hA2
      subst hA1 hA2
      have hno := wl_no wl[k] (List.getElem_mem hkl)
      have e1 : wr.cell? ⟨pg, k, none⟩ = some (.slice P1 m1 d1) := by have := hc1 0 _ rfl; simpa [blR] using this
      have a1 : (⟨pg, 0, none⟩ : Addr).add k = ⟨pg, k, none⟩ := by rw [addr_add, Nat.zero_add]
      have HS1 := Lib.hid hs1
      have HNO := Lib.hid hno
      have HLL := Lib.hid (show wl[k].length ≤ 1000 from by
        have : ∀ x ∈ wl, x.length ≤ 1000 := by decide
        exact this _ (List.getElem_mem hkl))
      clear hno hs1 hc1
      generalize wl[k] = x at *
      go_wp2_with fail
      refine (next_any HS1.out).mono ?_
      rw [HNO.out.1]
      rintro r w9 ⟨v, u, rfl, ho, hu, hb⟩
      simp only
      have HS2 := Lib.hid (HS1.out.below hb)
      have e2 := (hb.cell (p := ⟨pg, k, none⟩) (World.block_lt_of_cell? _ _ e1)).trans e1
      have HW9 := Lib.hid (nx HW8.out hb)
      have HK9 := Lib.hid (nx HK.out hb)
      clear ho hu hb e1 HS1 HW8 HK
      go_wp2_with fail
      refine (all_any HS2.out (by have := HLL.out; omega)).mono ?_
      rw [HNO.out.2]
      rintro r wa ⟨v2, u2, z2, rfl, h1, h2, h3, hb⟩
      simp only
      have HWa := Lib.hid (nx HW9.out hb)
      have HKa := Lib.hid (nx HK9.out hb)
      clear h1 h2 h3 hb e2 HS2 HW9 HK9
      go_wp2_with fail
      exact ⟨⟨k + 1, by omega, by go_num, HWa, HKa⟩, by simp [intOf]; omega⟩
    · have hki : ¬ (k : Int) < 5 := by omega
      obtain rfl : k = 5 := by omega
      have Eq' := Lib.hid (Eq.out.below HK.out)
      clear Eq hki hlt hk HK
      obtain ⟨ww, hww⟩ : ∃ W, W = wr := ⟨_, rfl⟩
      subst hww
      simp only [show ((5 : Nat) : Int) = 5 from rfl]
      go_wp2_with fail
      go_loopw [26] (fun i wr => ∃ k : Nat, k ≤ 7 ∧ i = .int .i64 k ∧ Hid (Below w.heap.size w wr) ∧ Hid (Below ww.heap.size ww wr)) (fun i _ => 7 - (intOf i).toNat)
      case atStart => exact ⟨0, Nat.zero_le _, rfl, HW8, Lib.hid (bel0 _)⟩
      case round =>
        clear HW8
        obtain ⟨k, hk, rfl, HW8, HK⟩ := hrel
        by_cases hlt : k < 7
        · have hki : (k : Int) < 7 := by omega
          have hkl : k < tl.length := hlt
          obtain ⟨g1, o1, cs1, hA, ⟨P1, m1, d1, rfl, hs1⟩, hc1⟩ := Eq'.out.cellsAt HK.out hkl
          injection hA with hA
          injection hA with hA1 hA2
          subst hA1 hA2
          have hno := tl_no tl[k] (List.getElem_mem hkl)
          have e1 : wr.cell? ⟨qg, k, none⟩ = some (.slice P1 m1 d1) := by have := hc1 0 _ rfl; simpa [blR] using this
          have a1 : (⟨qg, 0, none⟩ : Addr).add k = ⟨qg, k, none⟩ := by rw [addr_add, Nat.zero_add]
          have HS1 := Lib.hid hs1
          have HNO := Lib.hid hno
          have HLL := Lib.hid (show tl[k].length ≤ 1000 from by
            have : ∀ x ∈ tl, x.length ≤ 1000 := by decide
            exact this _ (List.getElem_mem hkl))
          clear hno hs1 hc1
          generalize tl[k] = x at *
          go_wp2_with fail
          refine (next_any HS1.out).mono ?_
          rw [HNO.out.1]
          rintro r w9 ⟨v, u, rfl, ho, hu, hb⟩
          simp only
          have HS2 := Lib.hid (HS1.out.below hb)
          have e2 := (hb.cell (p := ⟨qg, k, none⟩) (World.block_lt_of_cell? _ _ e1)).trans e1
          have HW9 := Lib.hid (nx HW8.out hb)
          have HK9 := Lib.hid (nx HK.out hb)
          clear ho hu hb e1 HS1 HW8 HK
          go_wp2_with fail
          refine (all_any HS2.out (by have := HLL.out; omega)).mono ?_
          rw [HNO.out.2]
          intro r wa hh
          obtain ⟨A9, c9, B9, d9, D9, k9, g9, rfl, hI, hE, hD, ho, hb⟩ := hh.open (by simp) (by intro x hx; cases hx) HS2.out.byt (by have := HLL.out; omega)
          have HD9 := Lib.hid hD
          have HS3 := Lib.hid (HS2.out.below hb)
          have HWa := Lib.hid (nx HW9.out hb)
          have HKa := Lib.hid (nx HK9.out hb)
          have e3 := (hb.cell (p := ⟨qg, k, none⟩) (World.block_lt_of_cell? _ _ e2)).trans e2
          simp only [List.length_nil]
          clear hh hI hE hD ho hb e2 HS2 HW9 HK9
          go_wp2_with fail
          refine (eqBytes_any D9 P1 k9 g9 m1 d1 x x _ HD9.out HS3.out).mono ?_
          rintro r wb ⟨rfl, hb⟩
          rw [decide_eq_true rfl]
          have HWb := Lib.hid (nx HWa.out hb)
          have HKb := Lib.hid (nx HKa.out hb)
          clear hb HD9 HS3 e3 HWa HKa
          go_wp2_with fail
          exact ⟨⟨k + 1, by omega, by go_num, HWb, HKb⟩, by simp [intOf]; omega⟩
        · have hki : ¬ (k : Int) < 7 := by omega
          obtain rfl : k = 7 := by omega
          go_wp2_with fail
          refine (works03_any _).mono ?_
          rintro r wc ⟨rfl, hb⟩
          have HWc := Lib.hid (nx HW8.out hb)
          clear hb
          go_wp2_with fail
          go_ret
          exact ⟨rfl, HWc.out⟩
end Go.Proofs.Ytmnabhennibddaa
