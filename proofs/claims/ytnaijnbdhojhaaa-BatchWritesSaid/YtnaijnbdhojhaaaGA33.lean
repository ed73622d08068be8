/- The document's write, Check, Bytes of a batch: contracts. No conditions. -/
import Derived.Test.YtnaijnbdhojhaaaGA32
import Derived.Test.YtnaijnbdhojhaaaGA30
set_option linter.unusedSimpArgs false
set_option linter.unusedVariables false
namespace Go.Proofs.Ytnaijnbdhojhaaa
open Go.RowKit

theorem alloc_block {w : World} {o : Obj} {q : Nat} {x : Obj} (h : w.heap[q]? = some x) : (w.alloc o).heap[q]? = some x := (Below.heap_alloc w o q (Array.getElem?_eq_some_iff.1 h).1).trans h
theorem BS.grownR {w w' : World} {row : Option Nat} {A : Option Addr} {n c : Nat} {l : List Nat} (h : BS w A n c l) (hg : w.grownBy w' row) (hr : ∀ ad, A = some ad → row ≠ some ad.block) : BS w' A n c l := by
  refine ⟨h.len, h.le, h.nil, fun i hi => ?_, h.byt, h.lim⟩
  obtain ⟨ad, hA, hc⟩ := h.lies i hi
  refine ⟨ad, hA, ?_⟩
  have hbl : (ad.add i).block = ad.block := by
    unfold Addr.add
    split <;> rfl
  have hlt := World.block_lt_of_cell? w _ hc
  have hh := hg.block (ad.add i).block hlt (fun e => hr ad hA (by rw [← hbl]; exact e.symm))
  rw [← hc]
  unfold World.cell?
  rw [hh]
theorem TwoB.open3 {w w' : World} {e : Ending} {l : List Nat} {k : Int} (h : TwoB w w' e l k) (hb : Byt l) (hl : l.length ≤ 140737488354304) :
    ∃ A n c, e = .returned (.tuple #[.slice A n c, .int .i64 k]) ∧ BS w' A n c l ∧ (∀ ad, A = some ad → w.heap.size ≤ ad.block ∧ ad.block < w'.heap.size) ∧ Below w.heap.size w w' := by
  obtain ⟨v, rfl, ho, hbl⟩ := h
  obtain ⟨A, n, c, rfl, hB, h2⟩ := ownsRow_bs ho hb hl
  exact ⟨A, n, c, rfl, hB, h2, hbl⟩
theorem far {v : Value} {A : Option Addr} {y z : Nat} (h : ∀ k, v.ownBlock = some k → k < y ∨ z ≤ k) (h2 : ∀ ad, A = some ad → y ≤ ad.block ∧ ad.block < z) : ∀ ad, A = some ad → v.ownBlock ≠ some ad.block := by
  intro ad hA hv
  have h3 := h _ hv
  have h4 := h2 _ hA
  omega
theorem bel1 (w : World) (o : Obj) : Below w.heap.size w (w.alloc o) := (bel0 w).alloc (Nat.le_refl _) o
set_option maxHeartbeats 64000000 in
set_option maxRecDepth 100000 in
theorem refWrite_any {A : Option Addr} {n c : Nat} {b : Bat} {w : World} (h : LS w A n c b.sp) (hok : OkC b) :
    Calls Try.prog 39 #[.agg #[.int .i64 b.ag, .int .i64 b.sq, .slice A n c]] w fun e w' => ∃ v, e = .returned v ∧ w'.ownsRow w.heap.size 5 1 v (btB b).length (bv (btB b)) ∧ Below w.heap.size w w' := by
  have HL := Lib.hid h
  have HN := Lib.hid h.len
  have HPT := Lib.hid h.pt
  have HOK := Lib.hid hok
  have hn1 : 1 ≤ n := by rw [h.len]; exact hok.n.1
  have hn2 : n ≤ 16 := by rw [h.len]; exact hok.n.2
  clear h hok
  have hbi : Below (w.alloc (.cells #[.int .i64 b.ag, .int .i64 b.sq, .slice A n c] 26)).heap.size (w.alloc (.cells #[.int .i64 b.ag, .int .i64 b.sq, .slice A n c] 26)) ((w.alloc (.cells #[.int .i64 b.ag, .int .i64 b.sq, .slice A n c] 26)).alloc (.cells ([b.ag, b.sq, (n : Int)].map (Value.int .i64)).toArray 3)) := bel1 _ _
  have hgi := heap_alloc_new (w.alloc (.cells #[.int .i64 b.ag, .int .i64 b.sq, .slice A n c] 26)) (.cells ([b.ag, b.sq, (n : Int)].map (Value.int .i64)).toArray 3)
  have BT := alloc_block (o := .cells ([b.ag, b.sq, (n : Int)].map (Value.int .i64)).toArray 3) (heap_alloc_new w (.cells #[.int .i64 b.ag, .int .i64 b.sq, .slice A n c] 26))
  have hb2 := nx (bel1 w (.cells #[.int .i64 b.ag, .int .i64 b.sq, .slice A n c] 26)) hbi
  rw [World.size_alloc] at hgi
  go_enter Try.func39, Try.ntmps39
  go_wp2_with fail
  have hW : ∃ W, W = (w.alloc (.cells #[.int .i64 b.ag, .int .i64 b.sq, .slice A n c] 26)).alloc (.cells ([b.ag, b.sq, (n : Int)].map (Value.int .i64)).toArray 3) := ⟨_, rfl⟩
  obtain ⟨W2, hW⟩ := hW
  rw [← hW] at hgi BT hb2
  have hW2 : W2 = (w.alloc (.cells #[.int .i64 b.ag, .int .i64 b.sq, .slice A n c] 26)).alloc (.cells #[.int .i64 b.ag, .int .i64 b.sq, .int .i64 (n : Int)] 3) := hW
  rw [← hW2]
  clear hW hW2 hbi
  refine (refu_any (l := [b.ag, b.sq, (n : Int)]) hgi (by simp)).mono ?_
  rintro r w3 ⟨v3, rfl, ho, hb3⟩
  have hb03 := nx hb2 hb3
  have HO := Lib.hid (ownsRow_base ho hb2.size)
  have BT3 := Lib.hid ((hb3.block _ (Array.getElem?_eq_some_iff.1 BT).1).trans BT)
  have HU := Lib.hid (show (uN [b.ag, b.sq, (n : Int)]).length ≤ 24 from uN_len [b.ag, b.sq, (n : Int)])
  have HUE := Lib.hid (show uN [b.ag, b.sq, (n : Int)] = uN [b.ag, b.sq, (b.sp.length : Int)] by rw [HN.out])
  clear hgi BT hb2 hb3 ho
  generalize uN [b.ag, b.sq, (n : Int)] = U0 at *
  go_wp2_with fail
  have H0 := Lib.hid (show w3.ownsRow w.heap.size 5 1 v3 (U0 ++ ((b.sp.take 0).map spB).flatten).length (bv (U0 ++ ((b.sp.take 0).map spB).flatten)) by simpa using HO.out)
  clear HO
  go_loopw [3, 4] (fun v i wr => ∃ (vo : Value) (k : Nat), vo = v ∧ k ≤ n ∧ i = .int .i64 k ∧ Hid (wr.ownsRow w.heap.size 5 1 vo (U0 ++ ((b.sp.take k).map spB).flatten).length (bv (U0 ++ ((b.sp.take k).map spB).flatten))) ∧ Hid (wr.heap[w.heap.size]? = some (.cells #[.int .i64 b.ag, .int .i64 b.sq, .slice A n c] 26 (0, 0))) ∧ Below w.heap.size w wr) (fun _ i _ => n - (intOf i).toNat)
  case atStart => exact ⟨_, 0, rfl, Nat.zero_le _, rfl, H0, BT3, hb03⟩
  case round =>
    clear H0 BT3 hb03
    obtain ⟨vo, k, rfl, hk, rfl, HO, BT, hb⟩ := hrel
    have z0 := cell_of BT.out 0
    have z1 := cell_of BT.out 1
    have z2 := cell_of BT.out 2
    simp at z0 z1 z2
    by_cases hlt : k < n
    · have hlt' : k < b.sp.length := by rw [← HN.out]; exact hlt
      obtain ⟨g1, o1, B, m, d, hA, hAS, y0, y1, y2, y3, y4, y5, y6, y7, y8⟩ := HL.out.cellsAt hb hlt'
      subst hA
      have haa : (⟨g1, o1, none⟩ : Addr).add (k * 9) = ⟨g1, o1 + k * 9, none⟩ := addr_add _ _ _
      have HPK := Lib.hid (HPT.out _ (List.getElem_mem hlt'))
      have HSN := Lib.hid (show U0 ++ ((b.sp.take (k + 1)).map spB).flatten = (U0 ++ ((b.sp.take k).map spB).flatten) ++ spB b.sp[k] by rw [sp_snoc hlt', List.append_assoc])
      have HOS := Lib.hid (HOK.out.sp _ (List.getElem_mem hlt'))
      have hlen : (U0 ++ ((b.sp.take k).map spB).flatten).length ≤ 10000000 := by
        have h1 := (sps_len (l := b.sp.take k) (fun s hs => ⟨HOK.out.sp s (List.mem_of_mem_take hs), HPT.out s (List.mem_of_mem_take hs)⟩)).2
        have h2 := List.length_take_le k b.sp
        have := HU.out
        rw [List.length_append]
        omega
      generalize b.sp[k] = s at *
      generalize U0 ++ ((b.sp.take k).map spB).flatten = L1 at *
      have X0' := BSp.new wr s (.slice B m d)
      have hq0 : w.heap.size < wr.heap.size := (Array.getElem?_eq_some_iff.1 BT.out).1
      obtain ⟨qs, hqs⟩ : ∃ q, q = wr.heap.size := ⟨_, rfl⟩
      have X1 : BSp ((wr.alloc (.cells #[.int .i64 s.tr, .int .i64 s.id, .int .i64 s.pa, .string s.sv, .string s.op, .int .i64 s.st, .int .i64 s.ln, .string s.sj, .slice B m d] 42)).alloc (.cells ((sN s).map (Value.int .i64)).toArray 3)) qs s (.slice B m d) := by
        rw [hqs]
        exact X0'.below (bel1 _ _)
      have hgi := heap_alloc_new (wr.alloc (.cells #[.int .i64 s.tr, .int .i64 s.id, .int .i64 s.pa, .string s.sv, .string s.op, .int .i64 s.st, .int .i64 s.ln, .string s.sj, .slice B m d] 42)) (.cells ((sN s).map (Value.int .i64)).toArray 3)
      rw [World.size_alloc] at hgi
      have hbx := nx (bel1 wr (.cells #[.int .i64 s.tr, .int .i64 s.id, .int .i64 s.pa, .string s.sv, .string s.op, .int .i64 s.st, .int .i64 s.ln, .string s.sj, .slice B m d] 42)) (bel1 (wr.alloc (.cells #[.int .i64 s.tr, .int .i64 s.id, .int .i64 s.pa, .string s.sv, .string s.op, .int .i64 s.st, .int .i64 s.ln, .string s.sj, .slice B m d] 42)) (.cells ((sN s).map (Value.int .i64)).toArray 3))
      have HAS := Lib.hid hAS
      clear hAS X0'
      go_wp2_with fail
      have hW : ∃ W, W = (wr.alloc (.cells #[.int .i64 s.tr, .int .i64 s.id, .int .i64 s.pa, .string s.sv, .string s.op, .int .i64 s.st, .int .i64 s.ln, .string s.sj, .slice B m d] 42)).alloc (.cells ((sN s).map (Value.int .i64)).toArray 3) := ⟨_, rfl⟩
      obtain ⟨W1, hW⟩ := hW
      rw [← hW] at X1 hgi hbx
      have hW2 : W1 = (wr.alloc (.cells #[.int .i64 s.tr, .int .i64 s.id, .int .i64 s.pa, .string s.sv, .string s.op, .int .i64 s.st, .int .i64 s.ln, .string s.sj, .slice B m d] 42)).alloc (.cells #[.int .i64 s.tr, .int .i64 s.id, .int .i64 s.pa, .int .i64 s.st, .int .i64 s.ln] 3) := hW
      rw [← hW2]
      clear hW hW2 z0 z1 z2 y0 y1 y2 y3 y4 y5 y6 y7 y8
      rw [← hqs] at hgi ⊢
      clear hqs
      have HO1 := Lib.hid (ownsRow_below HO.out hbx)
      have BT1 := Lib.hid ((hbx.block _ (Array.getElem?_eq_some_iff.1 BT.out).1).trans BT.out)
      have hb1 := nx hb hbx
      clear HO BT hb hbx
      refine (refu_any (l := sN s) hgi (by simp [sN])).mono ?_
      rintro r w5 ⟨v5, rfl, ho5, hb5⟩
      have hu5 := uN_len (sN s)
      have hu5' : (sN s).length = 5 := rfl
      obtain ⟨A5, n5, c5, rfl, hB5, _⟩ := ownsRow_bs ho5 (uN_byt _) (by omega)
      have HO5 := Lib.hid (ownsRow_below HO1.out hb5)
      have BT5 := Lib.hid ((hb5.block _ (Array.getElem?_eq_some_iff.1 BT1.out).1).trans BT1.out)
      have X5 := Lib.hid (X1.below hb5)
      have hb15 := nx hb1 hb5
      have HB5 := Lib.hid hB5
      clear ho5 hB5 HO1 BT1 X1 hb1 hb5 hgi
      go_wp2_with (at_builtin; refine append_bytes rfl (.tmp 35) (.tmp 47) rfl w.heap.size vo L1 (uN (sN s)) rfl HO5.out A5 n5 c5 rfl HB5.out (by omega) hb15.size ?_; intro v6 w6 ho6 hg6 hv6; have hb6 := grown_below hb15 hg6 (own_block HO5.out); have HO6 := Lib.hid ho6; have BT6 := Lib.hid ((hg6.block _ (Array.getElem?_eq_some_iff.1 BT5.out).1 (fun e => own_ne HO5.out BT5.out (by decide) e.symm)).trans BT5.out); have X6 := Lib.hid (show BSp w6 qs s (.slice B m d) from (hg6.block _ (Array.getElem?_eq_some_iff.1 X5.out).1 (fun e => own_ne HO5.out X5.out (by decide) e.symm)).trans X5.out); obtain ⟨x0, x1, x2, x3, x4, x5, x6, x7, x8⟩ := X6.out.cells; have OV6 := Lib.hid (fun k (hk : v6.ownBlock = some k) => (HO6.out.lt k hk).2); have hz6 := Nat.le_refl w6.heap.size; clear ho6 hg6 hv6 HO5 BT5 X5 hb15 HB5)
      refine (refText_all s.sv _).mono ?_
      intro r w7 hh
      have htP := tP_ok s.sv
      obtain ⟨AP, nP, cP, rfl, hB, hLo, hbn⟩ := hh.open3 htP.1 (by have := htP.2; omega)
      have HO7 := Lib.hid (ownsRow_below HO6.out hbn)
      have BT7 := Lib.hid ((hbn.block _ (Array.getElem?_eq_some_iff.1 BT6.out).1).trans BT6.out)
      have X7 := Lib.hid (X6.out.below hbn)
      have hb7 := nx hb6 hbn
      have hz7 := Nat.le_trans hz6 hbn.size
      have LP_7 := Lib.hid (fun ad (h : AP = some ad) => And.intro (Nat.le_trans hz6 (hLo ad h).1) (hLo ad h).2)
      have BP_7 := Lib.hid hB
      have lP := htP.2
      clear hh hB hLo hbn htP hz6 HO6 BT6 X6 hb6 x0 x1 x2 x3 x4 x5 x6 x7 x8 
      obtain ⟨x0, x1, x2, x3, x4, x5, x6, x7, x8⟩ := X7.out.cells
      go_wp2_with fail
      refine (refText_all s.op _).mono ?_
      intro r w8 hh
      have htQ := tP_ok s.op
      obtain ⟨AQ, nQ, cQ, rfl, hB, hLo, hbn⟩ := hh.open3 htQ.1 (by have := htQ.2; omega)
      have HO8 := Lib.hid (ownsRow_below HO7.out hbn)
      have BT8 := Lib.hid ((hbn.block _ (Array.getElem?_eq_some_iff.1 BT7.out).1).trans BT7.out)
      have X8 := Lib.hid (X7.out.below hbn)
      have hb8 := nx hb7 hbn
      have hz8 := Nat.le_trans hz7 hbn.size
      have LQ_8 := Lib.hid (fun ad (h : AQ = some ad) => And.intro (Nat.le_trans hz7 (hLo ad h).1) (hLo ad h).2)
      have BQ_8 := Lib.hid hB
      have BP_8 := Lib.hid (BP_7.out.below hbn)
      have LP_8 := Lib.hid (fun ad (h : AP = some ad) => And.intro (LP_7.out ad h).1 (Nat.lt_of_lt_of_le (LP_7.out ad h).2 hbn.size))
      have lQ := htQ.2
      clear hh hB hLo hbn htQ hz7 HO7 BT7 X7 hb7 x0 x1 x2 x3 x4 x5 x6 x7 x8 BP_7 LP_7
      obtain ⟨x0, x1, x2, x3, x4, x5, x6, x7, x8⟩ := X8.out.cells
      go_wp2_with fail
      refine (refText_all s.sj _).mono ?_
      intro r w9 hh
      have htR := tP_ok s.sj
      obtain ⟨AR, nR, cR, rfl, hB, hLo, hbn⟩ := hh.open3 htR.1 (by have := htR.2; omega)
      have HO9 := Lib.hid (ownsRow_below HO8.out hbn)
      have BT9 := Lib.hid ((hbn.block _ (Array.getElem?_eq_some_iff.1 BT8.out).1).trans BT8.out)
      have X9 := Lib.hid (X8.out.below hbn)
      have hb9 := nx hb8 hbn
      have hz9 := Nat.le_trans hz8 hbn.size
      have LR_9 := Lib.hid (fun ad (h : AR = some ad) => And.intro (Nat.le_trans hz8 (hLo ad h).1) (hLo ad h).2)
      have BR_9 := Lib.hid hB
      have BP_9 := Lib.hid (BP_8.out.below hbn)
      have LP_9 := Lib.hid (fun ad (h : AP = some ad) => And.intro (LP_8.out ad h).1 (Nat.lt_of_lt_of_le (LP_8.out ad h).2 hbn.size))
      have BQ_9 := Lib.hid (BQ_8.out.below hbn)
      have LQ_9 := Lib.hid (fun ad (h : AQ = some ad) => And.intro (LQ_8.out ad h).1 (Nat.lt_of_lt_of_le (LQ_8.out ad h).2 hbn.size))
      have lR := htR.2
      clear hh hB hLo hbn htR hz8 HO8 BT8 X8 hb8 x0 x1 x2 x3 x4 x5 x6 x7 x8 BP_8 LP_8 BQ_8 LQ_8
      obtain ⟨x0, x1, x2, x3, x4, x5, x6, x7, x8⟩ := X9.out.cells
      go_wp2_with fail
      refine (refAttrs_any (HAS.out.below hb9)).mono ?_
      intro r w10 hh
      have hap := atP_ok HPK.out
      have ha1 : (atP s.ats).1 = asB s.ats := by unfold atP; rw [if_pos HOS.out.ats]
      rw [ha1] at hap hh
      obtain ⟨AT, nT, cT, rfl, hB, hLo, hbn⟩ := hh.open3 hap.1 (by have := hap.2; omega)
      have HO10 := Lib.hid (ownsRow_below HO9.out hbn)
      have BT10 := Lib.hid ((hbn.block _ (Array.getElem?_eq_some_iff.1 BT9.out).1).trans BT9.out)
      have hb10 := nx hb9 hbn
      have BP_10 := Lib.hid (BP_9.out.below hbn)
      have LP := Lib.hid (fun ad (h : AP = some ad) => And.intro (LP_9.out ad h).1 (Nat.lt_of_lt_of_le (LP_9.out ad h).2 hbn.size))
      have BQ_10 := Lib.hid (BQ_9.out.below hbn)
      have LQ := Lib.hid (fun ad (h : AQ = some ad) => And.intro (LQ_9.out ad h).1 (Nat.lt_of_lt_of_le (LQ_9.out ad h).2 hbn.size))
      have BR_10 := Lib.hid (BR_9.out.below hbn)
      have LR := Lib.hid (fun ad (h : AR = some ad) => And.intro (LR_9.out ad h).1 (Nat.lt_of_lt_of_le (LR_9.out ad h).2 hbn.size))
      have BT_10 := Lib.hid hB
      have LT := Lib.hid (fun ad (h : AT = some ad) => And.intro (Nat.le_trans hz9 (hLo ad h).1) (hLo ad h).2)
      have hz10 := Nat.le_refl w10.heap.size
      clear hLo LP_9 LQ_9 LR_9
      have hap2 := hap.2
      clear hh hB hbn hap ha1 HO9 BT9 X9 hb9 x0 x1 x2 x3 x4 x5 x6 x7 x8 BP_9 BQ_9 BR_9 HAS
      have OV10 := Lib.hid (fun k (hk : v6.ownBlock = some k) => show k < w6.heap.size ∨ w10.heap.size ≤ k from .inl (OV6.out k hk))
      have HSB := Lib.hid (show spB s = uN (sN s) ++ ((tP s.sv).1 ++ ((tP s.op).1 ++ (tP s.sj).1)) ++ asB s.ats by unfold spB tN sT; simp)
      generalize (tP s.sv).1 = T1 at *
      generalize (tP s.op).1 = T2 at *
      generalize (tP s.sj).1 = T3 at *
      generalize asB s.ats = T4 at *
      go_wp2_with (first
        | (at_builtin; refine append_bytes rfl (.tmp 73) (.tmp 74) rfl w.heap.size v6 (L1 ++ uN (sN s)) T1 rfl HO10.out AP nP cP rfl BP_10.out (by simp only [List.length_append]; omega) hb10.size ?_; intro v11 w11 ho11 hg11 hv11; have hb11 := grown_below hb10 hg11 (own_block HO10.out); have HO11 := Lib.hid ho11; have BT11 := Lib.hid ((hg11.block _ (Array.getElem?_eq_some_iff.1 BT10.out).1 (fun e => own_ne HO10.out BT10.out (by decide) e.symm)).trans BT10.out); have BQ_11 := Lib.hid (BQ_10.out.grownR hg11 (far OV10.out LQ.out)); have BR_11 := Lib.hid (BR_10.out.grownR hg11 (far OV10.out LR.out)); have BT_11 := Lib.hid (BT_10.out.grownR hg11 (far OV10.out LT.out)); have hz11 := Nat.le_trans hz10 hg11.size; have OV11 := Lib.hid (fun k (hk : v11.ownBlock = some k) => show k < w6.heap.size ∨ w10.heap.size ≤ k from (hv11 k hk).elim (OV10.out k) (fun h => .inr (Nat.le_trans hz10 h))); clear ho11 hg11 hv11)
        | (at_builtin; refine append_bytes rfl (.tmp 75) (.tmp 76) rfl w.heap.size v11 (L1 ++ uN (sN s) ++ T1) T2 rfl HO11.out AQ nQ cQ rfl BQ_11.out (by simp only [List.length_append]; omega) hb11.size ?_; intro v12 w12 ho12 hg12 hv12; have hb12 := grown_below hb11 hg12 (own_block HO11.out); have HO12 := Lib.hid ho12; have BT12 := Lib.hid ((hg12.block _ (Array.getElem?_eq_some_iff.1 BT11.out).1 (fun e => own_ne HO11.out BT11.out (by decide) e.symm)).trans BT11.out); have BR_12 := Lib.hid (BR_11.out.grownR hg12 (far OV11.out LR.out)); have BT_12 := Lib.hid (BT_11.out.grownR hg12 (far OV11.out LT.out)); have hz12 := Nat.le_trans hz11 hg12.size; have OV12 := Lib.hid (fun k (hk : v12.ownBlock = some k) => show k < w6.heap.size ∨ w10.heap.size ≤ k from (hv12 k hk).elim (OV11.out k) (fun h => .inr (Nat.le_trans hz11 h))); clear ho12 hg12 hv12)
        | (at_builtin; refine append_bytes rfl (.tmp 77) (.tmp 78) rfl w.heap.size v12 (L1 ++ uN (sN s) ++ T1 ++ T2) T3 rfl HO12.out AR nR cR rfl BR_12.out (by simp only [List.length_append]; omega) hb12.size ?_; intro v13 w13 ho13 hg13 hv13; have hb13 := grown_below hb12 hg13 (own_block HO12.out); have HO13 := Lib.hid ho13; have BT13 := Lib.hid ((hg13.block _ (Array.getElem?_eq_some_iff.1 BT12.out).1 (fun e => own_ne HO12.out BT12.out (by decide) e.symm)).trans BT12.out); have BT_13 := Lib.hid (BT_12.out.grownR hg13 (far OV12.out LT.out)); have hz13 := Nat.le_trans hz12 hg13.size; have OV13 := Lib.hid (fun k (hk : v13.ownBlock = some k) => show k < w6.heap.size ∨ w10.heap.size ≤ k from (hv13 k hk).elim (OV12.out k) (fun h => .inr (Nat.le_trans hz12 h))); clear ho13 hg13 hv13)
        | (at_builtin; refine append_bytes rfl (.tmp 79) (.tmp 80) rfl w.heap.size v13 (L1 ++ uN (sN s) ++ T1 ++ T2 ++ T3) T4 rfl HO13.out AT nT cT rfl BT_13.out (by simp only [List.length_append]; omega) hb13.size ?_; intro v14 w14 ho14 hg14 hv14; have hb14 := grown_below hb13 hg14 (own_block HO13.out); have HO14 := Lib.hid ho14; have BT14 := Lib.hid ((hg14.block _ (Array.getElem?_eq_some_iff.1 BT13.out).1 (fun e => own_ne HO13.out BT13.out (by decide) e.symm)).trans BT13.out); have hz14 := Nat.le_trans hz13 hg14.size; have OV14 := Lib.hid (fun k (hk : v14.ownBlock = some k) => show k < w6.heap.size ∨ w10.heap.size ≤ k from (hv14 k hk).elim (OV13.out k) (fun h => .inr (Nat.le_trans hz13 h))); clear ho14 hg14 hv14))
      refine ⟨⟨_, k + 1, rfl, by omega, by go_num, Lib.hid ?_, BT14, hb14⟩, by simp [intOf]; omega⟩
      rw [HSN.out]
      have := HO14.out
      rw [HSB.out]
      simpa only [List.append_assoc] using this
    · obtain rfl : k = n := by omega
      have hkn : b.sp.take k = b.sp := List.take_of_length_le (by rw [HN.out]; exact Nat.le_refl _)
      rw [hkn] at HO
      have HO2 := Lib.hid (show wr.ownsRow w.heap.size 5 1 vo (btB b).length (bv (btB b)) by unfold btB; rw [← HUE.out]; exact HO.out)
      clear HO
      go_wp2_with fail
      go_ret
      exact ⟨_, rfl, HO2.out, hb⟩
end Go.Proofs.Ytnaijnbdhojhaaa
