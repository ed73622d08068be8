/- batch.Bytes, Check: contracts. No conditions. -/
import Derived.Test.YtbhfbpaaghpadaaGC23
import Derived.Test.YtbhfbpaaghpadaaGC16
set_option linter.unusedSimpArgs false
set_option linter.unusedVariables false
namespace Go.Proofs.Ytbhfbpaaghpadaa
open Go.RowKit

theorem rs_start (w : World) (o1 : Obj) (l : List Int) :
    RS w (((w.alloc o1).alloc (.cells #[.slice none 0 0, .bool false] 58)).alloc (.cells (l.map (Value.int .i64)).toArray 3)) (w.heap.size + 1) [] false ∧
    (((w.alloc o1).alloc (.cells #[.slice none 0 0, .bool false] 58)).alloc (.cells (l.map (Value.int .i64)).toArray 3)).heap[w.heap.size + 1 + 1]? = some (.cells (l.map (Value.int .i64)).toArray 3 (0, 0)) := by
  have b1 : ∀ (w : World) (o : Obj), Below w.heap.size w (w.alloc o) := fun w o => (bel0 w).alloc (Nat.le_refl _) o
  constructor
  · refine RS.below ⟨nx (b1 w o1) (b1 _ _), ⟨_, ?_, World.ownsRow_nil _ _ _ _⟩, by omega⟩ (b1 _ _)
    have := heap_alloc_new (w.alloc o1) (.cells #[.slice none 0 0, .bool false] 58)
    rw [World.size_alloc] at this
    exact this
  · have := heap_alloc_new ((w.alloc o1).alloc (.cells #[.slice none 0 0, .bool false] 58)) (.cells (l.map (Value.int .i64)).toArray 3)
    rw [World.size_alloc, World.size_alloc] at this
    exact this
theorem in_bat {b : Bat} {k : Nat} (hk : k < b.sp.length) : b.sp[k] ∈ b.sp := List.getElem_mem hk
theorem sps_len {l : List Spn} (h : ∀ s ∈ l, OkS s ∧ ∀ a ∈ s.ats, a.lab.p < 4294967296) : Byt (l.map spB).flatten ∧ ((l.map spB).flatten).length ≤ 200000 * l.length := by
  induction l with
  | nil => exact ⟨(by intro x hx; simp at hx), by simp⟩
  | cons a l ih =>
    have h1 := ih (fun s hs => h s (by simp [hs]))
    have h2 := spB_ok (h a (by simp)).1 (h a (by simp)).2
    simp only [List.map_cons, List.flatten_cons, List.length_append, List.length_cons]
    exact ⟨Byt.append h2.1 h1.1, by omega⟩
theorem LS.pt {w : World} {A : Option Addr} {n c : Nat} {ls : List Spn} (h : LS w A n c ls) : ∀ s ∈ ls, ∀ a ∈ s.ats, a.lab.p < 4294967296 := by
  intro s hs
  obtain ⟨i, hi, rfl⟩ := List.mem_iff_getElem.1 hs
  obtain ⟨_, _, _, _, _, _, _, hA⟩ := h.at' i hi
  exact hA.pt
set_option maxHeartbeats 64000000 in
set_option maxRecDepth 100000 in
theorem batBytes_any {A : Option Addr} {n c : Nat} {b : Bat} {w : World} (h : LS w A n c b.sp) :
    Calls Try.prog 11 #[.agg #[.int .i64 b.ag, .int .i64 b.sq, .slice A n c]] w fun e w' => TwoB w w' e (btP b).1 (btP b).2 := by
  have HL := Lib.hid h
  have K0 := Lib.hid (fun h => btP_no (b := b) h)
  have K1 := Lib.hid (fun h => btP_yes (b := b) h)
  have HN := Lib.hid h.len
  have hnl : n ≤ 1256584717421 := by rw [h.len]; exact h.lim
  have HPT := Lib.hid h.pt
  have hb1 : Below w.heap.size w (w.alloc (.cells #[.int .i64 b.ag, .int .i64 b.sq, .slice A n c] 24)) := (bel0 w).alloc (Nat.le_refl _) _
  have HB1 := Lib.hid hb1
  clear h hb1
  have NO := Lib.hid (fun (w' : World) (hb : Below w.heap.size w w') (hn : ¬ OkB b) => show TwoB w w' (.returned (.tuple #[.slice none 0 0, .int .i64 90])) (btP b).1 (btP b).2 by
    rw [K0.out hn]
    exact ⟨_, rfl, World.ownsRow_nil _ _ _ _, hb⟩)
  have YES := Lib.hid (fun (w' : World) (v : Value) (ho : w'.ownsRow w.heap.size 5 1 v (btB b).length (bv (btB b))) (hb : Below w.heap.size w w') (hy : OkB b) => show TwoB w w' (.returned (.tuple #[v, .int .i64 0])) (btP b).1 (btP b).2 by
    rw [K1.out hy]
    exact ⟨_, rfl, ho, hb⟩)
  clear K0 K1
  generalize btP b = X0 at *
  go_enter Try.func11, Try.ntmps11
  by_cases a1 : 1 ≤ b.ag
  case neg =>
    go_wp2_with fail
    go_ret2
    exact NO.out _ HB1.out (fun h => by have h1 := h.1.ag; have := HN.out; omega)
  by_cases a2 : b.ag ≤ 16
  case neg =>
    go_wp2_with fail
    go_ret2
    exact NO.out _ HB1.out (fun h => by have h1 := h.1.ag; have := HN.out; omega)
  by_cases s1 : 1 ≤ b.sq
  case neg =>
    go_wp2_with fail
    go_ret2
    exact NO.out _ HB1.out (fun h => by have h1 := h.1.sq; have := HN.out; omega)
  by_cases s2 : b.sq ≤ 9007199254740991
  case neg =>
    go_wp2_with fail
    go_ret2
    exact NO.out _ HB1.out (fun h => by have h1 := h.1.sq; have := HN.out; omega)
  by_cases n1 : 1 ≤ n
  case neg =>
    go_wp2_with fail
    go_ret2
    exact NO.out _ HB1.out (fun h => by have h1 := h.1.n; have := HN.out; omega)
  by_cases n2 : n ≤ 16
  case neg =>
    go_wp2_with fail
    go_ret2
    exact NO.out _ HB1.out (fun h => by have h1 := h.1.n; have := HN.out; omega)
  have n3 : (n : Int) ≤ 9007199254740991 := by omega
  have ST := Lib.hid (rs_start w (.cells #[.int .i64 b.ag, .int .i64 b.sq, .slice A n c] 24) [b.ag, b.sq, (n : Int)])
  go_wp2_with fail
  have hW : ∃ W, W = ((w.alloc (.cells #[.int .i64 b.ag, .int .i64 b.sq, .slice A n c] 24)).alloc (.cells #[.slice none 0 0, .bool false] 58)).alloc (.cells ([b.ag, b.sq, (n : Int)].map (Value.int .i64)).toArray 3) := ⟨_, rfl⟩
  obtain ⟨W3, hW⟩ := hW
  have BT : W3.heap[w.heap.size]? = some (.cells #[.int .i64 b.ag, .int .i64 b.sq, .slice A n c] 24 (0, 0)) := by
    rw [hW]
    exact (Below.heap_alloc _ _ _ (by simp; omega)).trans ((Below.heap_alloc _ _ _ (by simp)).trans (heap_alloc_new w _))
  rw [← hW] at ST
  have hW2 : W3 = ((w.alloc (.cells #[.int .i64 b.ag, .int .i64 b.sq, .slice A n c] 24)).alloc (.cells #[.slice none 0 0, .bool false] 58)).alloc (.cells #[.int .i64 b.ag, .int .i64 b.sq, .int .i64 (n : Int)] 3) := hW
  rw [← hW2]
  clear hW hW2
  obtain ⟨q, hq⟩ : ∃ q, q = w.heap.size + 1 := ⟨_, rfl⟩
  obtain ⟨g, hg⟩ : ∃ g, g = w.heap.size + 1 + 1 := ⟨_, rfl⟩
  rw [← hg, ← hq] at ST ⊢
  have hgq : g ≠ q := by omega
  have hwq : w.heap.size ≠ q := by omega
  clear hq hg
  refine (rnumbers_any (l := [b.ag, b.sq, (n : Int)]) ST.out.1 ST.out.2 hgq (by simp) (by simp)).mono ?_
  rintro r w4 ⟨rfl, hr, hk⟩
  rw [List.nil_append, show (false || uE [b.ag, b.sq, (n : Int)]) = false from uE_in (by
    intro x hx
    simp only [List.mem_cons, List.not_mem_nil, or_false] at hx
    rcases hx with rfl | rfl | rfl <;> omega)] at hr
  have HS := Lib.hid hr
  have BT4 := hk.2 _ _ _ _ hwq (by decide) BT
  have hz2 := cell_of BT4 2
  simp at hz2
  have HU := Lib.hid (show (uN [b.ag, b.sq, (n : Int)]).length ≤ 24 from uN_len [b.ag, b.sq, (n : Int)])
  have HUE := Lib.hid (show uN [b.ag, b.sq, (n : Int)] = uN [b.ag, b.sq, (b.sp.length : Int)] by rw [HN.out])
  clear hr hk ST BT BT4
  generalize uN [b.ag, b.sq, (n : Int)] = U0 at *
  go_wp2_with fail
  have H0 := Lib.hid (show RS w w4 q (U0 ++ ((b.sp.take 0).map spB).flatten) false by simpa using HS.out)
  clear HS
  go_loopw [49] (fun i wr => ∃ k : Nat, k ≤ n ∧ i = .int .i64 k ∧ Hid (RS w wr q (U0 ++ ((b.sp.take k).map spB).flatten) false) ∧ Hid (∀ s ∈ b.sp.take k, OkS s)) (fun i _ => n - (intOf i).toNat)
  case atStart => exact ⟨0, Nat.zero_le _, rfl, H0, Lib.hid (by simp)⟩
  case round =>
    clear H0 hz2
    obtain ⟨k, hk, rfl, HS, HK⟩ := hrel
    by_cases hlt : k < n
    · have hlt' : k < b.sp.length := by rw [← HN.out]; exact hlt
      obtain ⟨g1, o1, B, m, d, hA, hAS, y0, y1, y2, y3, y4, y5, y6, y7, y8⟩ := HL.out.cellsAt HS.out.bel hlt'
      subst hA
      have haa : (⟨g1, o1, none⟩ : Addr).add (k * 9) = ⟨g1, o1 + k * 9, none⟩ := addr_add _ _ _
      have HPK := Lib.hid (HPT.out _ (List.getElem_mem hlt'))
      have HSN := Lib.hid (show U0 ++ ((b.sp.take (k + 1)).map spB).flatten = (U0 ++ ((b.sp.take k).map spB).flatten) ++ spB b.sp[k] by rw [sp_snoc hlt', List.append_assoc])
      have HTK := Lib.hid (show b.sp.take (k + 1) = b.sp.take k ++ [b.sp[k]] from List.take_succ_eq_append_getElem hlt')
      have HMEM := Lib.hid (show b.sp[k] ∈ b.sp from List.getElem_mem hlt')
      have hlen : (U0 ++ ((b.sp.take k).map spB).flatten).length ≤ 10000000 := by
        have h1 := (sps_len (l := b.sp.take k) (fun s hs => ⟨HK.out s hs, HPT.out s (List.mem_of_mem_take hs)⟩)).2
        have h2 := List.length_take_le k b.sp
        have := HU.out
        rw [List.length_append]
        omega
      generalize b.sp[k] = s at *
      generalize U0 ++ ((b.sp.take k).map spB).flatten = L1 at *
      obtain ⟨qs, hqs⟩ : ∃ q, q = wr.heap.size := ⟨_, rfl⟩
      have X0' := BSp.new wr s (.slice B m d)
      have hbx : Below wr.heap.size wr (wr.alloc (.cells #[.int .i64 s.tr, .int .i64 s.id, .int .i64 s.pa, .string s.sv, .string s.op, .int .i64 s.st, .int .i64 s.ln, .string s.sj, .slice B m d] 32)) := (bel0 wr).alloc (Nat.le_refl _) _
      have HS1 := Lib.hid (HS.out.below hbx)
      have HA0 := Lib.hid hAS
      have HA1 := Lib.hid (hAS.below (nx HS.out.bel hbx))
      have hqq : qs ≠ q := by
        obtain ⟨v, hv, _⟩ := HS.out.out
        have := (Array.getElem?_eq_some_iff.1 hv).1
        omega
      rw [← hqs] at X0'
      go_wp2_with fail
      obtain ⟨W1, hW1⟩ : ∃ W, W = wr.alloc (.cells #[.int .i64 s.tr, .int .i64 s.id, .int .i64 s.pa, .string s.sv, .string s.op, .int .i64 s.st, .int .i64 s.ln, .string s.sj, .slice B m d] 32) := ⟨_, rfl⟩
      rw [← hW1] at X0' HS1 HA1 ⊢
      rw [← hqs]
      clear hW1 hbx hAS y0 y1 y2 y3 y4 y5 y6 y7 y8 hqs HS
      refine (checkSpan_any HA1.out).mono ?_
      rintro r w5 ⟨rfl, hb5⟩
      have X5 := Lib.hid (X0'.below hb5)
      have HS5 := Lib.hid (HS1.out.below hb5)
      have HA5 := Lib.hid (HA1.out.below hb5)
      clear HS1 HA1 X0' hb5
      obtain ⟨x0, x1, x2, x3, x4, x5, x6, x7, x8⟩ := X5.out.cells
      by_cases hok : OkS s
      case neg =>
        rw [chkS_no hok]
        go_wp2_with fail
        go_ret2
        exact NO.out _ HS5.out.bel (fun h => hok (h.1.sp _ HMEM.out))
      rw [chkS_yes hok]
      go_wp2_with fail
      have hbi : Below w5.heap.size w5 (w5.alloc (.cells ((sN s).map (Value.int .i64)).toArray 3)) := (bel0 w5).alloc (Nat.le_refl _) _
      have HS6 := Lib.hid (HS5.out.below hbi)
      have HA6 := Lib.hid (HA5.out.below hbi)
      have X6 := Lib.hid (X5.out.below hbi)
      have hgi := heap_alloc_new w5 (.cells ((sN s).map (Value.int .i64)).toArray 3)
      have hq5 : w5.heap.size ≠ q := by
        obtain ⟨v, hv, _⟩ := HS5.out.out
        have := (Array.getElem?_eq_some_iff.1 hv).1
        omega
      clear HS5 HA5 X5 x0 x1 x2 x3 x4 x5 x6 x7 x8 hbi
      refine (rnumbers_any (l := sN s) HS6.out hgi hq5 (by simp [sN]) (by omega)).mono ?_
      rintro r w7 ⟨rfl, hr, hk7⟩
      rw [show (false || uE (sN s)) = false from sN_in hok] at hr
      have HS7 := Lib.hid hr
      have X7 := Lib.hid (show BSp w7 qs s (.slice B m d) from hk7.2 _ _ _ _ hqq (by decide) X6.out)
      obtain ⟨x0, x1, x2, x3, x4, x5, x6, x7, x8⟩ := X7.out.cells
      have hu5 := uN_len (sN s)
      have hu5' : (sN s).length = 5 := rfl
      clear hr hk7 HS6 X6 hgi hq5 HA6
      go_wp2_with fail
      have hbi : Below w7.heap.size w7 (w7.alloc (.cells ((sT s).map Value.string).toArray 9)) := (bel0 w7).alloc (Nat.le_refl _) _
      have HS8 := Lib.hid (HS7.out.below hbi)
      have X8 := Lib.hid (X7.out.below hbi)
      have hgi := heap_alloc_new w7 (.cells ((sT s).map Value.string).toArray 9)
      have hq7 : w7.heap.size ≠ q := by
        obtain ⟨v, hv, _⟩ := HS7.out.out
        have := (Array.getElem?_eq_some_iff.1 hv).1
        omega
      clear HS7 X7 x0 x1 x2 x3 x4 x5 x6 x7 x8 hbi
      refine (rtexts_any (l := sT s) HS8.out hgi hq7 (by simp [sT]) (by rw [List.length_append]; omega)).mono ?_
      rintro r w9 ⟨rfl, hr, hk9⟩
      rw [show (false || tE (sT s)) = false from sT_in hok] at hr
      have HS9 := Lib.hid hr
      have X9 := Lib.hid (show BSp w9 qs s (.slice B m d) from hk9.2 _ _ _ _ hqq (by decide) X8.out)
      obtain ⟨x0, x1, x2, x3, x4, x5, x6, x7, x8⟩ := X9.out.cells
      have ht3 := tN_len (sT s)
      have ht3' : (sT s).length = 3 := rfl
      have HA9 := Lib.hid (HA0.out.below HS9.out.bel)
      clear hr hk9 HS8 X8 hgi hq7
      go_wp2_with fail
      refine (attrs_any HA9.out).mono ?_
      intro r w10 hh
      have hap := atP_ok HPK.out
      have ha1 : (atP s.ats).1 = asB s.ats := by unfold atP; rw [if_pos hok.ats]
      have ha2 : (atP s.ats).2 = 0 := by unfold atP; rw [if_pos hok.ats]
      rw [ha1] at hap hh
      rw [ha2] at hh
      obtain ⟨A10, n10, c10, rfl, hB, hb10⟩ := hh.open hap.1 (by have := hap.2; omega)
      have HS10 := Lib.hid (HS9.out.below hb10)
      have HB10 := Lib.hid hB
      have hap2 := hap.2
      clear hh hB hb10 HS9 X9 x0 x1 x2 x3 x4 x5 x6 x7 x8 hap ha1 ha2 HA9 HA0
      go_wp2_with fail
      refine (rput_any HS10.out HB10.out (by simp only [List.length_append]; omega)).mono ?_
      rintro r w11 ⟨rfl, hr, hk11⟩
      rw [show (false || decide ((0 : Int) ≠ 0)) = false from rfl] at hr
      have HS11 := Lib.hid (show RS w w11 q (L1 ++ spB s) false by unfold spB; simpa only [List.append_assoc] using hr)
      clear hr hk11 HS10 HB10
      go_wp2_with fail
      exact ⟨⟨k + 1, by omega, by go_num, by rw [HSN.out]; exact HS11, Lib.hid (by
        intro t ht
        rw [HTK.out] at ht
        rcases List.mem_append.1 ht with ht | ht
        · exact HK.out t ht
        · simp only [List.mem_singleton] at ht
          rw [ht]
          exact hok)⟩, by simp [intOf]; omega⟩
    · obtain rfl : k = n := by omega
      have hkn : b.sp.take k = b.sp := List.take_of_length_le (by rw [HN.out]; exact Nat.le_refl _)
      rw [hkn] at HS HK
      have HBB := Lib.hid (show btB b = U0 ++ (b.sp.map spB).flatten by unfold btB; rw [HUE.out])
      have hsl := (sps_len (l := b.sp) (fun s hs => ⟨HK.out s hs, HPT.out s hs⟩))
      have hnn := HN.out
      have HOC := Lib.hid (show OkC b from ⟨⟨a1, a2⟩, ⟨s1, s2⟩, ⟨by omega, by omega⟩, HK.out⟩)
      rw [← HBB.out] at HS
      obtain ⟨hbel, ⟨v, h5, ho⟩, hlo⟩ := HS.out
      have d5 := cell_of h5 0
      have d6 := cell_of h5 1
      simp at d5 d6
      have HO := Lib.hid ho
      have HBE := Lib.hid hbel
      obtain ⟨A5, n5, c5, rfl, hn5⟩ : ∃ A4 n4 c4, v = .slice A4 n4 c4 ∧ n4 = (btB b).length := (by rcases ho.2 with ⟨h, h0⟩ | ⟨g', cap, cur, h, _⟩ <;> exact ⟨_, _, _, h, by first | rfl | (rw [h0])⟩)
      have HN5 := Lib.hid hn5
      have hn6 : n5 ≤ 10000000 := by
        have := HU.out
        have := HBB.out
        rw [hn5, this, List.length_append]
        omega
      clear h5 ho HS hbel hlo hn5 hsl hnn hkn
      by_cases h8 : n5 ≤ 8192
      · go_wp2_with fail
        go_ret2
        exact YES.out _ _ HO.out HBE.out ⟨HOC.out, by rw [← HN5.out]; exact h8⟩
      · go_wp2_with fail
        go_ret2
        exact NO.out _ HBE.out (fun h => h8 (by rw [HN5.out]; exact h.2))

set_option maxHeartbeats 8000000 in
set_option maxRecDepth 100000 in
theorem batCheck_any {A : Option Addr} {n c : Nat} {b : Bat} {w : World} (h : LS w A n c b.sp) :
    Calls Try.prog 7 #[.agg #[.int .i64 b.ag, .int .i64 b.sq, .slice A n c]] w fun e w' => e = .returned (.int .i64 (btP b).2) ∧ Below w.heap.size w w' := by
  have hb1 : Below w.heap.size w (w.alloc (.cells #[.int .i64 b.ag, .int .i64 b.sq, .slice A n c] 24)) := (bel0 w).alloc (Nat.le_refl _) _
  have HB := Lib.hid (batBytes_any (h.below hb1))
  clear h
  generalize btP b = X0 at *
  go_enter Try.func7, Try.ntmps7
  go_wp2_with fail
  refine HB.out.mono ?_
  rintro e w2 ⟨v, rfl, ho, hb2⟩
  have hb3 := nx hb1 hb2
  clear ho
  go_wp2_with fail
  go_ret
  exact ⟨rfl, hb3⟩
end Go.Proofs.Ytbhfbpaaghpadaa
/- The document's write, Check, Bytes of a batch: contracts. No conditions. -/
set_option linter.unusedSimpArgs false
set_option linter.unusedVariables false
namespace Go.Proofs.Ytbhfbpaaghpadaa
open Go.RowKit

theorem alloc_block {w : World} {o : Obj} {q : Nat} {x : Obj} (h : w.heap[q]? = some x) : (w.alloc o).heap[q]? = some x := (Below.heap_alloc w o q (Array.getElem?_eq_some_iff.1 h).1).trans h
theorem BS.grownR {w w' : World} {row : Option Nat} {A : Option Addr} {n c : Nat} {l : List Nat} (h : BS w A n c l) (hg : w.grownBy w' row) (hr : ∀ ad, A = some ad → row ≠ some ad.block) : BS w' A n c l := by
  refine ⟨h.len, h.le, h.nil, fun i hi => ?_, h.byt, h.lim⟩
  obtain ⟨ad, hA, hc⟩ := h.lies i hi
  refine ⟨ad, hA, ?_⟩
  have hbl : (ad.add i).block = ad.block := by
    unfold Addr.add
    split <;> rfl
  have hlt := World.block_lt_of_cell? w _ hc
  have hh := hg.block (ad.add i).block hlt (fun e => hr ad hA (by rw [← hbl]; exact e.symm))
  rw [← hc]
  unfold World.cell?
  rw [hh]
theorem TwoB.open3 {w w' : World} {e : Ending} {l : List Nat} {k : Int} (h : TwoB w w' e l k) (hb : Byt l) (hl : l.length ≤ 140737488354304) :
    ∃ A n c, e = .returned (.tuple #[.slice A n c, .int .i64 k]) ∧ BS w' A n c l ∧ (∀ ad, A = some ad → w.heap.size ≤ ad.block ∧ ad.block < w'.heap.size) ∧ Below w.heap.size w w' := by
  obtain ⟨v, rfl, ho, hbl⟩ := h
  obtain ⟨A, n, c, rfl, hB, h2⟩ := ownsRow_bs ho hb hl
  exact ⟨A, n, c, rfl, hB, h2, hbl⟩
theorem far {v : Value} {A : Option Addr} {y z : Nat} (h : ∀ k, v.ownBlock = some k → k < y ∨ z ≤ k) (h2 : ∀ ad, A = some ad → y ≤ ad.block ∧ ad.block < z) : ∀ ad, A = some ad → v.ownBlock ≠ some ad.block := by
  intro ad hA hv
  have h3 := h _ hv
  have h4 := h2 _ hA
  omega
theorem bel1 (w : World) (o : Obj) : Below w.heap.size w (w.alloc o) := (bel0 w).alloc (Nat.le_refl _) o
end Go.Proofs.Ytbhfbpaaghpadaa
/- The document's Check, Bytes of a batch: contracts. No conditions. -/
set_option linter.unusedSimpArgs false
set_option linter.unusedVariables false
namespace Go.Proofs.Ytbhfbpaaghpadaa
open Go.RowKit

end Go.Proofs.Ytbhfbpaaghpadaa
