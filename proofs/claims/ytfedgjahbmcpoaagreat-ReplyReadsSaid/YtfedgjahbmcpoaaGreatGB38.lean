/- reply's writer: lists, and Bytes. No conditions. -/
import Derived.Test.YtfedgjahbmcpoaaGreatGB37
set_option linter.unusedSimpArgs false
set_option linter.unusedVariables false
namespace Go.Proofs.YtfedgjahbmcpoaaGreat
open Go.RowKit

set_option maxHeartbeats 16000000 in
set_option maxRecDepth 100000 in
theorem wlistSn_any {w0 w : World} {q : Nat} {L : List Nat} {A : Option Addr} {n c : Nat} {l : List Sen} (h : WS w0 w q L false) (hE : EL snR w0 A n c l) (hok : ∀ x ∈ l, OkSn x) (hp : PtS l) (hm : l.length ≤ 10000) (hL : L.length ≤ 20000000000) :
    Calls Tryz.prog 37 #[.pointer (some ⟨q, 0, none⟩), .slice A n c, .func (.func 38) #[.pointer (some ⟨q, 0, none⟩)] #[]] w fun r w' => WrR w0 w w' r q (L ++ lsB snB l) := by
  have HFL := Lib.hid (fun k => (flat_len (f := snB) (m := 140000) (l.take k) (fun y hy => snB_len (hok y (List.mem_of_mem_take hy)).sp (hp y (List.mem_of_mem_take hy)))).1)
  have HN := Lib.hid hE.len
  have HE := Lib.hid hE
  have HOK := Lib.hid hok
  have hn : n ≤ 10000 := by rw [hE.len]; exact hm
  have HUL := Lib.hid (uN_len [(n : Int)])
  have HS0 := Lib.hid h
  have hqw := h.qlt
  clear h hE hok hp
  go_enter Tryz.func37, Tryz.ntmps37
  go_wp2_with fail
  refine (wnumbers_any (w := w.alloc (.cells #[.int .i64 (n : Int)] 3)) (g := w.heap.size) (l := [(n : Int)]) (HS0.out.below (bel1 _ _)) (ints_block w [(n : Int)]) (by omega) (by simp) (by omega)).mono ?_
  rintro r w2 ⟨rfl, hs, hk⟩
  rw [uE_in (by intro z hz; simp only [List.mem_cons, List.not_mem_nil, or_false] at hz; subst hz; omega), Bool.or_false] at hs
  have HS2 := Lib.hid (show WS w0 w2 q (L ++ uN [(n : Int)] ++ ((l.take 0).map snB).flatten) false by simpa using hs)
  have HK2 := Lib.hid ((keep_new (w := w) (q := q) _).trans hk)
  clear hs hk HS0 hqw
  go_wp2_with fail
  go_loopw [15] (fun i wr => ∃ k : Nat, k ≤ n ∧ i = .int .i64 k ∧ Hid (WS w0 wr q (L ++ uN [(n : Int)] ++ ((l.take k).map snB).flatten) false) ∧ Hid (KeepQ w wr q)) (fun i _ => n - (intOf i).toNat)
  case atStart => exact ⟨0, Nat.zero_le _, rfl, HS2, HK2⟩
  case round =>
    clear HS2 HK2
    obtain ⟨k, hk, rfl, HS, HK⟩ := hrel
    by_cases hlt : k < n
    · have hl1 : k < l.length := by rw [← HN.out]; exact hlt
      obtain ⟨g, o, csx, hA, hc0, hrdx⟩ := HE.out.at' k hl1
      have hcx : ∀ j v, csx[j]? = some v → wr.cell? ⟨g, o + k * 11 + j, none⟩ = some v := fun j v hj => (HS.out.bel.cell (p := ⟨g, o + k * 11 + j, none⟩) (World.block_lt_of_cell? _ _ (hc0 j v hj))).trans (hc0 j v hj)
      clear hc0
      obtain ⟨Bx, mx, dx, rfl, hSx⟩ := hrdx
      have HOX := Lib.hid (HOK.out _ (List.getElem_mem hl1))
      have HSN := Lib.hid (flat_snoc snB hl1)
      have hlen : (L ++ uN [(n : Int)] ++ ((l.take k).map snB).flatten).length ≤ 30000000000 := by
        have h1 := HFL.out k
        have h2 := HUL.out
        have h3 : (l.take k).length ≤ 10000 := Nat.le_trans (List.length_take_le _ _) (by omega)
        have h4 : 140000 * (l.take k).length ≤ 140000 * 10000 := Nat.mul_le_mul_left _ h3
        simp only [List.length_append, List.length_cons, List.length_nil] at *
        omega
      have haa : (⟨g, o, none⟩ : Addr).add (k * 11) = ⟨g, o + k * 11, none⟩ := addr_add _ _ _
      have hk0 : (0 : Int) ≤ (k : Int) := by omega
      have hk1 : (k : Int) < (n : Int) := by omega
      have e0 : wr.cell? ⟨g, o + k * 11, none⟩ = some (.int .i64 l[k].sp.tr) := hcx 0 _ rfl
      have e1 : wr.cell? ⟨g, o + k * 11 + 1, none⟩ = some (.int .i64 l[k].sp.id) := hcx 1 _ rfl
      have e2 : wr.cell? ⟨g, o + k * 11 + 2, none⟩ = some (.int .i64 l[k].sp.pa) := hcx 2 _ rfl
      have e3 : wr.cell? ⟨g, o + k * 11 + 3, none⟩ = some (.string l[k].sp.sv) := hcx 3 _ rfl
      have e4 : wr.cell? ⟨g, o + k * 11 + 4, none⟩ = some (.string l[k].sp.op) := hcx 4 _ rfl
      have e5 : wr.cell? ⟨g, o + k * 11 + 5, none⟩ = some (.int .i64 l[k].sp.st) := hcx 5 _ rfl
      have e6 : wr.cell? ⟨g, o + k * 11 + 6, none⟩ = some (.int .i64 l[k].sp.ln) := hcx 6 _ rfl
      have e7 : wr.cell? ⟨g, o + k * 11 + 7, none⟩ = some (.string l[k].sp.sj) := hcx 7 _ rfl
      have e8 : wr.cell? ⟨g, o + k * 11 + 8, none⟩ = some (.slice Bx mx dx) := hcx 8 _ rfl
      have e9 : wr.cell? ⟨g, o + k * 11 + 9, none⟩ = some (.int .i64 l[k].dp) := hcx 9 _ rfl
      have e10 : wr.cell? ⟨g, o + k * 11 + 10, none⟩ = some (.bool l[k].lo) := hcx 10 _ rfl
      clear hcx
      subst hA
      have HSx := Lib.hid hSx
      have HLEN := Lib.hid hlen
      clear hlen hSx
      generalize l[k] = x at *
      obtain ⟨L1, hL1⟩ : ∃ X, X = L ++ uN [(n : Int)] ++ ((l.take k).map snB).flatten := ⟨_, rfl⟩
      have HL1 := Lib.hid hL1
      rw [← hL1] at HS HLEN
      clear hL1
      go_wp2_with fail
      refine (wseen_any (s := x) (HS.out.below (bel1 _ _)) (HSx.out.below (nx HS.out.bel (bel1 _ _))) HSx.out HOX.out HLEN.out).mono ?_
      rintro r w4 ⟨rfl, hs, hk⟩
      have HS4 := Lib.hid (show WS w0 w4 q (L ++ uN [(n : Int)] ++ ((l.take (k + 1)).map snB).flatten) false by
        rw [HSN.out, ← List.append_assoc, ← HL1.out]
        exact hs)
      have HK4 := Lib.hid (HK.out.trans ((keep_new _).trans hk))
      clear hs hk HS HK
      go_wp2_with fail
      exact ⟨⟨k + 1, by omega, by go_num, HS4, HK4⟩, by simp [intOf]; omega⟩
    · obtain rfl : n = k := by omega
      have HS5 := Lib.hid (show WS w0 wr q (L ++ lsB snB l) false by
        have := HS.out
        rw [List.take_of_length_le (by rw [HN.out]; exact Nat.le_refl _)] at this
        unfold lsB
        rw [← List.append_assoc, ← HN.out]
        exact this)
      clear HS
      go_wp2_with fail
      go_end0
      exact ⟨rfl, HS5.out, HK.out⟩
set_option maxHeartbeats 16000000 in
set_option maxRecDepth 100000 in
theorem wlistCe_any {w0 w : World} {q : Nat} {L : List Nat} {A : Option Addr} {n c : Nat} {l : List Cel} (h : WS w0 w q L false) (hE : EL ceR w0 A n c l) (hok : ∀ x ∈ l, OkCe x) (hm : l.length ≤ 10000) (hL : L.length ≤ 20000000000) :
    Calls Tryz.prog 39 #[.pointer (some ⟨q, 0, none⟩), .slice A n c, .func (.func 40) #[.pointer (some ⟨q, 0, none⟩)] #[]] w fun r w' => WrR w0 w w' r q (L ++ lsB ceB l) := by
  have HFL := Lib.hid (fun k => (flat_len (f := ceB) (m := 140000) (l.take k) (fun y _ => ⟨Nat.le_trans (ceB_len y).1 (by decide), (ceB_len y).2⟩)).1)
  have HN := Lib.hid hE.len
  have HE := Lib.hid hE
  have HOK := Lib.hid hok
  have hn : n ≤ 10000 := by rw [hE.len]; exact hm
  have HUL := Lib.hid (uN_len [(n : Int)])
  have HS0 := Lib.hid h
  have hqw := h.qlt
  clear h hE hok
  go_enter Tryz.func39, Tryz.ntmps39
  go_wp2_with fail
  refine (wnumbers_any (w := w.alloc (.cells #[.int .i64 (n : Int)] 3)) (g := w.heap.size) (l := [(n : Int)]) (HS0.out.below (bel1 _ _)) (ints_block w [(n : Int)]) (by omega) (by simp) (by omega)).mono ?_
  rintro r w2 ⟨rfl, hs, hk⟩
  rw [uE_in (by intro z hz; simp only [List.mem_cons, List.not_mem_nil, or_false] at hz; subst hz; omega), Bool.or_false] at hs
  have HS2 := Lib.hid (show WS w0 w2 q (L ++ uN [(n : Int)] ++ ((l.take 0).map ceB).flatten) false by simpa using hs)
  have HK2 := Lib.hid ((keep_new (w := w) (q := q) _).trans hk)
  clear hs hk HS0 hqw
  go_wp2_with fail
  go_loopw [15] (fun i wr => ∃ k : Nat, k ≤ n ∧ i = .int .i64 k ∧ Hid (WS w0 wr q (L ++ uN [(n : Int)] ++ ((l.take k).map ceB).flatten) false) ∧ Hid (KeepQ w wr q)) (fun i _ => n - (intOf i).toNat)
  case atStart => exact ⟨0, Nat.zero_le _, rfl, HS2, HK2⟩
  case round =>
    clear HS2 HK2
    obtain ⟨k, hk, rfl, HS, HK⟩ := hrel
    by_cases hlt : k < n
    · have hl1 : k < l.length := by rw [← HN.out]; exact hlt
      obtain ⟨g, o, csx, hA, hc0, hrdx⟩ := HE.out.at' k hl1
      have hcx : ∀ j v, csx[j]? = some v → wr.cell? ⟨g, o + k * 2 + j, none⟩ = some v := fun j v hj => (HS.out.bel.cell (p := ⟨g, o + k * 2 + j, none⟩) (World.block_lt_of_cell? _ _ (hc0 j v hj))).trans (hc0 j v hj)
      clear hc0
      obtain rfl := hrdx
      have HOX := Lib.hid (HOK.out _ (List.getElem_mem hl1))
      have HSN := Lib.hid (flat_snoc ceB hl1)
      have hlen : (L ++ uN [(n : Int)] ++ ((l.take k).map ceB).flatten).length ≤ 30000000000 := by
        have h1 := HFL.out k
        have h2 := HUL.out
        have h3 : (l.take k).length ≤ 10000 := Nat.le_trans (List.length_take_le _ _) (by omega)
        have h4 : 140000 * (l.take k).length ≤ 140000 * 10000 := Nat.mul_le_mul_left _ h3
        simp only [List.length_append, List.length_cons, List.length_nil] at *
        omega
      have haa : (⟨g, o, none⟩ : Addr).add (k * 2) = ⟨g, o + k * 2, none⟩ := addr_add _ _ _
      have hk0 : (0 : Int) ≤ (k : Int) := by omega
      have hk1 : (k : Int) < (n : Int) := by omega
      have e0 : wr.cell? ⟨g, o + k * 2, none⟩ = some (.int .i64 l[k].at') := hcx 0 _ rfl
      have e1 : wr.cell? ⟨g, o + k * 2 + 1, none⟩ = some (.int .i64 l[k].ct) := hcx 1 _ rfl
      clear hcx
      subst hA
      skip
      have HLEN := Lib.hid hlen
      clear hlen
      generalize l[k] = x at *
      obtain ⟨L1, hL1⟩ : ∃ X, X = L ++ uN [(n : Int)] ++ ((l.take k).map ceB).flatten := ⟨_, rfl⟩
      have HL1 := Lib.hid hL1
      rw [← hL1] at HS HLEN
      clear hL1
      go_wp2_with fail
      refine (wcell_any (c := x) (HS.out.below (bel1 _ _)) HOX.out HLEN.out).mono ?_
      rintro r w4 ⟨rfl, hs, hk⟩
      have HS4 := Lib.hid (show WS w0 w4 q (L ++ uN [(n : Int)] ++ ((l.take (k + 1)).map ceB).flatten) false by
        rw [HSN.out, ← List.append_assoc, ← HL1.out]
        exact hs)
      have HK4 := Lib.hid (HK.out.trans ((keep_new _).trans hk))
      clear hs hk HS HK
      go_wp2_with fail
      exact ⟨⟨k + 1, by omega, by go_num, HS4, HK4⟩, by simp [intOf]; omega⟩
    · obtain rfl : n = k := by omega
      have HS5 := Lib.hid (show WS w0 wr q (L ++ lsB ceB l) false by
        have := HS.out
        rw [List.take_of_length_le (by rw [HN.out]; exact Nat.le_refl _)] at this
        unfold lsB
        rw [← List.append_assoc, ← HN.out]
        exact this)
      clear HS
      go_wp2_with fail
      go_end0
      exact ⟨rfl, HS5.out, HK.out⟩
set_option maxHeartbeats 16000000 in
set_option maxRecDepth 100000 in
theorem wlistEd_any {w0 w : World} {q : Nat} {L : List Nat} {A : Option Addr} {n c : Nat} {l : List Edg} (h : WS w0 w q L false) (hE : EL edR w0 A n c l) (hok : ∀ x ∈ l, OkEd x) (hm : l.length ≤ 10000) (hL : L.length ≤ 20000000000) :
    Calls Tryz.prog 41 #[.pointer (some ⟨q, 0, none⟩), .slice A n c, .func (.func 42) #[.pointer (some ⟨q, 0, none⟩)] #[]] w fun r w' => WrR w0 w w' r q (L ++ lsB edB l) := by
  have HFL := Lib.hid (fun k => (flat_len (f := edB) (m := 140000) (l.take k) (fun y _ => edB_len y)).1)
  have HN := Lib.hid hE.len
  have HE := Lib.hid hE
  have HOK := Lib.hid hok
  have hn : n ≤ 10000 := by rw [hE.len]; exact hm
  have HUL := Lib.hid (uN_len [(n : Int)])
  have HS0 := Lib.hid h
  have hqw := h.qlt
  clear h hE hok
  go_enter Tryz.func41, Tryz.ntmps41
  go_wp2_with fail
  refine (wnumbers_any (w := w.alloc (.cells #[.int .i64 (n : Int)] 3)) (g := w.heap.size) (l := [(n : Int)]) (HS0.out.below (bel1 _ _)) (ints_block w [(n : Int)]) (by omega) (by simp) (by omega)).mono ?_
  rintro r w2 ⟨rfl, hs, hk⟩
  rw [uE_in (by intro z hz; simp only [List.mem_cons, List.not_mem_nil, or_false] at hz; subst hz; omega), Bool.or_false] at hs
  have HS2 := Lib.hid (show WS w0 w2 q (L ++ uN [(n : Int)] ++ ((l.take 0).map edB).flatten) false by simpa using hs)
  have HK2 := Lib.hid ((keep_new (w := w) (q := q) _).trans hk)
  clear hs hk HS0 hqw
  go_wp2_with fail
  go_loopw [15] (fun i wr => ∃ k : Nat, k ≤ n ∧ i = .int .i64 k ∧ Hid (WS w0 wr q (L ++ uN [(n : Int)] ++ ((l.take k).map edB).flatten) false) ∧ Hid (KeepQ w wr q)) (fun i _ => n - (intOf i).toNat)
  case atStart => exact ⟨0, Nat.zero_le _, rfl, HS2, HK2⟩
  case round =>
    clear HS2 HK2
    obtain ⟨k, hk, rfl, HS, HK⟩ := hrel
    by_cases hlt : k < n
    · have hl1 : k < l.length := by rw [← HN.out]; exact hlt
      obtain ⟨g, o, csx, hA, hc0, hrdx⟩ := HE.out.at' k hl1
      have hcx : ∀ j v, csx[j]? = some v → wr.cell? ⟨g, o + k * 3 + j, none⟩ = some v := fun j v hj => (HS.out.bel.cell (p := ⟨g, o + k * 3 + j, none⟩) (World.block_lt_of_cell? _ _ (hc0 j v hj))).trans (hc0 j v hj)
      clear hc0
      obtain rfl := hrdx
      have HOX := Lib.hid (HOK.out _ (List.getElem_mem hl1))
      have HSN := Lib.hid (flat_snoc edB hl1)
      have hlen : (L ++ uN [(n : Int)] ++ ((l.take k).map edB).flatten).length ≤ 30000000000 := by
        have h1 := HFL.out k
        have h2 := HUL.out
        have h3 : (l.take k).length ≤ 10000 := Nat.le_trans (List.length_take_le _ _) (by omega)
        have h4 : 140000 * (l.take k).length ≤ 140000 * 10000 := Nat.mul_le_mul_left _ h3
        simp only [List.length_append, List.length_cons, List.length_nil] at *
        omega
      have haa : (⟨g, o, none⟩ : Addr).add (k * 3) = ⟨g, o + k * 3, none⟩ := addr_add _ _ _
      have hk0 : (0 : Int) ≤ (k : Int) := by omega
      have hk1 : (k : Int) < (n : Int) := by omega
      have e0 : wr.cell? ⟨g, o + k * 3, none⟩ = some (.string l[k].fr) := hcx 0 _ rfl
      have e1 : wr.cell? ⟨g, o + k * 3 + 1, none⟩ = some (.string l[k].to') := hcx 1 _ rfl
      have e2 : wr.cell? ⟨g, o + k * 3 + 2, none⟩ = some (.int .i64 l[k].ct) := hcx 2 _ rfl
      clear hcx
      subst hA
      skip
      have HLEN := Lib.hid hlen
      clear hlen
      generalize l[k] = x at *
      obtain ⟨L1, hL1⟩ : ∃ X, X = L ++ uN [(n : Int)] ++ ((l.take k).map edB).flatten := ⟨_, rfl⟩
      have HL1 := Lib.hid hL1
      rw [← hL1] at HS HLEN
      clear hL1
      go_wp2_with fail
      refine (wedge_any (x := x) (HS.out.below (bel1 _ _)) HOX.out HLEN.out).mono ?_
      rintro r w4 ⟨rfl, hs, hk⟩
      have HS4 := Lib.hid (show WS w0 w4 q (L ++ uN [(n : Int)] ++ ((l.take (k + 1)).map edB).flatten) false by
        rw [HSN.out, ← List.append_assoc, ← HL1.out]
        exact hs)
      have HK4 := Lib.hid (HK.out.trans ((keep_new _).trans hk))
      clear hs hk HS HK
      go_wp2_with fail
      exact ⟨⟨k + 1, by omega, by go_num, HS4, HK4⟩, by simp [intOf]; omega⟩
    · obtain rfl : n = k := by omega
      have HS5 := Lib.hid (show WS w0 wr q (L ++ lsB edB l) false by
        have := HS.out
        rw [List.take_of_length_le (by rw [HN.out]; exact Nat.le_refl _)] at this
        unfold lsB
        rw [← List.append_assoc, ← HN.out]
        exact this)
      clear HS
      go_wp2_with fail
      go_end0
      exact ⟨rfl, HS5.out, HK.out⟩
theorem ws_start {w0 w : World} (hb : Below w0.heap.size w0 w) : WS w0 (w.alloc (.cells #[.slice none 0 0, .bool false] 70)) w.heap.size [] false :=
  ⟨nx hb (bel1 _ _), ⟨_, heap_alloc_new w _, World.ownsRow_nil _ _ _ _⟩, hb.size⟩
set_option maxHeartbeats 16000000 in
set_option maxRecDepth 100000 in
theorem rBytes_any {a : Ans} {u v x : Value} {w : World} (h : AnL w a u v x) (hp : PtS a.sn) :
    Calls Tryz.prog 13 #[anV a u v x] w fun e w' => TwoB w w' e (anP a).1 (anP a).2 := by
  have C := Lib.hid (fun (w' : World) (hb : Below w.heap.size w w') => rCheck_any (h.below hb))
  obtain ⟨⟨A, c, rfl, h1⟩, ⟨B, d, rfl, h2⟩, ⟨D, e, rfl, h3⟩⟩ := h
  have H1 := Lib.hid h1
  have H2 := Lib.hid h2
  have H3 := Lib.hid h3
  have HP := Lib.hid hp
  have NO := Lib.hid (fun (h : ¬ OkAn a) => anP_no h)
  have YES := Lib.hid (fun (h : OkAn a) => anP_yes h)
  by_cases hok : OkAn a
  case neg =>
    have HN := Lib.hid (NO.out hok)
    rw [HN.out] at C ⊢
    clear h1 h2 h3 hp H1 H2 H3 NO YES hok HN
    obtain ⟨er, sn, nxx, ce, ed, lf⟩ := a
    unfold anV at C ⊢
    simp only at *
    generalize sn.length = n at *
    generalize ce.length = m at *
    generalize ed.length = p at *
    go_enter Tryz.func13, Tryz.ntmps13
    go_wp2_with fail
    refine (C.out _ (bel1 _ _)).mono ?_
    rintro r w2 ⟨rfl, hb⟩
    have HB := Lib.hid (nx (bel1 _ _) hb)
    clear hb C
    go_wp2_with fail
    go_ret2
    exact ⟨_, rfl, World.ownsRow_nil _ _ _ _, HB.out⟩
  have HY := Lib.hid (YES.out hok)
  have s1 := hok.sn.2
  have s2 := hok.ce.2
  have s3 := hok.ed.2
  have z1 := hok.er
  have z2 := hok.nx
  have z3 := hok.lf
  rw [HY.out] at C ⊢
  have HL0 := Lib.hid (uN_len [a.er, a.nx, a.lf])
  have HF1 := Lib.hid (flat_len (f := snB) (m := 140000) a.sn (fun x hx => snB_len (hok.sn.1.1 x hx).sp (hp x hx)))
  have HF2 := Lib.hid (flat_len (f := ceB) (m := 16) a.ce (fun x _ => ceB_len x))
  have HU1 := Lib.hid (uN_len [(a.sn.length : Int)])
  have HU2 := Lib.hid (uN_len [(a.ce.length : Int)])
  have HO1 := Lib.hid hok.sn.1.1
  have HO2 := Lib.hid hok.ce.1.1
  have HO3 := Lib.hid hok.ed.1.1
  clear h1 h2 h3 hp NO YES hok HY
  obtain ⟨er, sn, nxx, ce, ed, lf⟩ := a
  unfold anV at C ⊢
  unfold anB
  simp only at *
  have HM1 := Lib.hid s1
  have HM2 := Lib.hid s2
  have HM3 := Lib.hid s3
  obtain ⟨n, hn⟩ : ∃ n, n = sn.length := ⟨_, rfl⟩
  obtain ⟨m, hm⟩ : ∃ n, n = ce.length := ⟨_, rfl⟩
  obtain ⟨p, hpp⟩ : ∃ n, n = ed.length := ⟨_, rfl⟩
  have HNn := Lib.hid hn
  have HNm := Lib.hid hm
  have HNp := Lib.hid hpp
  replace H1 := Lib.hid (show EL snR w A n c sn by rw [hn]; exact H1.out)
  replace H2 := Lib.hid (show EL ceR w B m d ce by rw [hm]; exact H2.out)
  replace H3 := Lib.hid (show EL edR w D p e ed by rw [hpp]; exact H3.out)
  rw [← hn, ← hm, ← hpp] at C ⊢
  have hbx := bel1 w (.cells #[.int .i64 er, .slice A n c, .int .i64 nxx, .slice B m d, .slice D p e, .int .i64 lf] 29)
  have HQ0 := Lib.hid (heap_alloc_new w (.cells #[.int .i64 er, .slice A n c, .int .i64 nxx, .slice B m d, .slice D p e, .int .i64 lf] 29))
  clear hn hm hpp s1 s2 s3
  go_enter Tryz.func13, Tryz.ntmps13
  go_wp2_with fail
  refine (C.out _ hbx).mono ?_
  rintro r w2 ⟨rfl, hb⟩
  have HQ2 := Lib.hid (blkB HQ0.out hb)
  have HB2 := Lib.hid (nx hbx hb)
  clear hb C HQ0 hbx
  obtain ⟨d0, d1, d2, d3, d4, d5⟩ := an_block HQ2.out
  have hq2 := (Array.getElem?_eq_some_iff.1 HQ2.out).1
  have HS3 := Lib.hid (ws_start HB2.out)
  have HQ3 := Lib.hid (blkB HQ2.out (bel1 w2 (.cells #[.slice none 0 0, .bool false] 70)))
  go_wp2_with fail
  obtain ⟨W3, hW⟩ : ∃ W, W = w2.alloc (.cells #[.slice none 0 0, .bool false] 70) := ⟨_, rfl⟩
  have hz : W3.heap.size = w2.heap.size + 1 := by rw [hW]; exact World.size_alloc ..
  rw [← hW] at HS3 HQ3 ⊢
  obtain ⟨q, hqq⟩ : ∃ q, q = w2.heap.size := ⟨_, rfl⟩
  rw [← hqq] at HS3 hz hq2 ⊢
  have HZ := Lib.hid hz
  have HNE := Lib.hid (show w.heap.size ≠ q by omega)
  clear hW hqq hz d0 d1 d2 d3 d4 d5 HQ2 HB2 hq2
  refine (wnumbers_any (w := W3.alloc (.cells #[.int .i64 er, .int .i64 nxx, .int .i64 lf] 3)) (g := q + 1) (l := [er, nxx, lf]) (HS3.out.below (bel1 _ _)) (by have := ints_block W3 [er, nxx, lf]; rw [HZ.out] at this; exact this) (by omega) (by simp) (by simp)).mono ?_
  rintro r w4 ⟨rfl, hs, hk⟩
  rw [uE_in (by intro z hz; simp only [List.mem_cons, List.not_mem_nil, or_false] at hz; rcases hz with rfl | rfl | rfl <;> omega), Bool.or_false, List.nil_append] at hs
  have HS4 := Lib.hid hs
  have HQ4 := Lib.hid (hk.2 _ _ _ _ HNE.out (by decide) (blkB HQ3.out (bel1 _ _)))
  clear hs hk HS3 HQ3 HZ
  obtain ⟨d0, d1, d2, d3, d4, d5⟩ := an_block HQ4.out
  go_wp2_with fail
  refine (wlistSn_any HS4.out (H1.out) HO1.out HP.out (by have := HM1.out; omega) (by have := HL0.out; simp only [List.length_cons, List.length_nil] at this; omega)).mono ?_
  rintro r w5 ⟨rfl, hs, hk⟩
  have HS5 := Lib.hid hs
  have HQ5 := Lib.hid (hk.2 _ _ _ _ HNE.out (by decide) HQ4.out)
  clear hs hk HS4 HQ4 d0 d1 d2 d3 d4 d5
  obtain ⟨d0, d1, d2, d3, d4, d5⟩ := an_block HQ5.out
  go_wp2_with fail
  refine (wlistCe_any HS5.out (H2.out) HO2.out (by have := HM2.out; omega) (by have h0 := HL0.out; have h1 := HF1.out.1; have h2 := HU1.out; have h3 : 140000 * sn.length ≤ 140000 * 1000 := Nat.mul_le_mul_left _ HM1.out; unfold lsB; simp only [List.length_append, List.length_cons, List.length_nil] at *; omega)).mono ?_
  rintro r w6 ⟨rfl, hs, hk⟩
  have HS6 := Lib.hid hs
  have HQ6 := Lib.hid (hk.2 _ _ _ _ HNE.out (by decide) HQ5.out)
  clear hs hk HS5 HQ5 d0 d1 d2 d3 d4 d5
  obtain ⟨d0, d1, d2, d3, d4, d5⟩ := an_block HQ6.out
  go_wp2_with fail
  refine (wlistEd_any HS6.out (H3.out) HO3.out (by have := HM3.out; omega) (by have h0 := HL0.out; have h1 := HF1.out.1; have h2 := HU1.out; have h3 : 140000 * sn.length ≤ 140000 * 1000 := Nat.mul_le_mul_left _ HM1.out; have h4 := HF2.out.1; have h5 := HU2.out; have h6 := HM2.out; unfold lsB; simp only [List.length_append, List.length_cons, List.length_nil] at *; omega)).mono ?_
  rintro r w7 ⟨rfl, hs, hk⟩
  have HS7 := Lib.hid hs
  have HQ7 := Lib.hid (hk.2 _ _ _ _ HNE.out (by decide) HQ6.out)
  clear hs hk HS6 HQ6 d0 d1 d2 d3 d4 d5
  obtain ⟨vb, hvb, hov⟩ := HS7.out.out
  obtain ⟨Av, nv, cv, rfl, _⟩ : ∃ A4 n4 c4, vb = .slice A4 n4 c4 ∧ True := (by rcases hov.2 with ⟨h, _⟩ | ⟨g', cap, cur, h, _⟩ <;> exact ⟨_, _, _, h, trivial⟩)
  have g0 := cell_of hvb 0
  have g1 := cell_of hvb 1
  simp at g0 g1
  have HOV := Lib.hid hov
  have HBV := Lib.hid HS7.out.bel
  clear hov hvb HS7 HQ7
  go_wp2_with fail
  go_ret2
  exact ⟨_, rfl, HOV.out, HBV.out⟩
end Go.Proofs.YtfedgjahbmcpoaaGreat
