/- The document's numbers, texts, bit of an answer: contracts. No conditions. -/
import Derived.Test.YtfedgjahbmcpoaaGreatGB40
import Derived.Test.YtfedgjahbmcpoaaGreatGB24
set_option linter.unusedSimpArgs false
set_option linter.unusedVariables false
namespace Go.Proofs.YtfedgjahbmcpoaaGreat
open Go.RowKit

set_option maxHeartbeats 8000000 in
set_option maxRecDepth 100000 in
theorem ru27_any {w : World} {g : Nat} {l : List Int} (hg : w.heap[g]? = some (.cells (l.map (Value.int .i64)).toArray 3 (0, 0))) (hm : l.length ≤ 100) :
    Calls Tryz.prog 43 #[.slice (some ⟨g, 0, none⟩) l.length l.length] w fun r w' => ∃ v, r = .returned v ∧ w'.ownsRow w.heap.size 5 1 v (uN l).length (bv (uN l)) ∧ Below w.heap.size w w' := by
  have HG := Lib.hid hg
  obtain ⟨n, hn⟩ : ∃ n, n = l.length := ⟨_, rfl⟩
  have HN := Lib.hid hn
  have hn2 : n ≤ 100 := by omega
  rw [← hn]
  clear hg hm hn
  have hb0 := bel0 w
  go_enter Tryz.func43, Tryz.ntmps43
  go_wp2_with fail
  go_loopw [3, 4] (fun v i wr => ∃ (vo : Value) (k : Nat), vo = v ∧ k ≤ n ∧ i = .int .i64 k ∧ Hid (wr.ownsRow w.heap.size 5 1 vo (uN (l.take k)).length (bv (uN (l.take k)))) ∧ Below w.heap.size w wr) (fun _ i _ => n - (intOf i).toNat)
  case atStart => exact ⟨_, 0, rfl, Nat.zero_le _, rfl, Lib.hid (World.ownsRow_nil _ _ _ _), hb0⟩
  case round =>
    clear hb0
    obtain ⟨vo, k, rfl, hk, rfl, HO, hb⟩ := hrel
    by_cases hlt : k < n
    · have hlt' : k < l.length := by rw [← HN.out]; exact hlt
      have hg2 := (hb.block _ (Array.getElem?_eq_some_iff.1 HG.out).1).trans HG.out
      have hc := cell_of hg2 k
      simp only [List.getElem?_toArray, List.getElem?_map, List.getElem?_eq_getElem hlt', Option.map_some] at hc
      have haa : (⟨g, 0, none⟩ : Addr).add k = ⟨g, k, none⟩ := by rw [addr_add, Nat.zero_add]
      have HT := Lib.hid (uN_take hlt').1
      have hlen : (uN (l.take k)).length ≤ 800 := by
        have h1 := uN_len (l.take k)
        have h2 := List.length_take_le k l
        omega
      have HU := Lib.hid (fun w => refU_all l[k] w)
      have HUO := Lib.hid (uP_ok l[k])
      generalize l[k] = y at *
      generalize uN (l.take k) = L1 at *
      clear hg2
      go_wp2_with fail
      refine (HU.out _).mono ?_
      intro r w2 hh
      obtain ⟨A2, n2, c2, rfl, hB, hb2⟩ := hh.open HUO.out.1 (by have := HUO.out.2; omega)
      have HO2 := Lib.hid (ownsRow_below HO.out hb2)
      have hb12 := nx hb hb2
      have HB := Lib.hid hB
      have hul := HUO.out.2
      clear hh hB hb2 HO hc hb
      go_wp2_with (at_builtin; refine append_bytes rfl (.tmp 21) (.tmp 22) rfl w.heap.size vo L1 (uP y).1 rfl HO2.out A2 n2 c2 rfl HB.out (by omega) hb12.size ?_; intro v3 w3 ho3 hg3 hv3; have hb3 := grown_below hb12 hg3 (own_block HO2.out); have HO3 := Lib.hid ho3; clear ho3 hg3 hv3)
      exact ⟨⟨_, k + 1, rfl, by omega, by go_num, by rw [HT.out]; exact HO3, hb3⟩, by simp [intOf]; omega⟩
    · obtain rfl : k = n := by omega
      have h := HO.out
      rw [show l.take k = l from List.take_of_length_le (by rw [HN.out]; exact Nat.le_refl _)] at h
      have HO2 := Lib.hid h
      clear h
      go_wp2_with fail
      go_ret
      exact ⟨_, rfl, HO2.out, hb⟩
set_option maxHeartbeats 8000000 in
set_option maxRecDepth 100000 in
theorem rt27_any {w : World} {g : Nat} {l : List ByteArray} (hg : w.heap[g]? = some (.cells (l.map (Value.string)).toArray 9 (0, 0))) (hm : l.length ≤ 100) :
    Calls Tryz.prog 45 #[.slice (some ⟨g, 0, none⟩) l.length l.length] w fun r w' => ∃ v, r = .returned v ∧ w'.ownsRow w.heap.size 5 1 v (tN l).length (bv (tN l)) ∧ Below w.heap.size w w' := by
  have HG := Lib.hid hg
  obtain ⟨n, hn⟩ : ∃ n, n = l.length := ⟨_, rfl⟩
  have HN := Lib.hid hn
  have hn2 : n ≤ 100 := by omega
  rw [← hn]
  clear hg hm hn
  have hb0 := bel0 w
  go_enter Tryz.func45, Tryz.ntmps45
  go_wp2_with fail
  go_loopw [3, 4] (fun v i wr => ∃ (vo : Value) (k : Nat), vo = v ∧ k ≤ n ∧ i = .int .i64 k ∧ Hid (wr.ownsRow w.heap.size 5 1 vo (tN (l.take k)).length (bv (tN (l.take k)))) ∧ Below w.heap.size w wr) (fun _ i _ => n - (intOf i).toNat)
  case atStart => exact ⟨_, 0, rfl, Nat.zero_le _, rfl, Lib.hid (World.ownsRow_nil _ _ _ _), hb0⟩
  case round =>
    clear hb0
    obtain ⟨vo, k, rfl, hk, rfl, HO, hb⟩ := hrel
    by_cases hlt : k < n
    · have hlt' : k < l.length := by rw [← HN.out]; exact hlt
      have hg2 := (hb.block _ (Array.getElem?_eq_some_iff.1 HG.out).1).trans HG.out
      have hc := cell_of hg2 k
      simp only [List.getElem?_toArray, List.getElem?_map, List.getElem?_eq_getElem hlt', Option.map_some] at hc
      have haa : (⟨g, 0, none⟩ : Addr).add k = ⟨g, k, none⟩ := by rw [addr_add, Nat.zero_add]
      have HT := Lib.hid (tN_take hlt').1
      have hlen : (tN (l.take k)).length ≤ 6554300 := by
        have h1 := tN_len (l.take k)
        have h2 := List.length_take_le k l
        omega
      have HU := Lib.hid (fun w => refText_all l[k] w)
      have HUO := Lib.hid (tP_ok l[k])
      generalize l[k] = y at *
      generalize tN (l.take k) = L1 at *
      clear hg2
      go_wp2_with fail
      refine (HU.out _).mono ?_
      intro r w2 hh
      obtain ⟨A2, n2, c2, rfl, hB, hb2⟩ := hh.open HUO.out.1 (by have := HUO.out.2; omega)
      have HO2 := Lib.hid (ownsRow_below HO.out hb2)
      have hb12 := nx hb hb2
      have HB := Lib.hid hB
      have hul := HUO.out.2
      clear hh hB hb2 HO hc hb
      go_wp2_with (at_builtin; refine append_bytes rfl (.tmp 21) (.tmp 22) rfl w.heap.size vo L1 (tP y).1 rfl HO2.out A2 n2 c2 rfl HB.out (by omega) hb12.size ?_; intro v3 w3 ho3 hg3 hv3; have hb3 := grown_below hb12 hg3 (own_block HO2.out); have HO3 := Lib.hid ho3; clear ho3 hg3 hv3)
      exact ⟨⟨_, k + 1, rfl, by omega, by go_num, by rw [HT.out]; exact HO3, hb3⟩, by simp [intOf]; omega⟩
    · obtain rfl : k = n := by omega
      have h := HO.out
      rw [show l.take k = l from List.take_of_length_le (by rw [HN.out]; exact Nat.le_refl _)] at h
      have HO2 := Lib.hid h
      clear h
      go_wp2_with fail
      go_ret
      exact ⟨_, rfl, HO2.out, hb⟩

theorem ru27_bs {w : World} {g : Nat} {l : List Int} (hg : w.heap[g]? = some (.cells (l.map (Value.int .i64)).toArray 3 (0, 0))) (hm : l.length ≤ 100) :
    Calls Tryz.prog 43 #[.slice (some ⟨g, 0, none⟩) l.length l.length] w fun r w' => ∃ A n c, r = .returned (.slice A n c) ∧ BS w' A n c (uN l) ∧ Below w.heap.size w w' :=
  (ru27_any hg hm).mono fun r w' ⟨v, e, ho, hb⟩ => by
    have h1 := uN_len l
    obtain ⟨A, n, c, rfl, hB, _⟩ := ownsRow_bs ho (uN_byt l) (by omega)
    exact ⟨A, n, c, e, hB, hb⟩
theorem rt27_bs {w : World} {g : Nat} {l : List ByteArray} (hg : w.heap[g]? = some (.cells (l.map (Value.string)).toArray 9 (0, 0))) (hm : l.length ≤ 100) :
    Calls Tryz.prog 45 #[.slice (some ⟨g, 0, none⟩) l.length l.length] w fun r w' => ∃ A n c, r = .returned (.slice A n c) ∧ BS w' A n c (tN l) ∧ Below w.heap.size w w' :=
  (rt27_any hg hm).mono fun r w' ⟨v, e, ho, hb⟩ => by
    have h1 := tN_len l
    obtain ⟨A, n, c, rfl, hB, _⟩ := ownsRow_bs ho (tN_byt l) (by omega)
    exact ⟨A, n, c, e, hB, hb⟩
set_option maxHeartbeats 4000000 in
theorem rbit27_any (b : Bool) (w : World) : Calls Tryz.prog 44 #[.bool b] w fun e w' => e = .returned (.int .i64 (bitN b)) ∧ w' = w := by
  cases b with
  | true =>
    go_enter Tryz.func44, Tryz.ntmps44
    go_wp2
    go_ret
    exact ⟨rfl, rfl⟩
  | false =>
    go_enter Tryz.func44, Tryz.ntmps44
    go_wp2
    go_ret
    exact ⟨rfl, rfl⟩
/-- Where the document's writing stands: the bytes so far, the answer's box. -/
structure Wb (w0 W : World) (vo : Value) (L : List Nat) (ca : Array Value) : Prop where
  bel : Below w0.heap.size w0 W
  own : W.ownsRow w0.heap.size 5 1 vo L.length (bv L)
  b1 : W.heap[w0.heap.size]? = some (.cells ca 29 (0, 0))
theorem Wb.below {w0 W W' : World} {vo : Value} {L : List Nat} {ca : Array Value} (h : Wb w0 W vo L ca) (hb : Below W.heap.size W W') : Wb w0 W' vo L ca := ⟨nx h.bel hb, ownsRow_below h.own hb, blkB h.b1 hb⟩
/-- A block that is none of bytes stays through an append. -/
theorem blkG {w0 W W' : World} {vo : Value} {L : List Nat} (ho : W.ownsRow w0.heap.size 5 1 vo L.length (bv L)) (hg : W.grownBy W' vo.ownBlock) {q : Nat} {c : Array Value} {t : TypeId} {mk : Nat × Nat} (hq : W.heap[q]? = some (.cells c t mk)) (ht : t ≠ 5) : W'.heap[q]? = some (.cells c t mk) :=
  (hg.block q (Array.getElem?_eq_some_iff.1 hq).1 (fun e => own_ne2 ho hq ht e.symm)).trans hq
theorem Wb.app {w0 W W' : World} {vo v' : Value} {L m : List Nat} {ca : Array Value} (h : Wb w0 W vo L ca) (ho : W'.ownsRow w0.heap.size 5 1 v' (L ++ m).length (bv (L ++ m))) (hg : W.grownBy W' vo.ownBlock) : Wb w0 W' v' (L ++ m) ca :=
  ⟨grown_below h.bel hg (own_block h.own), ho, blkG h.own hg h.b1 (by decide)⟩
end Go.Proofs.YtfedgjahbmcpoaaGreat
