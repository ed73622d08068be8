/- The document's Page of a list of numbers: its contract. No conditions. -/
import Derived.Test.YthikhoamodcggaaPoS
set_option linter.unusedSimpArgs false
set_option linter.unusedVariables false
namespace Go.Proofs.Ythikhoamodcggaa
open Go.RowKit

theorem cnt_lt {l : List Int} (h : Inc l) (x : Int) {i : Nat} (hi : i < l.length) (hc : i < l.countP (· < x)) : l[i] < x := by
  have h1 : l[i] ∈ l.take (l.countP (· < x)) := List.mem_take_iff_getElem.2 ⟨i, by omega, rfl⟩
  rw [(countP_take h x).1] at h1
  simpa using (List.mem_filter.1 h1).2
theorem cnt_ge {l : List Int} (h : Inc l) (x : Int) {i : Nat} (hi : i < l.length) (hc : l.countP (· < x) ≤ i) : ¬ l[i] < x := by
  have h1 : l[i] ∈ l.drop (l.countP (· < x)) := by
    rw [List.mem_drop_iff_getElem]
    exact ⟨i - l.countP (· < x), by omega, by congr 1; omega⟩
  rw [(countP_take h x).2] at h1
  simpa using (List.mem_filter.1 h1).2
theorem take_dropI {l : List Int} {c i : Nat} (hc : c ≤ i) (hi : i < l.length) : (l.drop c).take (i + 1 - c) = (l.drop c).take (i - c) ++ [l[i]] := by
  have h : i - c < (l.drop c).length := by rw [List.length_drop]; omega
  rw [show i + 1 - c = i - c + 1 by omega, List.take_succ_eq_append_getElem h]
  congr 2
  rw [List.getElem_drop]
  congr 1
  omega

set_option maxHeartbeats 16000000 in
set_option maxRecDepth 100000 in
theorem refPage_any {A : Option Addr} {n c : Nat} {l : List Int} {w : World} (x m : Int) (hx : I64 x) (hm : I64 m) (h : IL w A n c l) :
    Calls Try.prog 26 #[.slice A n c, .int .i64 x, .int .i64 m] w fun e w' => ThreeI w w' e (pageP l x m) := by
  obtain ⟨L, rfl⟩ : ∃ L, L = n := ⟨_, rfl⟩
  have HLL := Lib.hid h.len
  have HL := Lib.hid h
  have hlim : L ≤ 17592186044416 := by rw [h.len]; exact h.lim
  have HM := Lib.hid (refCheckI_any h)
  have hm1 := hm.1
  have hm2 := hm.2
  have hx1 := hx.1
  have hx2 := hx.2
  clear h hm hx
  obtain ⟨X, hX⟩ : ∃ X, X = pageP l x m := ⟨_, rfl⟩
  rw [← hX]
  have HX := Lib.hid hX
  clear hX
  rcases chkI_cases l with ⟨hi, hc⟩ | ⟨hi, hc⟩
  · rw [hc] at HM
    clear hc
    by_cases hneg : m < 1
    · have HX1 : Hid (X = ([], 0, 9)) := Lib.hid (by rw [HX.out]; unfold pageP; rw [if_pos hi, if_pos hneg])
      clear hi
      go_enter Try.func26, Try.ntmps26
      go_wp2_with fail
      refine HM.out.mono ?_
      rintro e w3 ⟨rfl, hb3⟩
      go_wp2_with fail
      go_ret3
      rw [HX1.out]
      exact ⟨_, rfl, World.ownsRow_nil _ _ _ _, hb3⟩
    · have HCL := Lib.hid (fun (i : Nat) (h : i < l.length) => cnt_lt hi x h)
      have HCG := Lib.hid (fun (i : Nat) (h : i < l.length) => cnt_ge hi x h)
      obtain ⟨k, hk⟩ : ∃ k, k = l.countP (· < x) := ⟨_, rfl⟩
      have hkl : k ≤ L := by rw [hk, HLL.out]; exact List.countP_le_length
      have hre : restP l x = l.drop k := by unfold restP; rw [hk]
      obtain ⟨mm, rfl⟩ := Int.eq_ofNat_of_zero_le (show 0 ≤ m by omega)
      have HX0 : Hid (X = if (mm : Int) < (((l.drop k).length : Nat) : Int) then ((l.drop k).take mm, (l.drop k).getD mm 0, 0) else (l.drop k, 0, 0)) := Lib.hid (by rw [HX.out]; unfold pageP; rw [if_pos hi, if_neg hneg, hre, Int.toNat_natCast])
      rw [← hk] at HCL HCG
      have HK := Lib.hid hk
      clear hi hk hre
      go_enter Try.func26, Try.ntmps26
      go_wp2_with fail
      refine HM.out.mono ?_
      rintro e w3 ⟨rfl, hb3⟩
      go_wp2_with fail
      go_loopw [9, 10] (fun v i wr => ∃ (A1 : Option Addr) (n1 c1 j : Nat), v = .slice A1 n1 c1 ∧ j ≤ L ∧ i = .int .i64 j ∧ n1 = j - k ∧ j - k ≤ mm ∧ Hid (wr.ownsRow w.heap.size 3 1 (.slice A1 n1 c1) ((l.drop k).take (j - k)).length (iv ((l.drop k).take (j - k)))) ∧ Below w.heap.size w wr) (fun _ i _ => L - (intOf i).toNat)
      case atStart => exact ⟨none, 0, 0, 0, rfl, Nat.zero_le _, rfl, by omega, by omega, Lib.hid (by simp; exact World.ownsRow_nil _ _ _ _), hb3⟩
      case round =>
        obtain ⟨A1, n1, c1, j, rfl, hj, rfl, hn1, hjm, HO, hb⟩ := hrel
        by_cases hlt : j < L
        · have hlt' : j < l.length := by rw [← HLL.out]; exact hlt
          obtain ⟨b, o, rfl⟩ := HL.out.plain (by omega)
          have hc := HL.out.cells hb hlt'
          have haa : (⟨b, o, none⟩ : Addr).add j = ⟨b, o + j, none⟩ := addr_add _ _ _
          have HFI := Lib.hid (HL.out.fit _ (List.getElem_mem hlt'))
          by_cases hjk : j < k
          · have hyx := HCL.out j hlt' hjk
            generalize l[j] = y at *
            clear hlt'
            go_wp2_with fail
            exact ⟨⟨A1, n1, c1, j + 1, rfl, by omega, by go_num, by omega, by omega, Lib.hid (by rw [show j + 1 - k = j - k by omega]; exact HO.out), hb⟩, by simp [intOf]; omega⟩
          · have hyx := HCG.out j hlt' (by omega)
            have hld : ((l.drop k).take (j - k)).length = j - k := by rw [List.length_take, List.length_drop]; omega
            have HTD := Lib.hid (take_dropI (l := l) (c := k) (i := j) (by omega) hlt')
            by_cases hjm2 : n1 = mm
            · have hgd : (l.drop k).getD mm 0 = l[j] := by
                rw [List.getD_eq_getElem?_getD, List.getElem?_drop, show k + mm = j by omega, List.getElem?_eq_getElem hlt']; rfl
              have hml : (mm : Int) < (((l.drop k).length : Nat) : Int) := by rw [List.length_drop]; omega
              have HX1 : Hid (X = ((l.drop k).take mm, l[j], 0)) := Lib.hid (by rw [HX0.out, if_pos hml, hgd])
              have HO' : Hid (wr.ownsRow w.heap.size 3 1 (.slice A1 n1 c1) ((l.drop k).take mm).length (iv ((l.drop k).take mm))) := Lib.hid (by have := HO.out; rw [← hn1, hjm2] at this; rw [hjm2]; exact this)
              have hq : ((n1 : Int) == (mm : Int)) = true := by simp; omega
              generalize l[j] = y at *
              clear hlt' hgd hml hld HTD HO hjm2
              go_wp2_with fail
              go_quiet (fail)
              go_wp2_with fail
              go_ret3
              rw [HX1.out]
              exact ⟨_, rfl, HO'.out, below_drewN hb _⟩
            · have hq : ((n1 : Int) == (mm : Int)) = false := by simp; omega
              rw [← hn1] at hld
              generalize l[j] = y at *
              clear hlt'
              have HO' : Hid (wr.ownsRow w.heap.size 3 1 (.slice A1 n1 c1) ((l.drop k).take (j - k)).length (iv ((l.drop k).take (j - k)))) := HO
              go_wp2_with (at_builtin; refine append_int rfl (.tmp 37) (.tmp 42) rfl w.heap.size (.slice A1 n1 c1) ((l.drop k).take (j - k)) y wr rfl HFI.out rfl HO'.out rfl (by rw [← hn1, hld]; omega) hb.size ?_; intro v3 w3 ho3 hg3 hv3; have hb3 := grown_below hb hg3 (own_block HO'.out); obtain ⟨A2, c2, e2⟩ : ∃ A2 c2, v3 = .slice A2 (n1 + 1) c2 := (by rcases ho3.2 with ⟨h, hl⟩ | ⟨g', cap, cur, h, _⟩; (exact absurd hl (by simp [iv])); (exact ⟨_, _, by rw [h]; congr 1; rw [List.length_append, ← hn1, hld]; rfl⟩)); subst e2; have HO3 := Lib.hid ho3; clear ho3 hg3 hv3)
              exact ⟨⟨A2, _, c2, j + 1, rfl, by omega, by go_num, by omega, by omega, Lib.hid (by rw [HTD.out]; have h9 := HO3.out; rw [hn1] at h9; exact h9), hb3⟩, by simp [intOf]; omega⟩
        · obtain rfl : j = L := by omega
          have hnm : ¬ (mm : Int) < (((l.drop k).length : Nat) : Int) := by rw [List.length_drop, ← HLL.out]; omega
          have HX1 : Hid (X = (l.drop k, 0, 0)) := Lib.hid (by rw [HX0.out, if_neg hnm])
          have HO' : Hid (wr.ownsRow w.heap.size 3 1 (.slice A1 n1 c1) (l.drop k).length (iv (l.drop k))) := Lib.hid (by have := HO.out; rw [List.take_of_length_le (by rw [List.length_drop, ← HLL.out]; exact Nat.le_refl _)] at this; exact this)
          clear HO hnm
          go_wp2_with fail
          go_ret3
          rw [HX1.out]
          exact ⟨_, rfl, HO'.out, hb⟩
  · rw [hc] at HM
    have HX1 : Hid (X = ([], 0, 2)) := Lib.hid (by rw [HX.out]; unfold pageP; rw [if_neg hi])
    clear hi hc
    go_enter Try.func26, Try.ntmps26
    go_wp2_with fail
    refine HM.out.mono ?_
    rintro e w3 ⟨rfl, hb3⟩
    go_wp2_with fail
    go_ret3
    rw [HX1.out]
    exact ⟨_, rfl, World.ownsRow_nil _ _ _ _, hb3⟩
end Go.Proofs.Ythikhoamodcggaa
