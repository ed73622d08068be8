/- The walk of the law TallyAdd. No conditions. -/
import Derived.Test.YtpkpgmpnaomioaaTally
import Derived.Deep.RegionHeld3
import Derived.BigRegion
import Derived.RegionTactic
import Derived.ChangeAlike
set_option linter.unusedSimpArgs false
set_option linter.unusedVariables false
namespace Go.Proofs.Ytpkpgmpnaomioaa
open Go.RowKit
attribute [local go_sem] min2_mn min_4

set_option maxHeartbeats 4000000 in
set_option maxRecDepth 100000 in
theorem tallyAdd_walk (A : Option Addr) (ca : Nat) (a : List Nat) (B : Option Addr) (cb : Nat) (b : List Nat) (C : Option Addr) (cc : Nat) (c : List Nat) (w : World) (hA : BS w A a.length ca a) (hB : BS w B b.length cb b) (hC : BS w C c.length cc c) :
    Calls Try.prog 7 #[.slice A a.length ca, .slice B b.length cb, .slice C c.length cc] w fun e w' => e = .returned (.bool true) ∧ Below w.heap.size w w' := by
  obtain ⟨n, hn⟩ : ∃ n, n = min (min (min a.length b.length) c.length) 5000 := ⟨_, rfl⟩
  have m1 : mnI (mnI (mnI a.length b.length) c.length) 5000 = n := by rw [mnI_nat, mnI_nat, mnI_lit _ 5000 5000 rfl, hn]
  have l1 := hA.lim
  have l2 := hB.lim
  have l3 := hC.lim
  have q0 : n ≤ 5000 := by omega
  have q1 : n ≤ a.length := by omega
  have q2 : n ≤ b.length := by omega
  have q3 : n ≤ c.length := by omega
  have n1 := hA.le
  have n2 := hB.le
  have n3 := hC.le
  have HA := Lib.hid hA
  have HB := Lib.hid hB
  have HC := Lib.hid hC
  clear hA hB hC hn
  obtain ⟨i5, hi5, hz5, hs5, hb5⟩ := info_parts infoU8
  go_enter Try.func7, Try.ntmps7
  go_wp2_with fail
  refine (works02_any _).mono ?_
  rintro e w1 ⟨rfl, hb1⟩
  go_wp2_with (first | (at_make; refine wpList_make_full _ rfl (.tmp 19) (.tmp 19) 23 rfl w.heap.size 5 i5 (.int .u8 0) 1 Try.underlying23 hi5 hz5 hs5 .i64 .i64 n n n rfl rfl rfl rfl (by rw [hb5]; omega) (by unfold maxLen; omega) hb1.size ?_; intro w2 ho hg; have hb2 := grown_below hb1 hg (by intro k hk; cases hk); have HO := Lib.hid ho; clear ho hg) | fail)
  obtain ⟨g, hg⟩ : ∃ g, g = w1.heap.size := ⟨_, rfl⟩
  rw [← hg] at HO
  rw [← hg]
  have hgB : w.heap.size ≤ g := by rw [hg]; exact hb1.size
  clear hg hb1
  have hz : (madeCells (Value.int .u8 0).cells (n * 1)).toList = bv (List.replicate n 0) := by
    rw [Nat.mul_one]
    show (madeCells #[Value.int .u8 0] n).toList = _
    rw [toList_madeCells_one, bv, List.map_replicate]; rfl
  rw [hz] at HO
  clear hz
  go_loopw [9] (fun i wr => ∃ k : Nat, ∃ L : List Nat, k ≤ n ∧ i = .int .i64 k ∧ Hid (wr.ownsRow w.heap.size 5 1 (.slice (some ⟨g, 0, none⟩) n n) n (bv L)) ∧ Hid (Byt L) ∧ Hid (∀ j, j < k → L.getD j 0 = a.getD j 0 ^^^ b.getD j 0 ^^^ c.getD j 0) ∧ Below w.heap.size w wr) (fun i _ => n - (intOf i).toNat)
  case atStart => exact ⟨0, _, Nat.zero_le _, rfl, HO, Lib.hid (fun x hx => by rw [(List.mem_replicate.1 hx).2]; decide), Lib.hid (fun j hj => absurd hj (by omega)), hb2⟩
  case round =>
    clear HO hb2
    obtain ⟨k, L, hk, rfl, HO, HL, HX, hb⟩ := hrel
    have hLn := own_len HO.out
    by_cases hlt : k < n
    · obtain ⟨a1, hA1, hc1⟩ := HA.out.cellAt hb (show k < a.length by omega)
      obtain ⟨a2, hA2, hc2⟩ := HB.out.cellAt hb (show k < b.length by omega)
      obtain ⟨a3, hA3, hc3⟩ := HC.out.cellAt hb (show k < c.length by omega)
      subst hA1 hA2 hA3
      have hc4 := own_cell HO.out (show k < L.length by omega)
      have hf4 := HO.out.frozenAt k
      have x1 : a[k] < 256 := HA.out.byt.at _
      have x2 : b[k] < 256 := HB.out.byt.at _
      have x3 : c[k] < 256 := HC.out.byt.at _
      have e1 : a.getD k 0 = a[k] := by rw [List.getD_eq_getElem?_getD, List.getElem?_eq_getElem (by omega)]; rfl
      have e2 : b.getD k 0 = b[k] := by rw [List.getD_eq_getElem?_getD, List.getElem?_eq_getElem (by omega)]; rfl
      have e3 : c.getD k 0 = c[k] := by rw [List.getD_eq_getElem?_getD, List.getElem?_eq_getElem (by omega)]; rfl
      have HE := Lib.hid (And.intro e1 (And.intro e2 e3))
      clear e1 e2 e3
      generalize a[k] = x at *
      generalize b[k] = y at *
      generalize c[k] = z at *
      have hx1 : bits .xor .u8 (x : Int) (y : Int) = ((x ^^^ y : Nat) : Int) := u8_xor_nat x y x1 x2
      have hxy : x ^^^ y < 256 := Nat.xor_lt_two_pow (n := 8) x1 x2
      have hx2 : bits .xor .u8 ((x ^^^ y : Nat) : Int) (z : Int) = ((x ^^^ y ^^^ z : Nat) : Int) := u8_xor_nat _ z hxy x3
      have hxz : x ^^^ y ^^^ z < 256 := Nat.xor_lt_two_pow (n := 8) hxy x3
      generalize L[k] = old at *
      have HLn := Lib.hid hLn
      clear hLn
      generalize hxye : x ^^^ y = xy at *
      have HXY := Lib.hid hxye
      clear hxye
      generalize hv : xy ^^^ z = v at *
      have HV := Lib.hid hv
      clear hv
      go_wp2_with fail
      go_region
      go_wp2
      refine ⟨⟨k + 1, L.set k v, by omega, by go_num, Lib.hid ((own_store HO.out k v).drew), Lib.hid ?_, Lib.hid ?_, ?_⟩, by simp [intOf]; omega⟩
      · intro t ht
        rcases List.mem_or_eq_of_mem_set ht with h | h
        · exact HL.out t h
        · rw [h]; exact hxz
      · intro j hj
        by_cases hjk : j = k
        · subst hjk
          rw [List.getD_eq_getElem?_getD, List.getElem?_set_self (by rw [← HLn.out]; exact hlt), HE.out.1, HE.out.2.1, HE.out.2.2, HXY.out, HV.out]; rfl
        · have := HX.out j (by omega)
          rw [List.getD_eq_getElem?_getD] at this ⊢
          rw [List.getElem?_set_ne (by omega)]; exact this
      · exact (hb.setCell (p := ⟨g, k, none⟩) hgB _).drew
    · obtain rfl : k = n := by omega
      obtain ⟨A4, n4, c4, e4, hs4, _⟩ := ownsRow_bs (l := L) (by rw [← hLn]; exact HO.out) HL.out (by omega)
      have hL : L = List.zipWith (· ^^^ ·) (List.zipWith (· ^^^ ·) (a.take k) (b.take k)) (c.take k) := by
        apply List.ext_getElem
        · simp [List.length_zipWith]; omega
        · intro j h1 h2
          have := HX.out j (by omega)
          rw [List.getD_eq_getElem?_getD, List.getD_eq_getElem?_getD, List.getD_eq_getElem?_getD, List.getD_eq_getElem?_getD, List.getElem?_eq_getElem h1, List.getElem?_eq_getElem (show j < a.length by omega), List.getElem?_eq_getElem (show j < b.length by omega), List.getElem?_eq_getElem (show j < c.length by omega)] at this
          simpa using this
      have hsum := Crc.on_add3 (a.take k) (b.take k) (c.take k) (HA.out.byt.take k) (HB.out.byt.take k) (HC.out.byt.take k) (by simp; omega) (by simp; omega) (by rw [← hL]; exact HL.out)
      rw [← hL] at hsum
      injection e4 with e5 e6 e7
      subst e5 e6 e7
      have H4 := Lib.hid hs4
      have HSUM := Lib.hid hsum
      clear hs4 hsum hL HO hLn
      have hAk := HA.out.cutN q1 |>.below hb
      have hBk := HB.out.cutN q2 |>.below hb
      have hCk := HC.out.cutN q3 |>.below hb
      have HAk := Lib.hid hAk
      have HBk := Lib.hid hBk
      have HCk := Lib.hid hCk
      have z0 : (0 : Int) ≤ (k : Int) := by omega
      have z1 : (k : Int) ≤ (ca : Int) := by omega
      have z2 : (k : Int) ≤ (cb : Int) := by omega
      have z3 : (k : Int) ≤ (cc : Int) := by omega
      clear hAk hBk hCk HX hk hlt hz5 hs5 hb5 hi5 n1 n2 n3 l1 l2 l3 m1
      go_wp2_with fail
      go_region_held3 (fun w' => Below wr.heap.size wr w')
        (first | exact (bel0 _).drew | exact nx (by assumption) (by assumption))
        (first
          | (go_at_call 17; (with_reducible refine (of_any (some ⟨g, 0, none⟩) k k L _ (H4.out.below (by assumption))).mono ?_); rintro e wa ⟨rfl, hba⟩)
          | (go_at_call 17; (with_reducible refine (of_any A k ca _ _ (HAk.out.below (by assumption))).mono ?_); rintro e wa ⟨rfl, hba⟩)
          | (go_at_call 17; (with_reducible refine (of_any B k cb _ _ (HBk.out.below (by assumption))).mono ?_); rintro e wa ⟨rfl, hba⟩)
          | (go_at_call 17; (with_reducible refine (of_any C k cc _ _ (HCk.out.below (by assumption))).mono ?_); rintro e wa ⟨rfl, hba⟩))
      go_wp2
      go_ret
      refine ⟨?_, nx hb (by assumption)⟩
      have e1 := u32_xor_nat (Crc.on 0 (a.take k)) (Crc.on 0 (b.take k)) (Crc.on_lt _ _) (Crc.on_lt _ _)
      have e2 := u32_xor_nat (Crc.on 0 (a.take k) ^^^ Crc.on 0 (b.take k)) (Crc.on 0 (c.take k)) (Crc.xor_lt (Crc.on_lt _ _) (Crc.on_lt _ _)) (Crc.on_lt _ _)
      show Ending.returned (Value.bool ((Crc.on 0 L : Int) == bits .xor .u32 (bits .xor .u32 (Crc.on 0 (a.take k) : Int) (Crc.on 0 (b.take k) : Int)) (Crc.on 0 (c.take k) : Int))) = _
      rw [e1, e2, ← HSUM.out]
      simp
end Go.Proofs.Ytpkpgmpnaomioaa
