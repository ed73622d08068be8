/- The walk of the law ParcelBack. No conditions. -/
import Derived.Test.YtmnabhennibddaaGC37
import Derived.Test.YtmnabhennibddaaGC39
import Derived.Deep.CutBlock
import Derived.Deep.DeepCutAuto
set_option linter.unusedSimpArgs false
set_option linter.unusedVariables false
namespace Go.Proofs.Ytmnabhennibddaa
open Go.RowKit

theorem bring_in3 (n m : Int) (hm : 0 < m) : 0 ≤ bring n m ∧ bring n m < m := by
  unfold bring
  rw [if_neg (by omega)]
  exact ⟨Int.emod_nonneg _ (by omega), Int.emod_lt_of_pos _ hm⟩
theorem bring_nat3 (x : Int) (n : Nat) (hn : 0 < n) : ∃ r : Nat, bring x n = (r : Int) ∧ r < n := by
  obtain ⟨h1, h2⟩ := bring_in3 x n (by omega)
  exact ⟨(bring x n).toNat, by omega, by omega⟩
theorem size_i3 (w : World) : (sizeOf (Try.prog.elem 27)).run Try.prog w = .ok 1 w := by
  obtain ⟨i5, hi5, hz5, hs5, hb5⟩ := info_parts infoIn
  rw [show Try.prog.elem 27 = 3 by kernel_rfl]
  simp [sizeOf, typeInfo, hi5, hs5]
theorem size_l3 (w : World) : (sizeOf (Try.prog.elem 28)).run Try.prog w = .ok 1 w := by
  obtain ⟨i5, hi5, hz5, hs5, hb5⟩ := info_parts infoBl
  rw [show Try.prog.elem 28 = 22 by kernel_rfl]
  simp [sizeOf, typeInfo, hi5, hs5]
set_option maxRecDepth 100000 in
theorem slice_takeI3 {w : World} {A : Option Addr} {n c : Nat} {k : Nat} (hk : k ≤ c) :
    (Instr.slice 27 (.slice A n c) none (some (.int .i64 (k : Int))) none).run Try.prog w = .ok (.slice A k c) w := by
  have h1 : (k : Int) ≤ (c : Int) := by omega
  rw [run_slice_h w 27 A n c Try.underlying27 .i64 k (by omega) h1]
  rw [size_i3]
  simp only [sliced, Result.andThen, Int.toNat_natCast, Nat.zero_mul, Nat.sub_zero]
  split
  · rfl
  · cases A <;> simp [Addr.add]
set_option maxRecDepth 100000 in
theorem slice_takeL3 {w : World} {A : Option Addr} {n c : Nat} {k : Nat} (hk : k ≤ c) :
    (Instr.slice 28 (.slice A n c) none (some (.int .i64 (k : Int))) none).run Try.prog w = .ok (.slice A k c) w := by
  have h1 : (k : Int) ≤ (c : Int) := by omega
  rw [run_slice_h w 28 A n c Try.underlying28 .i64 k (by omega) h1]
  rw [size_l3]
  simp only [sliced, Result.andThen, Int.toNat_natCast, Nat.zero_mul, Nat.sub_zero]
  split
  · rfl
  · cases A <;> simp [Addr.add]
theorem IL.cut3 {w : World} {A : Option Addr} {n c m : Nat} {l : List Int} (h : IL w A n c l) (hm : m ≤ l.length) : IL w A m c (l.take m) := by
  refine ⟨by rw [List.length_take]; omega, by rw [List.length_take]; have := h.le; omega, h.nil, fun i hi => ?_, fun x hx => h.fit x (List.mem_of_mem_take hx), by rw [List.length_take]; have := h.lim; omega⟩
  have hi1 : i < (l.take m).length := by simpa [iv] using hi
  have hi3 : i < l.length := by rw [List.length_take] at hi1; omega
  have hi2 : i < (iv l).length := by simpa [iv] using hi3
  obtain ⟨ad, e, hc⟩ := h.lies i hi2
  refine ⟨ad, e, hc.trans ?_⟩
  simp [iv]
theorem pk_good {k : Nat} {b : List Nat} (hk : k ≤ 127) (hb : b.length ≤ 65536) : Par.pk (k : Int) b = (Par.frame k b, 0) := by
  unfold Par.pk
  rw [if_neg (by omega), if_neg (by omega), Int.toNat_natCast]
theorem frame_len (k : Nat) (b : List Nat) (hk : k ≤ 127) (hb : b.length ≤ 65536) : (Par.frame k b).length ≤ b.length + 8 := by
  unfold Par.frame
  rw [List.length_append, crc_row_length, Par.length_hd]
  have h1 := Par.sz1 (k := k) (by omega)
  have h2 := Par.sz3 (k := b.length) hb
  omega
/-- What is known of the frames so far. -/
structure FrOk (F : List (Nat × List Nat)) (i : Nat) : Prop where
  n : F.length = i
  ok : OkF F
  len : (flatF F).length ≤ 2008 * i
  byt : Byt (flatF F)
theorem FrOk.snoc {F : List (Nat × List Nat)} {i k : Nat} {b : List Nat} (h : FrOk F i) (hk : k ≤ 127) (hb : b.length ≤ 2000) (hB : Byt b) : FrOk (F ++ [(k, b)]) (i + 1) := by
  have h1 := frame_len k b hk (by omega)
  refine ⟨by rw [List.length_append, h.n]; rfl, fun f hf => ?_, ?_, ?_⟩
  · rcases List.mem_append.1 hf with hf | hf
    · exact h.ok f hf
    · rw [List.mem_singleton] at hf
      subst hf
      exact ⟨hk, by show b.length ≤ _; omega⟩
  · rw [flatF_snoc, List.length_append]
    have := h.len
    simp only
    omega
  · rw [flatF_snoc]
    refine h.byt.append ?_
    have := pk_ok (kind := (k : Int)) hB
    rw [pk_good hk (by omega)] at this
    exact this.1
attribute [local go_sem] min2_mn min_2
set_option maxHeartbeats 64000000 in
set_option maxRecDepth 100000 in
theorem parcelBack_walk (A : Option Addr) (c : Nat) (l : List (List Nat)) (B : Option Addr) (d : Nat) (ks : List Int) (ct : Int) (w : World) (hA : EL blR w A l.length c l) (hB : IS w B d ks) (hct : I64 ct) :
    Calls Try.prog 4 #[.slice A l.length c, .slice B ks.length d, .int .i64 ct] w fun e w' => e = .returned (.bool true) ∧ Below w.heap.size w w' := by
  have HA := Lib.hid hA
  have HB := Lib.hid (IL.ofIS hB)
  have hall := hA.lim
  have hkl := (IL.ofIS hB).lim
  unfold I64 at hct
  clear hA hB
  go_enter Try.func4, Try.ntmps4
  (try simp only [List.append_eq, List.cons_append, List.nil_append])
  go_wp2_with fail
  refine (works03_any _).mono ?_
  rintro r w1 ⟨rfl, hb1⟩
  have H1 := Lib.hid hb1
  clear hb1
  have hx := bel1' w1 (.cells #[.int .i64 0] 3)
  have HP0 := Lib.hid (show PB w w1 (w1.alloc (.cells #[.int .i64 0] 3)) (.slice none 0 0) (.slice none 0 0) (.slice none 0 0) (.slice (some ⟨w1.heap.size, 0, none⟩) 1 1) (flatF []) (([] : List (Nat × List Nat)).map fun f => (f.1 : Int)) (([] : List (Nat × List Nat)).map (·.2)) (endsF []) from ⟨H1.out, hx, World.ownsRow_nil _ _ _ _, EOwn.nil _ _, EOwn.nil _ _, ino_new w1 0 _ (Nat.le_refl _), fun k hk => by cases hk⟩)
  clear hx
  go_upto_block 0 with (fail)
  go_cut [7, 8, 9, 10, 11, 12, 13, 14] (fun v7 v8 v9 v10 _ _ _ _ wx => ∃ (F : List (Nat × List Nat)) (i : Nat), i ≤ 20 ∧ Hid (PB w w1 wx v7 v8 v9 v10 (flatF F) (F.map fun f => (f.1 : Int)) (F.map (·.2)) (endsF F)) ∧ Hid (FrOk F i))
  case first =>
    go_wp2_with fail
    go_loopw [7, 8, 9, 10, 11] (fun v7 v8 v9 v10 ii wr => ∃ (F : List (Nat × List Nat)) (i : Nat), i ≤ 20 ∧ i ≤ l.length ∧ ii = .int .i64 i ∧ Hid (PB w w1 wr v7 v8 v9 v10 (flatF F) (F.map fun f => (f.1 : Int)) (F.map (·.2)) (endsF F)) ∧ Hid (FrOk F i)) (fun _ _ _ _ ii _ => 20 - (intOf ii).toNat)
    case atStart => exact ⟨[], 0, by omega, Nat.zero_le _, rfl, HP0, Lib.hid ⟨rfl, (by intro f hf; cases hf), by simp [flatF], (by intro x hx; cases hx)⟩⟩
    case round =>
      clear HP0
      obtain ⟨F, i, hi20, hil, rfl, HP, HF⟩ := hrel
      by_cases hgo : i < l.length ∧ i < 20
      · obtain ⟨hlt, hlt2⟩ := hgo
        have hii : (i : Int) < (l.length : Int) := by omega
        have hi2 : (i : Int) < 20 := by omega
        have hfn := HF.out.n
        have hfl := HF.out.len
        obtain ⟨A8, c8, e8⟩ := HP.out.o8.len
        obtain ⟨A9, c9, e9⟩ := HP.out.o9.len
        obtain ⟨A10, c10, e10⟩ := HP.out.o10.len
        obtain ⟨A7, n7, c7, e7, _, _⟩ := ownsRow_bs HP.out.o7 HF.out.byt (by omega)
        rw [List.length_map, hfn] at e8 e9
        rw [endsF_len, hfn] at e10
        subst e8 e9 e10 e7
        obtain ⟨g1, o1, cs1, hA1, ⟨P1, m1, d1, rfl, hs1⟩, hc1⟩ := HA.out.cellsAt (bel0 w) hlt
        subst hA1
        have hs1n := hs1.len
        subst hs1n
        have hm1 := mnI_lit l[i].length 2000 2000 rfl
        have hle1 := hs1.le
        have hlm1 := hs1.lim
        have hcut := hs1.cutN (show min l[i].length 2000 ≤ l[i].length by omega)
        have e0 : w.cell? ⟨g1, o1 + i, none⟩ = some (.slice P1 l[i].length d1) := by have := hc1 0 _ rfl; simpa [blR] using this
        have a1 : (⟨g1, o1, none⟩ : Addr).add i = ⟨g1, o1 + i, none⟩ := addr_add _ _ _
        have E0 := Lib.hid e0
        clear hs1 hc1 e0
        generalize l[i] = x at *
        obtain ⟨mm, hmm⟩ : ∃ m, m = min x.length 2000 := ⟨_, rfl⟩
        rw [← hmm] at hm1 hcut
        obtain ⟨xb, hxb⟩ : ∃ b, b = x.take mm := ⟨_, rfl⟩
        rw [← hxb] at hcut
        have hxl : xb.length = mm := hcut.len.symm
        have hm2 : mm ≤ 2000 := by omega
        have hmd : mm ≤ d1 := by omega
        have hmi : (mm : Int) ≤ (d1 : Int) := by omega
        have hsl : ∀ W : World, (Instr.slice 22 (.slice P1 x.length d1) none (some (.int .i64 (mm : Int))) none).run Try.prog W = .ok (.slice P1 mm d1) W := fun W => slice_take hmd
        have HC := Lib.hid hcut
        have HXL := Lib.hid hxl
        clear hmm hxb hxl hcut
        by_cases hkk : i < ks.length
        · have hki : (i : Int) < (ks.length : Int) := by omega
          obtain ⟨ad, hB1, hcB⟩ := HB.out.cellAt (nx HP.out.bw HP.out.b1) hkk
          subst hB1
          have hfk := HB.out.fit.at hkk
          obtain ⟨kk, hbk, hk128⟩ := bring_nat3 ks[i] 128 (by omega)
          have HBK := Lib.hid hbk
          clear hbk
          generalize ks[i] = kx at *
          go_wp2_with fail
          refine (bring_any kx 128 _ (by omega) (by omega) (by decide) (by decide)).mono ?_
          rintro r wz ⟨rfl, rfl⟩
          rw [show bring kx 128 = (kk : Int) from HBK.out]
          go_upto_region 13 with (fail)
          have hx := (bel0 wr).drew
          have HPd := Lib.hid (HP.out.below hx)
          have KC := Lib.hid (fun (X : World) (h : Below w.heap.size w X) => (h.cell (p := ⟨g1, o1 + i, none⟩) (World.block_lt_of_cell? _ _ E0.out)).trans E0.out)
          have PKC := Lib.hid (fun (X : World) (h : Below w.heap.size w X) => pack_any (kk : Int) P1 mm d1 xb X (HC.out.below h))
          have HPG := Lib.hid (show Par.pk (kk : Int) xb = (Par.frame kk xb, 0) from pk_good (k := kk) (b := xb) (show kk ≤ 127 by omega) (by have := HXL.out; omega))
          have HFR := Lib.hid (frame_len kk xb (show kk ≤ 127 by omega) (by have := HXL.out; omega))
          have HFN := Lib.hid (HF.out.snoc (k := kk) (b := xb) (show kk ≤ 127 by omega) (by have := HXL.out; omega) HC.out.byt)
          have HPB := Lib.hid (pk_ok (kind := (kk : Int)) HC.out.byt)
          clear hx
          obtain ⟨wd, hwd⟩ : ∃ W, W = wr.drew := ⟨_, rfl⟩
          rw [← hwd] at HPd
          have HWD := Lib.hid hwd
          clear hwd
          refine wp_region_held_drew (S := (fun w' => w'.cell? ⟨g1, o1 + i, none⟩ = some (.slice P1 x.length d1))) (by kernel_rfl) (by rw [← HWD.out]; exact KC.out _ (nx HPd.out.bw HPd.out.b1)) (fun hHeld => ?_)
          refine' take_val (i := 0) (d := 48) (v := _) rfl rfl (by kernel_rfl) (by kernel_rfl) (by kernel_rfl) (fun _ _ _ h => h) (by rfl) ?_ (by assumption) ?_
          rotate_left
          · (intro w hSw; (try dsimp only at hSw); go_simp; (try with_reducible rfl))
          (try simp only [Act.put, List.setIfInBounds_toArray, List.set_cons_zero, List.set_cons_succ])
          refine' take_val (i := 1) (d := 49) (v := _) rfl rfl (by kernel_rfl) (by kernel_rfl) (by kernel_rfl) (fun _ _ _ h => h) (by rfl) ?_ (by assumption) ?_
          rotate_left
          · (intro w hSw; (try dsimp only at hSw); go_simp; (try with_reducible rfl))
          (try simp only [Act.put, List.setIfInBounds_toArray, List.set_cons_zero, List.set_cons_succ])
          refine' take_val (i := 2) (d := 50) (v := _) rfl rfl (by kernel_rfl) (by kernel_rfl) (by kernel_rfl) (fun _ _ _ h => h) (by rfl) ?_ (by assumption) ?_
          rotate_left
          · (intro w hSw; (try dsimp only at hSw); go_simp; (try with_reducible rfl))
          (try simp only [Act.put, List.setIfInBounds_toArray, List.set_cons_zero, List.set_cons_succ])
          refine' take_val (i := 3) (d := 51) (v := _) rfl rfl (by kernel_rfl) (by kernel_rfl) (by kernel_rfl) (fun _ _ _ h => h) (by rfl) ?_ (by assumption) ?_
          rotate_left
          · (intro w hSw; (try dsimp only at hSw); go_simp; (try with_reducible rfl))
          (try simp only [Act.put, List.setIfInBounds_toArray, List.set_cons_zero, List.set_cons_succ])
          refine' take_val (i := 4) (d := 52) (v := _) rfl rfl (by kernel_rfl) (by kernel_rfl) (by kernel_rfl) (fun _ _ _ h => h) (by rfl) ?_ (by assumption) ?_
          rotate_left
          · (intro w hSw; (try dsimp only at hSw); go_simp; (try with_reducible rfl))
          (try simp only [Act.put, List.setIfInBounds_toArray, List.set_cons_zero, List.set_cons_succ])
          refine' take_val (i := 5) (d := 53) (v := _) rfl rfl (by kernel_rfl) (by kernel_rfl) (by kernel_rfl) (fun _ _ _ h => h) (by rfl) ?_ (by assumption) ?_
          rotate_left
          · (intro w hSw; (try dsimp only at hSw); go_simp; (try with_reducible rfl))
          (try simp only [Act.put, List.setIfInBounds_toArray, List.set_cons_zero, List.set_cons_succ])
          refine' take_val (i := 6) (d := 54) (v := _) rfl rfl (by kernel_rfl) (by kernel_rfl) (by kernel_rfl) (fun _ _ _ h => h) (by rfl) ?_ (by assumption) ?_
          rotate_left
          · (intro w hSw; (try dsimp only at hSw); go_simp; (try with_reducible rfl))
          (try simp only [Act.put, List.setIfInBounds_toArray, List.set_cons_zero, List.set_cons_succ])
          refine' take_val (i := 7) (d := 55) (v := _) rfl rfl (by kernel_rfl) (by kernel_rfl) (by kernel_rfl) (fun _ _ _ h => h) (by rfl) ?_ (by assumption) ?_
          rotate_left
          · (intro w hSw; (try dsimp only at hSw); go_simp; (try with_reducible rfl))
          (try simp only [Act.put, List.setIfInBounds_toArray, List.set_cons_zero, List.set_cons_succ])
          refine' take_val (i := 8) (d := 56) (v := _) rfl rfl (by kernel_rfl) (by kernel_rfl) (by kernel_rfl) (fun _ _ _ h => h) (by rfl) ?_ (by assumption) ?_
          rotate_left
          · (intro w hSw; (try dsimp only at hSw); go_simp; (try with_reducible rfl))
          (try simp only [Act.put, List.setIfInBounds_toArray, List.set_cons_zero, List.set_cons_succ])
          refine' take_val (i := 9) (d := 57) (v := _) rfl rfl (by kernel_rfl) (by kernel_rfl) (by kernel_rfl) (fun _ _ _ h => h) (by rfl) ?_ (by assumption) ?_
          rotate_left
          · (intro w hSw; (try dsimp only at hSw); go_simp; (try with_reducible rfl))
          (try simp only [Act.put, List.setIfInBounds_toArray, List.set_cons_zero, List.set_cons_succ])
          refine' take_val (i := 10) (d := 58) (v := _) rfl rfl (by kernel_rfl) (by kernel_rfl) (by kernel_rfl) (fun _ _ _ h => h) (by rfl) ?_ (by assumption) ?_
          rotate_left
          · (intro w hSw; (try dsimp only at hSw); go_simp; (try with_reducible rfl))
          (try simp only [Act.put, List.setIfInBounds_toArray, List.set_cons_zero, List.set_cons_succ])
          refine' take_val (i := 11) (d := 59) (v := _) rfl rfl (by kernel_rfl) (by kernel_rfl) (by kernel_rfl) (fun _ _ _ h => h) (by rfl) ?_ (by assumption) ?_
          rotate_left
          · (intro w hSw; (try dsimp only at hSw); go_simp; (try with_reducible rfl))
          (try simp only [Act.put, List.setIfInBounds_toArray, List.set_cons_zero, List.set_cons_succ])
          refine wpAnyH_ready (rs := [12]) (by kernel_rfl) (by simp) ?_
          refine AllReadyH.cons rfl (fun K hK => ?_) AllReadyH.nil
          go_simp
          go_at_call 17
          rw [← HWD.out]
          skip
          refine (PKC.out _ (nx HPd.out.bw HPd.out.b1)).mono ?_
          rw [HPG.out]
          intro r w2 hh
          obtain ⟨A13, n13, c13, rfl, hB13, hb⟩ := hh.open (by have := HPB.out.1; rw [HPG.out] at this; exact this) (by have := HFR.out; have := HXL.out; simp only; omega)
          have B13 := Lib.hid hB13
          have HP2 := Lib.hid (HPd.out.below hb)
          clear hh hB13 hb hHeld
          go_wp2_with fail
          refine hK.out _ _ (KC.out _ (nx HP2.out.bw HP2.out.b1)) (fun hHeld => ?_)
          clear hK K
          (try simp only [Act.put, List.setIfInBounds_toArray, List.set_cons_zero, List.set_cons_succ])
          refine' take_val (i := 13) (d := 47) (v := _) rfl rfl (by kernel_rfl) (by kernel_rfl) (by kernel_rfl) (fun _ _ _ h => h) (by rfl) ?_ (by assumption) ?_
          rotate_left
          · (intro w hSw; (try dsimp only at hSw); go_simp; (try with_reducible rfl))
          (try simp only [Act.put, List.setIfInBounds_toArray, List.set_cons_zero, List.set_cons_succ])
          refine' take_val (i := 14) (d := 61) (v := _) rfl rfl (by kernel_rfl) (by kernel_rfl) (by kernel_rfl) (fun _ _ _ h => h) (by rfl) ?_ (by assumption) ?_
          rotate_left
          · (intro w hSw; (try dsimp only at hSw); go_simp; (try with_reducible rfl))
          (try simp only [Act.put, List.setIfInBounds_toArray, List.set_cons_zero, List.set_cons_succ])
          refine' take_val (i := 15) (d := 62) (v := _) rfl rfl (by kernel_rfl) (by kernel_rfl) (by kernel_rfl) (fun _ _ _ h => h) (by rfl) ?_ (by assumption) ?_
          rotate_left
          · (intro w hSw; (try dsimp only at hSw); go_simp; (try with_reducible rfl))
          (try simp only [Act.put, List.setIfInBounds_toArray, List.set_cons_zero, List.set_cons_succ])
          refine' take_val (i := 16) (d := 13) (v := _) rfl rfl (by kernel_rfl) (by kernel_rfl) (by kernel_rfl) (fun _ _ _ h => h) (by rfl) ?_ (by assumption) ?_
          rotate_left
          · (intro w hSw; (try dsimp only at hSw); go_simp; (try with_reducible rfl))
          (try simp only [Act.put, List.setIfInBounds_toArray, List.set_cons_zero, List.set_cons_succ])
          refine' take_val (i := 17) (d := 14) (v := _) rfl rfl (by kernel_rfl) (by kernel_rfl) (by kernel_rfl) (fun _ _ _ h => h) (by rfl) ?_ (by assumption) ?_
          rotate_left
          · (intro w hSw; (try dsimp only at hSw); go_simp; (try with_reducible rfl))
          (try simp only [Act.put, List.setIfInBounds_toArray, List.set_cons_zero, List.set_cons_succ])
          refine wpAnyH_done (by kernel_rfl) ?_ _

          clear hHeld PKC HPB HWD HPd
          have hb7 := HF.out.len
          have hfr := HFR.out
          have hxl := HXL.out
          go_wp2_with (at_builtin; refine append_bytes rfl (.tmp 65) (.tmp 66) rfl w1.heap.size (.slice A7 n7 c7) (flatF F) (Par.frame kk xb) rfl HP2.out.o7 A13 n13 c13 rfl B13.out (by omega) HP2.out.b1.size ?_; intro v3 w3 ho hg hv3; refine hold3 ?_)
          have HP3 := Lib.hid (HP2.out.app7 ho hg)
          obtain ⟨A7', n7', c7', e7, hB7, _⟩ := ownsRow_bs ho (by have := HFN.out.byt; rw [flatF_snoc] at this; exact this) (by rw [List.length_append]; omega)
          subst e7
          have HN7 := Lib.hid (show n7' = (flatF (F ++ [(kk, xb)])).length by rw [flatF_snoc]; exact hB7.len)
          have hn7 : n7' ≤ 100000 := by have h1 := HN7.out; have h2 := HFN.out.len; omega
          clear ho hg hv3 HP2 B13 hB7 hb7 hfr hxl
          have hx := bel1' w3 (.cells #[.int .i64 (kk : Int)] 3)
          have HP4 := Lib.hid (HP3.out.below hx)
          have KN := Lib.hid (World.alloc_heap_new w3 (.cells #[.int .i64 (kk : Int)] 3))
          refine Lib.hid ?_
          go_wp2_with (at_builtin; refine append_el3 (O := inO) rfl _ _ 27 _ _ rfl Try.underlying27 infoIn rfl (by decide) w1.heap.size (.slice A8 i c8) (F.map fun f => (f.1 : Int)) (kk : Int) _ rfl HP4.out.o8 rfl _ rfl _ KN.out (by rw [List.length_map]; omega) HP4.out.b1.size ?_; intro v5 w5 ho5 hg5 hv5; refine hold3 ?_)
          obtain ⟨A8', c8', ev⟩ := ho5.len
          rw [List.length_append, List.length_map, hfn] at ev
          simp only [List.length_cons, List.length_nil, Nat.zero_add] at ev
          subst ev
          have HP5 := Lib.hid (HP4.out.app8 ho5 hg5 hv5)
          clear ho5 hg5 hv5 HP3 HP4 KN hx
          refine Lib.hid ?_
          go_upto_region 18 with (fail)
          have hx := (bel0 w5).drew
          have HPd := Lib.hid (HP5.out.below hx)
          clear hx
          obtain ⟨wd, hwd⟩ : ∃ W, W = w5.drew := ⟨_, rfl⟩
          rw [← hwd] at HPd
          have HWD := Lib.hid hwd
          clear hwd
          refine wp_region_held_drew (S := (fun w' => w'.cell? ⟨g1, o1 + i, none⟩ = some (.slice P1 x.length d1))) (by kernel_rfl) (by rw [← HWD.out]; exact KC.out _ (nx HPd.out.bw HPd.out.b1)) (fun hHeld => ?_)
          refine' take_val (i := 0) (d := 72) (v := _) rfl rfl (by kernel_rfl) (by kernel_rfl) (by kernel_rfl) (fun _ _ _ h => h) (by rfl) ?_ (by assumption) ?_
          rotate_left
          · (intro w hSw; (try dsimp only at hSw); go_simp; (try with_reducible rfl))
          (try simp only [Act.put, List.setIfInBounds_toArray, List.set_cons_zero, List.set_cons_succ])
          refine' take_val (i := 1) (d := 73) (v := _) rfl rfl (by kernel_rfl) (by kernel_rfl) (by kernel_rfl) (fun _ _ _ h => h) (by rfl) ?_ (by assumption) ?_
          rotate_left
          · (intro w hSw; (try dsimp only at hSw); go_simp; (try with_reducible rfl))
          (try simp only [Act.put, List.setIfInBounds_toArray, List.set_cons_zero, List.set_cons_succ])
          refine' take_val (i := 2) (d := 74) (v := _) rfl rfl (by kernel_rfl) (by kernel_rfl) (by kernel_rfl) (fun _ _ _ h => h) (by rfl) ?_ (by assumption) ?_
          rotate_left
          · (intro w hSw; (try dsimp only at hSw); go_simp; (try with_reducible rfl))
          (try simp only [Act.put, List.setIfInBounds_toArray, List.set_cons_zero, List.set_cons_succ])
          refine' take_val (i := 3) (d := 75) (v := _) rfl rfl (by kernel_rfl) (by kernel_rfl) (by kernel_rfl) (fun _ _ _ h => h) (by rfl) ?_ (by assumption) ?_
          rotate_left
          · (intro w hSw; (try dsimp only at hSw); go_simp; (try with_reducible rfl))
          (try simp only [Act.put, List.setIfInBounds_toArray, List.set_cons_zero, List.set_cons_succ])
          refine' take_val (i := 4) (d := 76) (v := _) rfl rfl (by kernel_rfl) (by kernel_rfl) (by kernel_rfl) (fun _ _ _ h => h) (by rfl) ?_ (by assumption) ?_
          rotate_left
          · (intro w hSw; (try dsimp only at hSw); go_simp; (try with_reducible rfl))
          (try simp only [Act.put, List.setIfInBounds_toArray, List.set_cons_zero, List.set_cons_succ])
          refine' take_val (i := 5) (d := 77) (v := _) rfl rfl (by kernel_rfl) (by kernel_rfl) (by kernel_rfl) (fun _ _ _ h => h) (by rfl) ?_ (by assumption) ?_
          rotate_left
          · (intro w hSw; (try dsimp only at hSw); go_simp; (try with_reducible rfl))
          (try simp only [Act.put, List.setIfInBounds_toArray, List.set_cons_zero, List.set_cons_succ])
          refine' take_val (i := 6) (d := 78) (v := _) rfl rfl (by kernel_rfl) (by kernel_rfl) (by kernel_rfl) (fun _ _ _ h => h) (by rfl) ?_ (by assumption) ?_
          rotate_left
          · (intro w hSw; (try dsimp only at hSw); go_simp; (try with_reducible rfl))
          (try simp only [Act.put, List.setIfInBounds_toArray, List.set_cons_zero, List.set_cons_succ])
          refine' take_val (i := 7) (d := 79) (v := _) rfl rfl (by kernel_rfl) (by kernel_rfl) (by kernel_rfl) (fun _ _ _ h => h) (by rfl) ?_ (by assumption) ?_
          rotate_left
          · (intro w hSw; (try dsimp only at hSw); go_simp; (try with_reducible rfl))
          (try simp only [Act.put, List.setIfInBounds_toArray, List.set_cons_zero, List.set_cons_succ])
          refine' take_val (i := 8) (d := 80) (v := _) rfl rfl (by kernel_rfl) (by kernel_rfl) (by kernel_rfl) (fun _ _ _ h => h) (by rfl) ?_ (by assumption) ?_
          rotate_left
          · (intro w hSw; (try dsimp only at hSw); go_simp; (try with_reducible rfl))
          (try simp only [Act.put, List.setIfInBounds_toArray, List.set_cons_zero, List.set_cons_succ])
          refine' take_val (i := 9) (d := 81) (v := _) rfl rfl (by kernel_rfl) (by kernel_rfl) (by kernel_rfl) (fun _ _ _ h => h) (by rfl) ?_ (by assumption) ?_
          rotate_left
          · (intro w hSw; (try dsimp only at hSw); go_simp; (try with_reducible rfl))
          (try simp only [Act.put, List.setIfInBounds_toArray, List.set_cons_zero, List.set_cons_succ])
          refine' take_val (i := 10) (d := 82) (v := _) rfl rfl (by kernel_rfl) (by kernel_rfl) (by kernel_rfl) (fun _ _ _ h => h) (by rfl) ?_ (by assumption) ?_
          rotate_left
          · (intro w hSw; (try dsimp only at hSw); go_simp; (try with_reducible rfl))
          (try simp only [Act.put, List.setIfInBounds_toArray, List.set_cons_zero, List.set_cons_succ])
          refine' take_val (i := 11) (d := 83) (v := _) rfl rfl (by kernel_rfl) (by kernel_rfl) (by kernel_rfl) (fun _ _ _ h => h) (by rfl) ?_ (by assumption) ?_
          rotate_left
          · (intro w hSw; (try dsimp only at hSw); go_simp; (try with_reducible rfl))
          (try simp only [Act.put, List.setIfInBounds_toArray, List.set_cons_zero, List.set_cons_succ])
          refine wpAnyH_ready (rs := [12]) (by kernel_rfl) (by simp) ?_
          refine AllReadyH.cons rfl (fun K hK => ?_) AllReadyH.nil
          rw [← HWD.out]
          go_simp
          go_wp2_with fail
          have hx := bel1' wd (.cells #[.slice P1 mm d1] 22)
          have HP6 := Lib.hid (HPd.out.below hx)
          have KN := Lib.hid (World.alloc_heap_new wd (.cells #[.slice P1 mm d1] 22))
          clear hx hHeld
          refine hK.out _ _ (KC.out _ (nx HP6.out.bw HP6.out.b1)) (fun hHeld => ?_)
          clear hK K
          (try simp only [Act.put, List.getElem_toArray, List.getElem_cons_succ, List.getElem_cons_zero, List.setIfInBounds_toArray, List.set_cons_zero, List.set_cons_succ])
          (try simp only [Act.put, List.setIfInBounds_toArray, List.set_cons_zero, List.set_cons_succ])
          refine wpAnyH_ready (rs := [13]) (by kernel_rfl) (by simp) ?_
          refine AllReadyH.cons rfl (fun K hK => ?_) AllReadyH.nil
          obtain ⟨w6, hW⟩ : ∃ W, W = wd.alloc (.cells #[.slice P1 mm d1] 22) := ⟨_, rfl⟩
          obtain ⟨gb, hgb⟩ : ∃ g, g = wd.heap.size := ⟨_, rfl⟩
          change if _ then Oper.wp _ _ _ (wd.alloc (.cells #[.slice P1 mm d1] 22)) _ _ else _
          rw [← hW] at HP6 KN ⊢
          rw [← hgb] at KN ⊢
          clear hW hgb hHeld
          rw [if_pos (by kernel_rfl)]
          refine wp_append_el3 (O := blW w) (.tmp 72) (.tmp 84) 28 _ _ rfl Try.underlying28 infoBl rfl (by decide) w1.heap.size (.slice A9 i c9) (F.map (·.2)) xb _ rfl HP6.out.o9 ⟨_, _, _, rfl, HC.out⟩ _ rfl _ KN.out (by rw [List.length_map]; omega) HP6.out.b1.size ?_
          intro v7' w7 ho5 hg5 hv5
          obtain ⟨A9', c9', ev⟩ := ho5.len
          rw [List.length_append, List.length_map, hfn] at ev
          simp only [List.length_cons, List.length_nil, Nat.zero_add] at ev
          subst ev
          have HP7 := Lib.hid (HP6.out.app9 ho5 hg5)
          clear ho5 hg5 hv5 HP6 KN
          refine hK.out _ _ (KC.out _ (nx HP7.out.bw HP7.out.b1)) (fun hHeld => ?_)
          clear hK K
          (try simp only [Act.put, List.getElem_toArray, List.getElem_cons_succ, List.getElem_cons_zero, List.setIfInBounds_toArray, List.set_cons_zero, List.set_cons_succ])
          (try simp only [Act.put, List.setIfInBounds_toArray, List.set_cons_zero, List.set_cons_succ])
          refine' take_val (i := 14) (d := 9) (v := _) rfl rfl (by kernel_rfl) (by kernel_rfl) (by kernel_rfl) (fun _ _ _ h => h) (by rfl) ?_ (by assumption) ?_
          rotate_left
          · (intro w hSw; (try dsimp only at hSw); go_simp; (try with_reducible rfl))
          (try simp only [Act.put, List.setIfInBounds_toArray, List.set_cons_zero, List.set_cons_succ])
          refine wpAnyH_done (by kernel_rfl) ?_ _

          clear hHeld HWD HPd HP5
          have hx := bel1' w7 (.cells #[.int .i64 (n7' : Int)] 3)
          have HP8 := Lib.hid (HP7.out.below hx)
          have KN := Lib.hid (World.alloc_heap_new w7 (.cells #[.int .i64 (n7' : Int)] 3))
          go_wp2_with (at_builtin; refine append_el3 (O := inO) rfl _ _ 27 _ _ rfl Try.underlying27 infoIn rfl (by decide) w1.heap.size (.slice A10 (i + 1) c10) (endsF F) (n7' : Int) _ rfl HP8.out.o10 rfl _ rfl _ KN.out (by rw [endsF_len]; omega) HP8.out.b1.size ?_; intro v5 w8 ho5 hg5 hv5; refine hold3 ?_)
          obtain ⟨A10', c10', ev⟩ := ho5.len
          rw [List.length_append, endsF_len, hfn] at ev
          simp only [List.length_cons, List.length_nil, Nat.zero_add] at ev
          subst ev
          have HP9 := Lib.hid (HP8.out.app10 ho5 hg5 hv5)
          clear ho5 hg5 hv5 HP7 HP8 KN hx
          refine Lib.hid ?_
          go_wp2_with fail
          refine ⟨⟨F ++ [(kk, xb)], i + 1, by omega, by omega, by go_num, Lib.hid ?_, HFN⟩, by simp [intOf]; omega⟩
          have h9 := HP9.out
          rw [HN7.out, ← endsF_snoc, ← flatF_snoc F (kk, xb)] at h9
          have e8 : (F ++ [((kk : Nat), xb)]).map (fun f : Nat × List Nat => (f.1 : Int)) = F.map (fun f => (f.1 : Int)) ++ [(kk : Int)] := by simp
          have e9 : (F ++ [((kk : Nat), xb)]).map (fun f : Nat × List Nat => f.2) = F.map (·.2) ++ [xb] := by simp
          rw [e8, e9, HN7.out]
          exact h9
        · have hki : ¬ (i : Int) < (ks.length : Int) := by omega
          go_upto_region 13 with (fail)
          have hx := (bel0 wr).drew
          have HPd := Lib.hid (HP.out.below hx)
          have KC := Lib.hid (fun (X : World) (h : Below w.heap.size w X) => (h.cell (p := ⟨g1, o1 + i, none⟩) (World.block_lt_of_cell? _ _ E0.out)).trans E0.out)
          have PKC := Lib.hid (fun (X : World) (h : Below w.heap.size w X) => pack_any 0 P1 mm d1 xb X (HC.out.below h))
          have HPG := Lib.hid (show Par.pk 0 xb = (Par.frame 0 xb, 0) from pk_good (k := 0) (b := xb) (show 0 ≤ 127 by omega) (by have := HXL.out; omega))
          have HFR := Lib.hid (frame_len 0 xb (show 0 ≤ 127 by omega) (by have := HXL.out; omega))
          have HFN := Lib.hid (HF.out.snoc (k := 0) (b := xb) (show 0 ≤ 127 by omega) (by have := HXL.out; omega) HC.out.byt)
          have HPB := Lib.hid (pk_ok (kind := 0) HC.out.byt)
          clear hx
          obtain ⟨wd, hwd⟩ : ∃ W, W = wr.drew := ⟨_, rfl⟩
          rw [← hwd] at HPd
          have HWD := Lib.hid hwd
          clear hwd
          refine wp_region_held_drew (S := (fun w' => w'.cell? ⟨g1, o1 + i, none⟩ = some (.slice P1 x.length d1))) (by kernel_rfl) (by rw [← HWD.out]; exact KC.out _ (nx HPd.out.bw HPd.out.b1)) (fun hHeld => ?_)
          refine' take_val (i := 0) (d := 48) (v := _) rfl rfl (by kernel_rfl) (by kernel_rfl) (by kernel_rfl) (fun _ _ _ h => h) (by rfl) ?_ (by assumption) ?_
          rotate_left
          · (intro w hSw; (try dsimp only at hSw); go_simp; (try with_reducible rfl))
          (try simp only [Act.put, List.setIfInBounds_toArray, List.set_cons_zero, List.set_cons_succ])
          refine' take_val (i := 1) (d := 49) (v := _) rfl rfl (by kernel_rfl) (by kernel_rfl) (by kernel_rfl) (fun _ _ _ h => h) (by rfl) ?_ (by assumption) ?_
          rotate_left
          · (intro w hSw; (try dsimp only at hSw); go_simp; (try with_reducible rfl))
          (try simp only [Act.put, List.setIfInBounds_toArray, List.set_cons_zero, List.set_cons_succ])
          refine' take_val (i := 2) (d := 50) (v := _) rfl rfl (by kernel_rfl) (by kernel_rfl) (by kernel_rfl) (fun _ _ _ h => h) (by rfl) ?_ (by assumption) ?_
          rotate_left
          · (intro w hSw; (try dsimp only at hSw); go_simp; (try with_reducible rfl))
          (try simp only [Act.put, List.setIfInBounds_toArray, List.set_cons_zero, List.set_cons_succ])
          refine' take_val (i := 3) (d := 51) (v := _) rfl rfl (by kernel_rfl) (by kernel_rfl) (by kernel_rfl) (fun _ _ _ h => h) (by rfl) ?_ (by assumption) ?_
          rotate_left
          · (intro w hSw; (try dsimp only at hSw); go_simp; (try with_reducible rfl))
          (try simp only [Act.put, List.setIfInBounds_toArray, List.set_cons_zero, List.set_cons_succ])
          refine' take_val (i := 4) (d := 52) (v := _) rfl rfl (by kernel_rfl) (by kernel_rfl) (by kernel_rfl) (fun _ _ _ h => h) (by rfl) ?_ (by assumption) ?_
          rotate_left
          · (intro w hSw; (try dsimp only at hSw); go_simp; (try with_reducible rfl))
          (try simp only [Act.put, List.setIfInBounds_toArray, List.set_cons_zero, List.set_cons_succ])
          refine' take_val (i := 5) (d := 53) (v := _) rfl rfl (by kernel_rfl) (by kernel_rfl) (by kernel_rfl) (fun _ _ _ h => h) (by rfl) ?_ (by assumption) ?_
          rotate_left
          · (intro w hSw; (try dsimp only at hSw); go_simp; (try with_reducible rfl))
          (try simp only [Act.put, List.setIfInBounds_toArray, List.set_cons_zero, List.set_cons_succ])
          refine' take_val (i := 6) (d := 54) (v := _) rfl rfl (by kernel_rfl) (by kernel_rfl) (by kernel_rfl) (fun _ _ _ h => h) (by rfl) ?_ (by assumption) ?_
          rotate_left
          · (intro w hSw; (try dsimp only at hSw); go_simp; (try with_reducible rfl))
          (try simp only [Act.put, List.setIfInBounds_toArray, List.set_cons_zero, List.set_cons_succ])
          refine' take_val (i := 7) (d := 55) (v := _) rfl rfl (by kernel_rfl) (by kernel_rfl) (by kernel_rfl) (fun _ _ _ h => h) (by rfl) ?_ (by assumption) ?_
          rotate_left
          · (intro w hSw; (try dsimp only at hSw); go_simp; (try with_reducible rfl))
          (try simp only [Act.put, List.setIfInBounds_toArray, List.set_cons_zero, List.set_cons_succ])
          refine' take_val (i := 8) (d := 56) (v := _) rfl rfl (by kernel_rfl) (by kernel_rfl) (by kernel_rfl) (fun _ _ _ h => h) (by rfl) ?_ (by assumption) ?_
          rotate_left
          · (intro w hSw; (try dsimp only at hSw); go_simp; (try with_reducible rfl))
          (try simp only [Act.put, List.setIfInBounds_toArray, List.set_cons_zero, List.set_cons_succ])
          refine' take_val (i := 9) (d := 57) (v := _) rfl rfl (by kernel_rfl) (by kernel_rfl) (by kernel_rfl) (fun _ _ _ h => h) (by rfl) ?_ (by assumption) ?_
          rotate_left
          · (intro w hSw; (try dsimp only at hSw); go_simp; (try with_reducible rfl))
          (try simp only [Act.put, List.setIfInBounds_toArray, List.set_cons_zero, List.set_cons_succ])
          refine' take_val (i := 10) (d := 58) (v := _) rfl rfl (by kernel_rfl) (by kernel_rfl) (by kernel_rfl) (fun _ _ _ h => h) (by rfl) ?_ (by assumption) ?_
          rotate_left
          · (intro w hSw; (try dsimp only at hSw); go_simp; (try with_reducible rfl))
          (try simp only [Act.put, List.setIfInBounds_toArray, List.set_cons_zero, List.set_cons_succ])
          refine' take_val (i := 11) (d := 59) (v := _) rfl rfl (by kernel_rfl) (by kernel_rfl) (by kernel_rfl) (fun _ _ _ h => h) (by rfl) ?_ (by assumption) ?_
          rotate_left
          · (intro w hSw; (try dsimp only at hSw); go_simp; (try with_reducible rfl))
          (try simp only [Act.put, List.setIfInBounds_toArray, List.set_cons_zero, List.set_cons_succ])
          refine wpAnyH_ready (rs := [12]) (by kernel_rfl) (by simp) ?_
          refine AllReadyH.cons rfl (fun K hK => ?_) AllReadyH.nil
          go_simp
          go_at_call 17
          rw [← HWD.out]
          skip
          refine (PKC.out _ (nx HPd.out.bw HPd.out.b1)).mono ?_
          rw [HPG.out]
          intro r w2 hh
          obtain ⟨A13, n13, c13, rfl, hB13, hb⟩ := hh.open (by have := HPB.out.1; rw [HPG.out] at this; exact this) (by have := HFR.out; have := HXL.out; simp only; omega)
          have B13 := Lib.hid hB13
          have HP2 := Lib.hid (HPd.out.below hb)
          clear hh hB13 hb hHeld
          go_wp2_with fail
          refine hK.out _ _ (KC.out _ (nx HP2.out.bw HP2.out.b1)) (fun hHeld => ?_)
          clear hK K
          (try simp only [Act.put, List.setIfInBounds_toArray, List.set_cons_zero, List.set_cons_succ])
          refine' take_val (i := 13) (d := 47) (v := _) rfl rfl (by kernel_rfl) (by kernel_rfl) (by kernel_rfl) (fun _ _ _ h => h) (by rfl) ?_ (by assumption) ?_
          rotate_left
          · (intro w hSw; (try dsimp only at hSw); go_simp; (try with_reducible rfl))
          (try simp only [Act.put, List.setIfInBounds_toArray, List.set_cons_zero, List.set_cons_succ])
          refine' take_val (i := 14) (d := 61) (v := _) rfl rfl (by kernel_rfl) (by kernel_rfl) (by kernel_rfl) (fun _ _ _ h => h) (by rfl) ?_ (by assumption) ?_
          rotate_left
          · (intro w hSw; (try dsimp only at hSw); go_simp; (try with_reducible rfl))
          (try simp only [Act.put, List.setIfInBounds_toArray, List.set_cons_zero, List.set_cons_succ])
          refine' take_val (i := 15) (d := 62) (v := _) rfl rfl (by kernel_rfl) (by kernel_rfl) (by kernel_rfl) (fun _ _ _ h => h) (by rfl) ?_ (by assumption) ?_
          rotate_left
          · (intro w hSw; (try dsimp only at hSw); go_simp; (try with_reducible rfl))
          (try simp only [Act.put, List.setIfInBounds_toArray, List.set_cons_zero, List.set_cons_succ])
          refine' take_val (i := 16) (d := 13) (v := _) rfl rfl (by kernel_rfl) (by kernel_rfl) (by kernel_rfl) (fun _ _ _ h => h) (by rfl) ?_ (by assumption) ?_
          rotate_left
          · (intro w hSw; (try dsimp only at hSw); go_simp; (try with_reducible rfl))
          (try simp only [Act.put, List.setIfInBounds_toArray, List.set_cons_zero, List.set_cons_succ])
          refine' take_val (i := 17) (d := 14) (v := _) rfl rfl (by kernel_rfl) (by kernel_rfl) (by kernel_rfl) (fun _ _ _ h => h) (by rfl) ?_ (by assumption) ?_
          rotate_left
          · (intro w hSw; (try dsimp only at hSw); go_simp; (try with_reducible rfl))
          (try simp only [Act.put, List.setIfInBounds_toArray, List.set_cons_zero, List.set_cons_succ])
          refine wpAnyH_done (by kernel_rfl) ?_ _

          clear hHeld PKC HPB HWD HPd
          have hb7 := HF.out.len
          have hfr := HFR.out
          have hxl := HXL.out
          go_wp2_with (at_builtin; refine append_bytes rfl (.tmp 65) (.tmp 66) rfl w1.heap.size (.slice A7 n7 c7) (flatF F) (Par.frame 0 xb) rfl HP2.out.o7 A13 n13 c13 rfl B13.out (by omega) HP2.out.b1.size ?_; intro v3 w3 ho hg hv3; refine hold3 ?_)
          have HP3 := Lib.hid (HP2.out.app7 ho hg)
          obtain ⟨A7', n7', c7', e7, hB7, _⟩ := ownsRow_bs ho (by have := HFN.out.byt; rw [flatF_snoc] at this; exact this) (by rw [List.length_append]; omega)
          subst e7
          have HN7 := Lib.hid (show n7' = (flatF (F ++ [(0, xb)])).length by rw [flatF_snoc]; exact hB7.len)
          have hn7 : n7' ≤ 100000 := by have h1 := HN7.out; have h2 := HFN.out.len; omega
          clear ho hg hv3 HP2 B13 hB7 hb7 hfr hxl
          have hx := bel1' w3 (.cells #[.int .i64 0] 3)
          have HP4 := Lib.hid (HP3.out.below hx)
          have KN := Lib.hid (World.alloc_heap_new w3 (.cells #[.int .i64 0] 3))
          refine Lib.hid ?_
          go_wp2_with (at_builtin; refine append_el3 (O := inO) rfl _ _ 27 _ _ rfl Try.underlying27 infoIn rfl (by decide) w1.heap.size (.slice A8 i c8) (F.map fun f => (f.1 : Int)) 0 _ rfl HP4.out.o8 rfl _ rfl _ KN.out (by rw [List.length_map]; omega) HP4.out.b1.size ?_; intro v5 w5 ho5 hg5 hv5; refine hold3 ?_)
          obtain ⟨A8', c8', ev⟩ := ho5.len
          rw [List.length_append, List.length_map, hfn] at ev
          simp only [List.length_cons, List.length_nil, Nat.zero_add] at ev
          subst ev
          have HP5 := Lib.hid (HP4.out.app8 ho5 hg5 hv5)
          clear ho5 hg5 hv5 HP3 HP4 KN hx
          refine Lib.hid ?_
          go_upto_region 18 with (fail)
          have hx := (bel0 w5).drew
          have HPd := Lib.hid (HP5.out.below hx)
          clear hx
          obtain ⟨wd, hwd⟩ : ∃ W, W = w5.drew := ⟨_, rfl⟩
          rw [← hwd] at HPd
          have HWD := Lib.hid hwd
          clear hwd
          refine wp_region_held_drew (S := (fun w' => w'.cell? ⟨g1, o1 + i, none⟩ = some (.slice P1 x.length d1))) (by kernel_rfl) (by rw [← HWD.out]; exact KC.out _ (nx HPd.out.bw HPd.out.b1)) (fun hHeld => ?_)
          refine' take_val (i := 0) (d := 72) (v := _) rfl rfl (by kernel_rfl) (by kernel_rfl) (by kernel_rfl) (fun _ _ _ h => h) (by rfl) ?_ (by assumption) ?_
          rotate_left
          · (intro w hSw; (try dsimp only at hSw); go_simp; (try with_reducible rfl))
          (try simp only [Act.put, List.setIfInBounds_toArray, List.set_cons_zero, List.set_cons_succ])
          refine' take_val (i := 1) (d := 73) (v := _) rfl rfl (by kernel_rfl) (by kernel_rfl) (by kernel_rfl) (fun _ _ _ h => h) (by rfl) ?_ (by assumption) ?_
          rotate_left
          · (intro w hSw; (try dsimp only at hSw); go_simp; (try with_reducible rfl))
          (try simp only [Act.put, List.setIfInBounds_toArray, List.set_cons_zero, List.set_cons_succ])
          refine' take_val (i := 2) (d := 74) (v := _) rfl rfl (by kernel_rfl) (by kernel_rfl) (by kernel_rfl) (fun _ _ _ h => h) (by rfl) ?_ (by assumption) ?_
          rotate_left
          · (intro w hSw; (try dsimp only at hSw); go_simp; (try with_reducible rfl))
          (try simp only [Act.put, List.setIfInBounds_toArray, List.set_cons_zero, List.set_cons_succ])
          refine' take_val (i := 3) (d := 75) (v := _) rfl rfl (by kernel_rfl) (by kernel_rfl) (by kernel_rfl) (fun _ _ _ h => h) (by rfl) ?_ (by assumption) ?_
          rotate_left
          · (intro w hSw; (try dsimp only at hSw); go_simp; (try with_reducible rfl))
          (try simp only [Act.put, List.setIfInBounds_toArray, List.set_cons_zero, List.set_cons_succ])
          refine' take_val (i := 4) (d := 76) (v := _) rfl rfl (by kernel_rfl) (by kernel_rfl) (by kernel_rfl) (fun _ _ _ h => h) (by rfl) ?_ (by assumption) ?_
          rotate_left
          · (intro w hSw; (try dsimp only at hSw); go_simp; (try with_reducible rfl))
          (try simp only [Act.put, List.setIfInBounds_toArray, List.set_cons_zero, List.set_cons_succ])
          refine' take_val (i := 5) (d := 77) (v := _) rfl rfl (by kernel_rfl) (by kernel_rfl) (by kernel_rfl) (fun _ _ _ h => h) (by rfl) ?_ (by assumption) ?_
          rotate_left
          · (intro w hSw; (try dsimp only at hSw); go_simp; (try with_reducible rfl))
          (try simp only [Act.put, List.setIfInBounds_toArray, List.set_cons_zero, List.set_cons_succ])
          refine' take_val (i := 6) (d := 78) (v := _) rfl rfl (by kernel_rfl) (by kernel_rfl) (by kernel_rfl) (fun _ _ _ h => h) (by rfl) ?_ (by assumption) ?_
          rotate_left
          · (intro w hSw; (try dsimp only at hSw); go_simp; (try with_reducible rfl))
          (try simp only [Act.put, List.setIfInBounds_toArray, List.set_cons_zero, List.set_cons_succ])
          refine' take_val (i := 7) (d := 79) (v := _) rfl rfl (by kernel_rfl) (by kernel_rfl) (by kernel_rfl) (fun _ _ _ h => h) (by rfl) ?_ (by assumption) ?_
          rotate_left
          · (intro w hSw; (try dsimp only at hSw); go_simp; (try with_reducible rfl))
          (try simp only [Act.put, List.setIfInBounds_toArray, List.set_cons_zero, List.set_cons_succ])
          refine' take_val (i := 8) (d := 80) (v := _) rfl rfl (by kernel_rfl) (by kernel_rfl) (by kernel_rfl) (fun _ _ _ h => h) (by rfl) ?_ (by assumption) ?_
          rotate_left
          · (intro w hSw; (try dsimp only at hSw); go_simp; (try with_reducible rfl))
          (try simp only [Act.put, List.setIfInBounds_toArray, List.set_cons_zero, List.set_cons_succ])
          refine' take_val (i := 9) (d := 81) (v := _) rfl rfl (by kernel_rfl) (by kernel_rfl) (by kernel_rfl) (fun _ _ _ h => h) (by rfl) ?_ (by assumption) ?_
          rotate_left
          · (intro w hSw; (try dsimp only at hSw); go_simp; (try with_reducible rfl))
          (try simp only [Act.put, List.setIfInBounds_toArray, List.set_cons_zero, List.set_cons_succ])
          refine' take_val (i := 10) (d := 82) (v := _) rfl rfl (by kernel_rfl) (by kernel_rfl) (by kernel_rfl) (fun _ _ _ h => h) (by rfl) ?_ (by assumption) ?_
          rotate_left
          · (intro w hSw; (try dsimp only at hSw); go_simp; (try with_reducible rfl))
          (try simp only [Act.put, List.setIfInBounds_toArray, List.set_cons_zero, List.set_cons_succ])
          refine' take_val (i := 11) (d := 83) (v := _) rfl rfl (by kernel_rfl) (by kernel_rfl) (by kernel_rfl) (fun _ _ _ h => h) (by rfl) ?_ (by assumption) ?_
          rotate_left
          · (intro w hSw; (try dsimp only at hSw); go_simp; (try with_reducible rfl))
          (try simp only [Act.put, List.setIfInBounds_toArray, List.set_cons_zero, List.set_cons_succ])
          refine wpAnyH_ready (rs := [12]) (by kernel_rfl) (by simp) ?_
          refine AllReadyH.cons rfl (fun K hK => ?_) AllReadyH.nil
          rw [← HWD.out]
          go_simp
          go_wp2_with fail
          have hx := bel1' wd (.cells #[.slice P1 mm d1] 22)
          have HP6 := Lib.hid (HPd.out.below hx)
          have KN := Lib.hid (World.alloc_heap_new wd (.cells #[.slice P1 mm d1] 22))
          clear hx hHeld
          refine hK.out _ _ (KC.out _ (nx HP6.out.bw HP6.out.b1)) (fun hHeld => ?_)
          clear hK K
          (try simp only [Act.put, List.getElem_toArray, List.getElem_cons_succ, List.getElem_cons_zero, List.setIfInBounds_toArray, List.set_cons_zero, List.set_cons_succ])
          (try simp only [Act.put, List.setIfInBounds_toArray, List.set_cons_zero, List.set_cons_succ])
          refine wpAnyH_ready (rs := [13]) (by kernel_rfl) (by simp) ?_
          refine AllReadyH.cons rfl (fun K hK => ?_) AllReadyH.nil
          obtain ⟨w6, hW⟩ : ∃ W, W = wd.alloc (.cells #[.slice P1 mm d1] 22) := ⟨_, rfl⟩
          obtain ⟨gb, hgb⟩ : ∃ g, g = wd.heap.size := ⟨_, rfl⟩
          change if _ then Oper.wp _ _ _ (wd.alloc (.cells #[.slice P1 mm d1] 22)) _ _ else _
          rw [← hW] at HP6 KN ⊢
          rw [← hgb] at KN ⊢
          clear hW hgb hHeld
          rw [if_pos (by kernel_rfl)]
          refine wp_append_el3 (O := blW w) (.tmp 72) (.tmp 84) 28 _ _ rfl Try.underlying28 infoBl rfl (by decide) w1.heap.size (.slice A9 i c9) (F.map (·.2)) xb _ rfl HP6.out.o9 ⟨_, _, _, rfl, HC.out⟩ _ rfl _ KN.out (by rw [List.length_map]; omega) HP6.out.b1.size ?_
          intro v7' w7 ho5 hg5 hv5
          obtain ⟨A9', c9', ev⟩ := ho5.len
          rw [List.length_append, List.length_map, hfn] at ev
          simp only [List.length_cons, List.length_nil, Nat.zero_add] at ev
          subst ev
          have HP7 := Lib.hid (HP6.out.app9 ho5 hg5)
          clear ho5 hg5 hv5 HP6 KN
          refine hK.out _ _ (KC.out _ (nx HP7.out.bw HP7.out.b1)) (fun hHeld => ?_)
          clear hK K
          (try simp only [Act.put, List.getElem_toArray, List.getElem_cons_succ, List.getElem_cons_zero, List.setIfInBounds_toArray, List.set_cons_zero, List.set_cons_succ])
          (try simp only [Act.put, List.setIfInBounds_toArray, List.set_cons_zero, List.set_cons_succ])
          refine' take_val (i := 14) (d := 9) (v := _) rfl rfl (by kernel_rfl) (by kernel_rfl) (by kernel_rfl) (fun _ _ _ h => h) (by rfl) ?_ (by assumption) ?_
          rotate_left
          · (intro w hSw; (try dsimp only at hSw); go_simp; (try with_reducible rfl))
          (try simp only [Act.put, List.setIfInBounds_toArray, List.set_cons_zero, List.set_cons_succ])
          refine wpAnyH_done (by kernel_rfl) ?_ _

          clear hHeld HWD HPd HP5
          have hx := bel1' w7 (.cells #[.int .i64 (n7' : Int)] 3)
          have HP8 := Lib.hid (HP7.out.below hx)
          have KN := Lib.hid (World.alloc_heap_new w7 (.cells #[.int .i64 (n7' : Int)] 3))
          go_wp2_with (at_builtin; refine append_el3 (O := inO) rfl _ _ 27 _ _ rfl Try.underlying27 infoIn rfl (by decide) w1.heap.size (.slice A10 (i + 1) c10) (endsF F) (n7' : Int) _ rfl HP8.out.o10 rfl _ rfl _ KN.out (by rw [endsF_len]; omega) HP8.out.b1.size ?_; intro v5 w8 ho5 hg5 hv5; refine hold3 ?_)
          obtain ⟨A10', c10', ev⟩ := ho5.len
          rw [List.length_append, endsF_len, hfn] at ev
          simp only [List.length_cons, List.length_nil, Nat.zero_add] at ev
          subst ev
          have HP9 := Lib.hid (HP8.out.app10 ho5 hg5 hv5)
          clear ho5 hg5 hv5 HP7 HP8 KN hx
          refine Lib.hid ?_
          go_wp2_with fail
          refine ⟨⟨F ++ [(0, xb)], i + 1, by omega, by omega, by go_num, Lib.hid ?_, HFN⟩, by simp [intOf]; omega⟩
          have h9 := HP9.out
          rw [HN7.out, ← endsF_snoc, ← flatF_snoc F (0, xb)] at h9
          have e8 : (F ++ [((0 : Nat), xb)]).map (fun f : Nat × List Nat => (f.1 : Int)) = F.map (fun f => (f.1 : Int)) ++ [0] := by simp
          have e9 : (F ++ [((0 : Nat), xb)]).map (fun f : Nat × List Nat => f.2) = F.map (·.2) ++ [xb] := by simp
          rw [e8, e9, HN7.out]
          exact h9
      · have hcond : (i : Int) < (l.length : Int) → ¬ (i : Int) < 20 := fun h1 h2 => hgo ⟨by omega, by omega⟩
        by_cases h1 : (i : Int) < (l.length : Int)
        · have h2 : ¬ (i : Int) < 20 := hcond h1
          clear hcond hgo
          go_wp2_with fail
          go_meet
          exact ⟨F, i, hi20, HP, HF⟩
        · clear hcond hgo
          go_wp2_with fail
          go_meet
          exact ⟨F, i, hi20, HP, HF⟩
  obtain ⟨F, i, hi20, HP, HF⟩ := hcut
  clear HP0
  have hfn := HF.out.n
  have hfl := HF.out.len
  obtain ⟨A8, c8, e8, I8⟩ := ino_il HP.out.o8 (by
    intro x hx
    obtain ⟨f, hf, rfl⟩ := List.mem_map.1 hx
    have := (HF.out.ok f hf).1
    unfold I64
    omega) (by simp; omega)
  obtain ⟨A9, c9, e9, I9⟩ := blw_el HP.out.o9 (nx HP.out.bw HP.out.b1) (by simp; omega)
  have hfit : ∀ j, (flatF (F.take j)).length ≤ 100000 := fun j => by
    have h1 : flatF F = flatF (F.take j) ++ flatF (F.drop j) := by rw [← flatF_app, List.take_append_drop]
    have h2 := congrArg List.length h1
    rw [List.length_append] at h2
    omega
  obtain ⟨A10, c10, e10, I10⟩ := ino_il HP.out.o10 (by
    intro x hx
    obtain ⟨j, hj, rfl⟩ := List.mem_map.1 hx
    have := hfit j
    unfold I64
    omega) (by rw [endsF_len]; omega)
  obtain ⟨A7, n7, c7, e7, I7, _⟩ := ownsRow_bs HP.out.o7 HF.out.byt (by omega)
  have hn7 := I7.len
  rw [List.length_map] at e8 e9 I8 I9
  rw [endsF_len] at e10 I10
  obtain ⟨b10, o10, eA10⟩ := I10.plain (by rw [endsF_len]; omega)
  subst e7 e8 e9 e10 hn7 eA10
  have J7 := Lib.hid I7
  have J8 := Lib.hid I8
  have J9 := Lib.hid I9
  have J10 := Lib.hid I10
  have hc7 := I7.le
  have hc8 := I8.le
  have hc9 := I9.le
  rw [List.length_map] at hc8 hc9
  have HWC := Lib.hid (nx HP.out.bw HP.out.b1)
  have HOK := Lib.hid HF.out.ok
  have HFIT := Lib.hid hfit
  clear I7 I8 I9 I10 HP HF hfit
  obtain ⟨at', hat, hat2⟩ := bring_nat3 ct ((flatF F).length + 1) (by omega)
  have HAT := Lib.hid hat
  clear hat
  obtain ⟨N7, hN7⟩ : ∃ n, n = (flatF F).length := ⟨_, rfl⟩
  have HN7 := Lib.hid hN7
  rw [← hN7] at J7 hc7 hfl hat2 ⊢
  clear hN7
  obtain ⟨NF, hNF⟩ : ∃ n, n = F.length := ⟨_, rfl⟩
  have HNF := Lib.hid hNF
  rw [← hNF] at J8 J9 J10 hc8 hc9 hfn ⊢
  clear hNF
  subst hfn
  as_aux_lemma =>
    go_wp2_with fail
    refine (bring_any ct ((N7 : Int) + 1) _ (by omega) (by omega) (by omega) (by omega)).mono ?_
    rintro r wz ⟨rfl, rfl⟩
    rw [show bring ct ((N7 : Int) + 1) = (at' : Int) by rw [HN7.out]; exact HAT.out]
    go_upto_block 2 with (fail)
    go_cut [16] (fun v16 wx => ∃ n : Nat, v16 = .int .i64 n ∧ n ≤ NF ∧ wx = wc ∧ Hid ((flatF (F.take n)).length ≤ at') ∧ Hid (∀ h : n < NF, at' < (flatF (F.take (n + 1))).length))
    case first =>
      go_wp2_with fail
      go_loopw [16] (fun v16 wr => ∃ n : Nat, v16 = .int .i64 n ∧ n ≤ NF ∧ wr = wc ∧ Hid ((flatF (F.take n)).length ≤ at')) (fun v16 _ => NF + 1 - (intOf v16).toNat)
      case atStart => exact ⟨0, rfl, Nat.zero_le _, rfl, Lib.hid (by simp [flatF])⟩
      case round =>
        obtain ⟨n, rfl, hn, rfl, HE⟩ := hrel
        by_cases h1 : n < NF
        · have h1i : (n : Int) + 1 < (NF : Int) + 1 := by omega
          have h1j : ((n + 1 : Nat) : Int) < ((NF + 1 : Nat) : Int) := by omega
          have hlt : n + 1 < (endsF F).length := by rw [endsF_len, ← HNF.out]; omega
          have hcB := J10.out.cells (bel0 _) hlt
          rw [endsF_at] at hcB
          have HFI := Lib.hid (HFIT.out (n + 1))
          obtain ⟨en, hen⟩ : ∃ m, m = (flatF (F.take (n + 1))).length := ⟨_, rfl⟩
          have HEN := Lib.hid hen
          rw [← hen] at hcB
          clear hen hlt
          by_cases h2 : en ≤ at'
          · have h2i : (en : Int) ≤ (at' : Int) := by omega
            go_wp2_with fail
            exact ⟨⟨n + 1, by go_num, by omega, by trivial, Lib.hid (by rw [← HEN.out]; exact h2)⟩, by simp [intOf]; omega⟩
          · have h2i : ¬ (en : Int) ≤ (at' : Int) := by omega
            go_wp2_with fail
            go_meet
            exact ⟨n, rfl, hn, rfl, HE, Lib.hid (fun _ => by rw [← HEN.out]; omega)⟩
        · have h1i : ¬ (n : Int) + 1 < (NF : Int) + 1 := by omega
          have h1j : ¬ ((n + 1 : Nat) : Int) < ((NF + 1 : Nat) : Int) := by omega
          go_wp2_with fail
          go_meet
          exact ⟨n, rfl, hn, rfl, HE, Lib.hid (fun h => absurd h h1)⟩
    obtain ⟨n, rfl, hn, rfl, HE1, HE2⟩ := hcut
    have hnl : (n : Int) ≤ (NF : Int) := by omega
    have AW := Lib.hid (alP_whole HOK.out)
    have AC := Lib.hid (alP_cut (n := n) (at' := at') HOK.out (by rw [← HNF.out]; exact hn) HE1.out (by rw [← HN7.out]; omega) (fun h => HE2.out (by rw [HNF.out]; exact h)))
    have hlt : n < (endsF F).length := by rw [endsF_len, ← HNF.out]; omega
    have hcB := J10.out.cells (bel0 _) hlt
    rw [endsF_at] at hcB
    have HB10 := Lib.hid hcB
    have J10e := J10
    have hatN : at' ≤ N7 := by omega
    have hatc : at' ≤ c7 := by omega
    have hati : (at' : Int) ≤ (c7 : Int) := by omega
    have JC := Lib.hid (J7.out.cutN (k := at') (by rw [← HN7.out]; exact hatN))
    have hs7 := fun W : World => slice_take (w := W) (A := A7) (n := N7) (c := c7) (k := at') hatc
    have hbF : ∀ G : List (Nat × List Nat), (∀ f ∈ G, f ∈ F) → Byt (flatF G) → True := fun _ _ _ => trivial
    have HBYT := Lib.hid J7.out.byt
    have HFB := Lib.hid (alP_ok J7.out.byt)
    rw [AW.out] at HFB
    have HFC := Lib.hid (alP_ok JC.out.byt)
    rw [AC.out] at HFC
    clear hcB hbF J10 HAT
    as_aux_lemma =>
      go_wp2_with fail
      refine (all_any J7.out (by rw [← HN7.out]; omega)).mono ?_
      rw [AW.out]
      intro r w2 hh
      obtain ⟨A17, c17, B17, d17, D17, k17, g17, rfl, hI, hE, hD, ho, hb⟩ := hh.open (by rw [← HNF.out]; omega) HFB.out.2.1 (by intro x hx; cases hx) (by simp)
      obtain rfl := hD.len
      have I17 := Lib.hid hI
      have E17 := Lib.hid hE
      have HW2 := Lib.hid (nx HWC.out hb)
      have K2 := Lib.hid hb
      rw [← HNF.out] at I17 E17 ⊢
      clear hh hI hE hD ho hb
      go_wp2_with fail
      refine (all_any (JC.out.below K2.out) (by rw [List.length_take, ← HN7.out]; omega)).mono ?_
      rw [AC.out]
      intro r w3 hh
      obtain ⟨A21, c21, B21, d21, D21, k21, g21, rfl, hI, hE, hD, ho, hb⟩ := hh.open (by rw [List.length_take, ← HNF.out]; omega) HFC.out.2.1 HFC.out.2.2.1 (by have := HFC.out.2.2.2; rw [List.length_take] at this; omega)
      have hlt2 : (F.take n).length = n := by rw [List.length_take, ← HNF.out]; omega
      rw [hlt2] at hI hE ⊢
      clear hlt2
      have I21 := Lib.hid hI
      have E21 := Lib.hid hE
      have D21' := Lib.hid hD
      have K3 := Lib.hid (nx K2.out hb)
      have I17' := Lib.hid (I17.out.below hb)
      have E17' := Lib.hid (E17.out.below hb)
      have HW3 := Lib.hid (nx HW2.out hb)
      have e3 := ((nx K2.out hb).cell (p := ⟨b10, o10 + n, none⟩) (World.block_lt_of_cell? _ _ HB10.out)).trans HB10.out
      have HE3 := Lib.hid e3
      clear hh hI hE hD ho hb I17 E17 HW2 K2 e3
      go_wp2_with fail
      with_reducible refine (eqInts_any A17 A8 NF c17 NF c8 _ _ _ I17'.out (J8.out.below K3.out)).mono ?_
      rintro r w4 ⟨rfl, hb4⟩
      rw [decide_eq_true rfl]
      go_wp2_with fail
      with_reducible refine (sameList_any (E17'.out.below hb4) (J9.out.below (nx K3.out hb4))).mono ?_
      rintro r w5 ⟨rfl, hb5⟩
      rw [decide_eq_true rfl]
      have K5 := Lib.hid (nx (nx K3.out hb4) hb5)
      have L5 := Lib.hid (nx hb4 hb5)
      have hn8 : n ≤ c8 := by omega
      have hn9 : n ≤ c9 := by omega
      have hn8i : (n : Int) ≤ (c8 : Int) := by omega
      have hn9i : (n : Int) ≤ (c9 : Int) := by omega
      have hs8 := fun W : World => slice_takeI3 (w := W) (A := A8) (n := NF) (c := c8) (k := n) hn8
      have hs9 := fun W : World => slice_takeL3 (w := W) (A := A9) (n := NF) (c := c9) (k := n) hn9
      clear hb4 hb5 I17' E17'
      go_wp2_with fail
      with_reducible refine (eqInts_any A21 A8 n c21 n c8 ((F.take n).map fun f => (f.1 : Int)) ((F.map fun f => (f.1 : Int)).take n) _ (I21.out.below L5.out) ((J8.out.cut3 (m := n) (by rw [List.length_map, ← HNF.out]; exact hn)).below K5.out)).mono ?_
      rintro r w6 ⟨rfl, hb6⟩
      rw [decide_eq_true (by rw [List.map_take])]
      have K6 := Lib.hid (nx K5.out hb6)
      have L6 := Lib.hid (nx L5.out hb6)
      clear hb6 K5 L5 hs8
      go_wp2_with fail
      with_reducible refine (sameList_any (l := (F.take n).map (·.2)) (m := (F.map (·.2)).take n) (E21.out.below L6.out) ((J9.out.cut (m := n) (by rw [List.length_map, ← HNF.out]; exact hn)).below K6.out)).mono ?_
      rintro r w7 ⟨rfl, hb7⟩
      rw [decide_eq_true (by rw [List.map_take])]
      have K7 := Lib.hid (nx K6.out hb7)
      have L7 := Lib.hid (nx L6.out hb7)
      have e7 := (L7.out.cell (p := ⟨b10, o10 + n, none⟩) (World.block_lt_of_cell? _ _ HE3.out)).trans HE3.out
      obtain ⟨en, hen⟩ : ∃ m, m = (flatF (F.take n)).length := ⟨_, rfl⟩
      have HEN := Lib.hid hen
      rw [← hen] at e7
      have hea : en ≤ at' := by rw [hen]; exact HE1.out
      have heai : (en : Int) ≤ (at' : Int) := by omega
      have hni : (n : Int) < (NF : Int) + 1 := by omega
      have hnj : (n : Int) < ((NF + 1 : Nat) : Int) := by omega
      have hs10 := fun W : World => slice_mid (w := W) (A := A7) (n := N7) (c := c7) (i := en) (j := at') hea hatc
      have BM := Lib.hid (J7.out.mid (i := en) (j := at') hea (by rw [← HN7.out]; exact hatN))
      have HEQ := Lib.hid (show ((flatF F).take at').drop en = ((flatF F).drop en).take (at' - en) from by rw [List.drop_take])
      clear hb7 K6 L6 hs9 hen
      generalize dropA A7 c7 en = DD at *
      generalize c7 - en = dd at *
      go_wp2_with fail
      with_reducible refine (eqBytes_any D21 DD k21 g21 (at' - en) dd _ _ _ (D21'.out.below L7.out) (BM.out.below K7.out)).mono ?_
      rintro r w8 ⟨rfl, hb8⟩
      rw [decide_eq_true (by rw [← HEN.out]; exact HEQ.out)]
      have HW8 := Lib.hid (nx (nx HWC.out K7.out) hb8)
      clear hb8
      go_wp2_with fail
      go_ret
      exact ⟨rfl, HW8.out⟩
end Go.Proofs.Ytmnabhennibddaa
