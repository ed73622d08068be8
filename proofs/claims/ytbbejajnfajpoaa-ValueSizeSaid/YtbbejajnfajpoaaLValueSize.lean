/- The walk of the law ValueSize. No conditions. -/
import Derived.Test.YtbbejajnfajpoaaVW
import Derived.Test.YtbbejajnfajpoaaVSize
import Derived.Test.YtbbejajnfajpoaaRAttrs
import Derived.Test.YtbbejajnfajpoaaRowA
import Derived.Test.YtbbejajnfajpoaaShelfR
import Derived.Deep.DeepCutAuto
import Derived.Deep.CutBlock
set_option linter.unusedSimpArgs false
set_option linter.unusedVariables false
namespace Go.Proofs.Ytbbejajnfajpoaa
open Go.RowKit

theorem left_okS {lo g : Nat} {l : List Nat} {w : World} (n : Nat) (hn : n = l.length) (h : Rdr w lo g 0 l) :
    Calls Try.prog 28 #[.pointer (some ⟨g, 0, none⟩)] w fun r w' => r = .returned (.int .i64 (n : Int)) ∧ w = w' := by
  have := Left_any h
  rw [if_pos rfl] at this
  rw [hn]
  exact this
theorem at_keepS {W wr a : World} {A : Option Addr} {n c : Nat} {l : List Att} (h : AS W A n c l) (hw : Below W.heap.size W wr) {k g o : Nat} (hk : k < l.length) (hA : A = some ⟨g, o, none⟩) (hb : Below wr.heap.size wr a) :
    a.cell? ⟨g, o + k * 6, none⟩ = some (.string l[k].name) ∧ a.cell? ⟨g, o + k * 6 + 1, none⟩ = some (.int .i64 l[k].lab.l) ∧ a.cell? ⟨g, o + k * 6 + 2, none⟩ = some (.int .u32 (l[k].lab.p : Int)) ∧
      a.cell? ⟨g, o + k * 6 + 3, none⟩ = some (.int .i64 l[k].val.k) ∧ a.cell? ⟨g, o + k * 6 + 4, none⟩ = some (.int .i64 l[k].val.n) ∧ a.cell? ⟨g, o + k * 6 + 5, none⟩ = some (.string l[k].val.b) := by
  obtain ⟨g', o', e, hc⟩ := h.cellsAt (nx hw hb) hk
  rw [hA] at e
  cases e
  exact ⟨hc 0 _ rfl, hc 1 _ rfl, hc 2 _ rfl, hc 3 _ rfl, hc 4 _ rfl, hc 5 _ rfl⟩

set_option maxHeartbeats 32000000 in
set_option maxRecDepth 100000 in
theorem valueSize_walk (A : Option Addr) (c : Nat) (l : List Att) (by_ : Nat) (w : World) (hA : AS w A l.length c l) (hok : ∀ x ∈ l, AttOk x) (hby : by_ < 256) :
    Calls Try.prog 17 #[.slice A l.length c, .int .u8 (by_ : Int)] w fun e w' => e = .returned (.bool true) ∧ Below w.heap.size w w' := by
  have hlim := hA.lim
  have hle := hA.le
  have HPT := Lib.hid hA.pt
  have HOK := Lib.hid hok
  have D1 := Lib.hid (fun (w : World) (A : Option Addr) (n c : Nat) (h : AS w A n c l) => attrs_any h)
  have D2 := Lib.hid (fun (w : World) (A : Option Addr) (n c : Nat) (h : AS w A n c (l.map (rep by_))) => attrs_any h)
  have HL := Lib.hid hA
  clear hA hok
  obtain ⟨bn, hbn⟩ : ∃ n, n = l.length := ⟨_, rfl⟩
  rw [← hbn] at HL hlim hle ⊢
  have HBN := Lib.hid hbn
  clear hbn
  rcases may_cases l with hm | hm
  · have hat := asB_ok hm HPT.out
    have haq : atP l = (asB l, 0) := if_pos hm
    have har : atP (l.map (rep by_)) = (asB (l.map (rep by_)), 0) := if_pos ((rep_may by_ l).trans hm)
    have hlr := rep_asB (b := by_) hm
    have h8 : bn ≤ 8 := by rw [HBN.out]; exact (may_yes hm).1
    have hen : qAt l bn = (asB l).length := by rw [HBN.out]; exact (asB_len (may_yes hm).1).symm
    have hptr : ∀ a ∈ l.map (rep by_), a.lab.p < 4294967296 := fun a ha => by
      obtain ⟨x, hx, rfl⟩ := List.mem_map.1 ha
      rw [rep_lab]; exact HPT.out x hx
    have harb := asB_ok ((rep_may by_ l).trans hm) hptr
    rw [haq] at D1
    rw [har] at D2
    have HM := Lib.hid hm
    have HAT := Lib.hid hat
    have HARB := Lib.hid harb
    have HPTR := Lib.hid hptr
    have HLR := Lib.hid hlr
    have HEN := Lib.hid hen
    clear hm hat haq har hlr hen hptr harb
    go_enter Try.func17, Try.ntmps17
    go_wp2_with fail
    refine (works08_any _).mono ?_
    rintro r w1 ⟨rfl, hb1⟩
    go_wp2_with fail
    refine (D1.out _ _ _ _ (HL.out.below hb1)).mono ?_
    intro r w2 hh
    obtain ⟨AP, nP, cP, rfl, hB, hb2⟩ := hh.open HAT.out.1 (by have := HAT.out.2; omega)
    have HB := Lib.hid hB
    have HNP := Lib.hid hB.len
    have hbw := nx hb1 hb2
    clear hh hB hb1 hb2
    go_wp2_with fail
    go_loopw [7, 8, 9] (fun n v i wr => ∃ (vo : Value) (k : Nat), vo = v ∧ k ≤ bn ∧ i = .int .i64 k ∧ Hid (n = .int .i64 ((qAt l k : Nat) : Int)) ∧ Hid (wr.ownsRow w2.heap.size 75 6 vo ((l.take k).map (rep by_)).length (acs ((l.take k).map (rep by_)))) ∧ Below w2.heap.size w2 wr) (fun _ _ i _ => bn - (intOf i).toNat)
    case atStart => exact ⟨_, 0, rfl, Nat.zero_le _, rfl, Lib.hid rfl, Lib.hid (World.ownsRow_nil _ _ _ _), bel0 _⟩
    case round =>
      obtain ⟨vo, k, rfl, hk, rfl, hq, HO, hb⟩ := hrel
      by_cases hlt : k < bn
      · have hlt' : k < l.length := by rw [← HBN.out]; exact hlt
        obtain ⟨g0, o, hA, _⟩ := HL.out.cellsAt (nx hbw hb) hlt'
        have AK := Lib.hid (fun a (h : Below w2.heap.size w2 a) (hw : Below wr.heap.size wr a) => at_keepS (a := a) HL.out (nx hbw hb) hlt' hA hw)
        have hRN := raw_name HM.out hlt'
        obtain ⟨y1, y2, y3⟩ := chkA_yes (may_att HM.out hlt')
        have hnz := nm_size y1
        have hptk := HPT.out _ (List.getElem_mem hlt')
        have hvb2 : (vb l[k].val).2 = 0 := by unfold vb; rw [if_pos y3]
        have C1 := Lib.hid (bytesV_any l[k].val)
        rw [hvb2] at C1
        have hvb := vb_ok l[k].val
        have hlb := lb_ok l[k].lab hptk
        obtain ⟨m1, hn1, hn2⟩ := lb_two y2 hptk ((vb l[k].val).1 ++ ((l.drop (k + 1)).map ab).flatten)
        have hqs := (qAt_succ hlt').trans (congrArg (qAt l k + ·) (ab_len HM.out hlt'))
        have hqb : qAt l (k + 1) ≤ 1300 := by
          have h1 := HAT.out.2
          have h2 := abs_ok (l.take (k + 1)) (fun a ha => ⟨may_all HM.out a (List.mem_of_mem_take ha), HPT.out a (List.mem_of_mem_take ha)⟩)
          have h3 : (l.take (k + 1)).length ≤ 8 := by rw [List.length_take]; omega
          unfold qAt
          omega
        have hmp : (l.take (k + 1)).map (rep by_) = (l.take k).map (rep by_) ++ [rep by_ l[k]] := by rw [take_snoc l k hlt', List.map_append]; rfl
        have hrm : ((l.drop (k + 1)).map ab).flatten.length ≤ 1280 := by
          have h2 := abs_ok (l.drop (k + 1)) (fun a ha => ⟨may_all HM.out a (List.mem_of_mem_drop ha), HPT.out a (List.mem_of_mem_drop ha)⟩)
          have h3 : (l.drop (k + 1)).length ≤ 8 := by rw [List.length_drop]; have := HBN.out; omega
          omega
        have hlm : ((l.take k).map (rep by_)).length ≤ 8 := by rw [List.length_map, List.length_take]; omega
        obtain ⟨q, hqq⟩ : ∃ q, q = qAt l k := ⟨_, rfl⟩
        obtain ⟨q', hqq'⟩ : ∃ q, q = qAt l (k + 1) := ⟨_, rfl⟩
        rw [← hqq] at hq hRN hqs
        rw [← hqq'] at hqs hqb
        have HQ' := Lib.hid hqq'
        clear hqq hqq'
        obtain rfl := hq.out
        clear hq
        generalize ((l.drop (k + 1)).map ab).flatten = rest at *
        generalize (l.take k).map (rep by_) = lk at *
        generalize l[k] = at0 at *
        generalize (asB l).take (q + 1 + at0.name.size) = T at *
        obtain ⟨nm, ⟨ll, lp⟩, ⟨vk, vn, vbs⟩⟩ := at0
        simp only at AK hRN y1 y2 y3 hnz hptk hvb2 C1 hvb hlb hn1 hn2 hqs
        generalize (vb ⟨vk, vn, vbs⟩).1 = vbl at *
        generalize (lb ⟨ll, lp⟩).1 = lbl at *
        have hRN' : tk 0 ((q : Int) + 1 + (nm.size : Int)) (asB l) = (true, T, 0, lbl ++ (vbl ++ rest)) := by
          rw [← hRN]; congr 1
        obtain ⟨ML, hML⟩ : ∃ n, n = (lbl ++ (vbl ++ rest)).length := ⟨_, rfl⟩
        obtain ⟨MR, hMR⟩ : ∃ n, n = (vbl ++ rest).length := ⟨_, rfl⟩
        have hMLR : ML = lbl.length + MR := by rw [hML, hMR, List.length_append]
        have hMR2 : MR ≤ 1400 := by rw [hMR, List.length_append]; omega
        have RAW := Lib.hid (fun (w : World) (lo g : Nat) (h : Rdr w lo g 0 (asB l)) => (Raw_any ((q : Int) + 1 + (nm.size : Int)) h).mono (R' := fun r w' => RawR w w' r lo g (true, T, 0, lbl ++ (vbl ++ rest))) (fun e w' h2 => by rw [hRN'] at h2; exact h2))
        have LF1 := Lib.hid (fun (w : World) (lo g : Nat) (h : Rdr w lo g 0 (lbl ++ (vbl ++ rest))) => left_okS ML hML h)
        have LF2 := Lib.hid (fun (w : World) (lo g : Nat) (h : Rdr w lo g 0 (vbl ++ rest)) => left_okS MR hMR h)
        have U1 := Lib.hid (fun (w : World) (lo g : Nat) (h : Rdr w lo g 0 (lbl ++ (vbl ++ rest))) => (rdU_any h).mono (R' := fun r w' => IntR w w' r lo g (ll.toNat : Int) 0 m1) (fun e w' h2 => by rw [hn1] at h2; exact h2))
        have U2 := Lib.hid (fun (w : World) (lo g : Nat) (h : Rdr w lo g 0 m1) => (rdU_any h).mono (R' := fun r w' => IntR w w' r lo g (lp : Int) 0 (vbl ++ rest)) (fun e w' h2 => by rw [hn2] at h2; exact h2))
        have HVB := Lib.hid hvb
        have HQS : Hid (q' = q + (1 + nm.size + (lbl.length + vbl.length))) := Lib.hid hqs
        have hq1 : q ≤ 1300 := by omega
        have HMP := Lib.hid hmp
        have hlbl := hlb.2
        have hvbl := hvb.2
        have HY := Lib.hid (And.intro y1 (And.intro y2 y3))
        have HLP := Lib.hid hptk
        have HLRM := Lib.hid hMLR
        clear hRN hRN' y1 y2 y3 hvb2 hvb hlb hn1 hn2 hqs hmp hML hMR hlt' hptk hMLR
        subst hA
        have haa : (⟨g0, o, none⟩ : Addr).add (k * 6) = ⟨g0, o + k * 6, none⟩ := addr_add _ _ _
        unfold Val.v at C1
        simp only at C1
        have hsz0 := hb.size
        obtain ⟨d0, d1, d2, d3, d4, d5⟩ := AK.out wr hb (bel0 _)
        go_wp2_with fail
        refine (C1.out _).mono ?_
        intro r u1 hh
        obtain ⟨AV, nV, cV, rfl, hBV, hu1⟩ := hh.open HVB.out.1 (by omega)
        have HNV := Lib.hid hBV.len
        have HO1 := Lib.hid (ownsRow_below HO.out hu1)
        have hb1 := nx hb hu1
        have hr1 := hu1
        clear hh hBV d0 d1 d2 d3 d4 d5
        go_wp2_with fail
        refine (New_any AP nP cP (asB l) _ (HB.out.below hb1)).mono ?_
        rintro r u2 ⟨g, rfl, hr, hu2⟩
        have R2 := Lib.hid hr
        have hltg := hr.lt
        have hb2 := nx hb1 hu2
        have hr2 := nx hr1 hu2
        have hsz1 := hb1.size
        have HO2 := Lib.hid (ownsRow_below HO1.out hu2)
        have hszr := hr1.size
        clear hr hu2
        obtain ⟨d0, d1, d2, d3, d4, d5⟩ := AK.out u2 hb2 hr2
        go_wp2_with fail
        refine (RAW.out _ _ _ R2.out).mono ?_
        rintro r u3 ⟨vx, rfl, _, _, _, hr3, hg3⟩
        have R3 := Lib.hid hr3
        have hb3 := grown_bel hb2 hg3 (by omega)
        have hr3' := grown_bel hr2 hg3 (by omega)
        have HO3 := Lib.hid (own_grown HO2.out hg3 (fun j hj => by have := (HO.out.lt j hj).2; omega))
        clear hr3 hg3 d0 d1 d2 d3 d4 d5
        go_wp2_with fail
        refine (LF1.out _ _ _ R3.out).mono ?_
        rintro r u ⟨rfl, rfl⟩
        go_wp2_with fail
        refine (U1.out _ _ _ R3.out).mono ?_
        rintro r u4 ⟨rfl, hr4, hg4⟩
        have R4 := Lib.hid hr4
        have hb4 := grown_bel hb3 hg4 (by omega)
        have hr4' := grown_bel hr3' hg4 (by omega)
        have HO4 := Lib.hid (own_grown HO3.out hg4 (fun j hj => by have := (HO.out.lt j hj).2; omega))
        clear hr4 hg4
        go_wp2_with fail
        refine (U2.out _ _ _ R4.out).mono ?_
        rintro r u5 ⟨rfl, hr5, hg5⟩
        have R5 := Lib.hid hr5
        have hb5 := grown_bel hb4 hg5 (by omega)
        have hr5' := grown_bel hr4' hg5 (by omega)
        have HO5 := Lib.hid (own_grown HO4.out hg5 (fun j hj => by have := (HO.out.lt j hj).2; omega))
        clear hr5 hg5
        go_wp2_with fail
        refine (Err_any R5.out).mono ?_
        rintro r u ⟨rfl, rfl⟩
        have AK5 := Lib.hid (fun (a : World) (h : Below u5.heap.size u5 a) => And.intro h (AK.out a (nx hb5 h) (nx hr5' h)).1)
        have s1 : IntKind.i64.wrap ((q : Int) + 1) = (q : Int) + 1 := IntWalk.i64_in _ (by omega)
        have s2 : IntKind.i64.wrap ((q : Int) + 1 + (nm.size : Int)) = (q : Int) + 1 + (nm.size : Int) := IntWalk.i64_in _ (by omega)
        have s3 : IntKind.i64.wrap ((q : Int) + 1 + (nm.size : Int) + (ML : Int)) = (q : Int) + 1 + (nm.size : Int) + (ML : Int) := IntWalk.i64_in _ (by have := HLRM.out; omega)
        have s4 : IntKind.i64.wrap ((q : Int) + 1 + (nm.size : Int) + (ML : Int) - (MR : Int)) = (q : Int) + 1 + (nm.size : Int) + (ML : Int) - (MR : Int) := IntWalk.i64_in _ (by have := HLRM.out; omega)
        have s5 : IntKind.i64.wrap ((q : Int) + 1 + (nm.size : Int) + (ML : Int) - (MR : Int) + (nV : Int)) = (q : Int) + 1 + (nm.size : Int) + (ML : Int) - (MR : Int) + (nV : Int) := IntWalk.i64_in _ (by have := HLRM.out; have := HNV.out; omega)
        have k0 : (0 : Int) ≤ (k : Int) := by omega
        have k1 : (k : Int) < (bn : Int) := by omega
        go_wp2_with fail
        refine wp_region_held_drew (S := (fun w' => Below u5.heap.size u5 w' ∧ w'.cell? ⟨g0, o + k * 6, none⟩ = some (.string nm))) (by kernel_rfl) (AK5.out _ (bel0 _).drew) (fun hHeld => ?_)
        refine' take_val (i := 0) (d := 67) (v := _) rfl rfl (by kernel_rfl) (by kernel_rfl) (by kernel_rfl) (fun _ _ _ h => h) (by rfl) ?_ (by assumption) ?_
        rotate_left
        · (intro w hSw; (try dsimp only at hSw); go_simp; (try with_reducible rfl))
        (try simp only [Act.put, List.setIfInBounds_toArray, List.set_cons_zero, List.set_cons_succ])
        refine' take_val (i := 1) (d := 68) (v := _) rfl rfl (by kernel_rfl) (by kernel_rfl) (by kernel_rfl) (fun _ _ _ h => h) (by rfl) ?_ (by assumption) ?_
        rotate_left
        · (intro w hSw; (try dsimp only at hSw); go_simp; (try with_reducible rfl))
        (try simp only [Act.put, List.setIfInBounds_toArray, List.set_cons_zero, List.set_cons_succ])
        refine' take_val (i := 2) (d := 69) (v := _) rfl rfl (by kernel_rfl) (by kernel_rfl) (by kernel_rfl) (fun _ _ _ h => h) (by rfl) ?_ (by assumption) ?_
        rotate_left
        · (intro w hSw; (try dsimp only at hSw); go_simp; (try with_reducible rfl))
        (try simp only [Act.put, List.setIfInBounds_toArray, List.set_cons_zero, List.set_cons_succ])
        refine' take_val (i := 3) (d := 70) (v := _) rfl rfl (by kernel_rfl) (by kernel_rfl) (by kernel_rfl) (fun _ _ _ h => h) (by rfl) ?_ (by assumption) ?_
        rotate_left
        · (intro w hSw; (try dsimp only at hSw); go_simp; (try with_reducible rfl))
        (try simp only [Act.put, List.setIfInBounds_toArray, List.set_cons_zero, List.set_cons_succ])
        refine' take_val (i := 4) (d := 71) (v := _) rfl rfl (by kernel_rfl) (by kernel_rfl) (by kernel_rfl) (fun _ _ _ h => h) (by rfl) ?_ (by assumption) ?_
        rotate_left
        · (intro w hSw; (try dsimp only at hSw); go_simp; (try with_reducible rfl))
        (try simp only [Act.put, List.setIfInBounds_toArray, List.set_cons_zero, List.set_cons_succ])
        refine' take_val (i := 5) (d := 72) (v := _) rfl rfl (by kernel_rfl) (by kernel_rfl) (by kernel_rfl) (fun _ _ _ h => h) (by rfl) ?_ (by assumption) ?_
        rotate_left
        · (intro w hSw; (try dsimp only at hSw); go_simp; (try with_reducible rfl))
        (try simp only [Act.put, List.setIfInBounds_toArray, List.set_cons_zero, List.set_cons_succ])
        refine' take_val (i := 6) (d := 73) (v := _) rfl rfl (by kernel_rfl) (by kernel_rfl) (by kernel_rfl) (fun _ _ _ h => h) (by rfl) ?_ (by assumption) ?_
        rotate_left
        · (intro w hSw; (try dsimp only at hSw); go_simp; (try with_reducible rfl))
        (try simp only [Act.put, List.setIfInBounds_toArray, List.set_cons_zero, List.set_cons_succ])
        refine' take_val (i := 7) (d := 74) (v := _) rfl rfl (by kernel_rfl) (by kernel_rfl) (by kernel_rfl) (fun _ _ _ h => h) (by rfl) ?_ (by assumption) ?_
        rotate_left
        · (intro w hSw; (try dsimp only at hSw); go_simp; (try with_reducible rfl))
        (try simp only [Act.put, List.setIfInBounds_toArray, List.set_cons_zero, List.set_cons_succ])
        refine' take_val (i := 8) (d := 75) (v := _) rfl rfl (by kernel_rfl) (by kernel_rfl) (by kernel_rfl) (fun _ _ _ h => h) (by rfl) ?_ (by assumption) ?_
        rotate_left
        · (intro w hSw; (try dsimp only at hSw); go_simp; (try with_reducible rfl))
        (try simp only [Act.put, List.setIfInBounds_toArray, List.set_cons_zero, List.set_cons_succ])
        refine' take_val (i := 9) (d := 76) (v := _) rfl rfl (by kernel_rfl) (by kernel_rfl) (by kernel_rfl) (fun _ _ _ h => h) (by rfl) ?_ (by assumption) ?_
        rotate_left
        · (intro w hSw; (try dsimp only at hSw); go_simp; (try with_reducible rfl))
        (try simp only [Act.put, List.setIfInBounds_toArray, List.set_cons_zero, List.set_cons_succ])
        refine' take_val (i := 10) (d := 77) (v := _) rfl rfl (by kernel_rfl) (by kernel_rfl) (by kernel_rfl) (fun _ _ _ h => h) (by rfl) ?_ (by assumption) ?_
        rotate_left
        · (intro w hSw; (try dsimp only at hSw); go_simp; (try with_reducible rfl))
        (try simp only [Act.put, List.setIfInBounds_toArray, List.set_cons_zero, List.set_cons_succ])
        refine' take_val (i := 11) (d := 78) (v := _) rfl rfl (by kernel_rfl) (by kernel_rfl) (by kernel_rfl) (fun _ _ _ h => h) (by rfl) ?_ (by assumption) ?_
        rotate_left
        · (intro w hSw; (try dsimp only at hSw); go_simp; (try with_reducible rfl))
        (try simp only [Act.put, List.setIfInBounds_toArray, List.set_cons_zero, List.set_cons_succ])
        refine' take_val (i := 14) (d := 81) (v := _) rfl rfl (by kernel_rfl) (by kernel_rfl) (by kernel_rfl) (fun _ _ _ h => h) (by rfl) ?_ (by assumption) ?_
        rotate_left
        · (intro w hSw; (try dsimp only at hSw); go_simp; (try with_reducible rfl))
        (try simp only [Act.put, List.setIfInBounds_toArray, List.set_cons_zero, List.set_cons_succ])
        refine' take_val (i := 15) (d := 82) (v := _) rfl rfl (by kernel_rfl) (by kernel_rfl) (by kernel_rfl) (fun _ _ _ h => h) (by rfl) ?_ (by assumption) ?_
        rotate_left
        · (intro w hSw; (try dsimp only at hSw); go_simp; (try with_reducible rfl))
        (try simp only [Act.put, List.setIfInBounds_toArray, List.set_cons_zero, List.set_cons_succ])
        refine wpAnyH_ready (rs := [12]) (by kernel_rfl) (by simp) ?_
        refine AllReadyH.cons rfl (fun K hK => ?_) AllReadyH.nil
        go_simp
        go_at_call 28
        refine (LF2.out _ _ _ (R5.out.below (And.left (b := _) hHeld))).mono ?_
        rintro r wb ⟨rfl, rfl⟩
        go_wp2_with fail
        refine hK.out _ _ hHeld (fun hHeld => ?_)
        clear hK K
        (try simp only [Act.put, List.setIfInBounds_toArray, List.set_cons_zero, List.set_cons_succ])
        refine' take_val (i := 13) (d := 80) (v := _) rfl rfl (by kernel_rfl) (by kernel_rfl) (by kernel_rfl) (fun _ _ _ h => h) (by rfl) ?_ (by assumption) ?_
        rotate_left
        · (intro w hSw; (try dsimp only at hSw); go_simp; (try with_reducible rfl))
        (try simp only [Act.put, List.setIfInBounds_toArray, List.set_cons_zero, List.set_cons_succ])
        refine' take_val (i := 16) (d := 83) (v := _) rfl rfl (by kernel_rfl) (by kernel_rfl) (by kernel_rfl) (fun _ _ _ h => h) (by rfl) ?_ (by assumption) ?_
        rotate_left
        · (intro w hSw; (try dsimp only at hSw); go_simp; (try with_reducible rfl))
        (try simp only [Act.put, List.setIfInBounds_toArray, List.set_cons_zero, List.set_cons_succ])
        refine' take_val (i := 17) (d := 7) (v := _) rfl rfl (by kernel_rfl) (by kernel_rfl) (by kernel_rfl) (fun _ _ _ h => h) (by rfl) ?_ (by assumption) ?_
        rotate_left
        · (intro w hSw; (try dsimp only at hSw); go_simp; (try with_reducible rfl))
        (try simp only [Act.put, List.setIfInBounds_toArray, List.set_cons_zero, List.set_cons_succ])
        refine wpAnyH_done (by kernel_rfl) ?_ _
        have hb6 := nx hb5 (And.left (b := _) hHeld)
        have hr6 := nx hr5' (And.left (b := _) hHeld)
        have HO6 := Lib.hid (ownsRow_below HO5.out (And.left (b := _) hHeld))
        obtain ⟨d0, d1, d2, d3, d4, d5⟩ := AK.out _ hb6 hr6
        have hfin : (q : Int) + 1 + (nm.size : Int) + (ML : Int) - (MR : Int) + (nV : Int) = (q' : Int) := by have := HLRM.out; have := HNV.out; have := HQS.out; omega
        clear s1 s2 s3 s4 s5 hHeld AK5 HO1 HO2 HO3 HO4 hu1 hr1 hr2 hr3' hr4' hr5' hb1 hb2 hb3 hb4
        by_cases hk2 : vk = 2
        · subst hk2
          have hv64 : vbs.size ≤ 64 := by
            have h := HY.out.2.2
            rw [chk_2] at h
            split at h
            · rename_i h2; exact h2.2
            · simp at h
          have RP : Hid (∀ w, Calls Try.prog 61 #[.string (bs [by_]), .int .i64 (vbs.size : Int)] w fun e w' => e = .returned (.string (repB by_ vbs.size)) ∧ Below w.heap.size w w') :=
            Lib.hid (fun w => Try.strings_Repeat (bs [by_]) vbs.size w (by omega) (by rw [bs_size]; simp; omega))
          obtain ⟨rb, hrb⟩ : ∃ rb, rb = repB by_ vbs.size := ⟨_, rfl⟩
          rw [← hrb] at RP
          have HRB := Lib.hid hrb
          clear hrb
          have hcv : (convert 22 9 (.slice (some ⟨u5.heap.size + 1, 0, none⟩) 1 1)).run Try.prog (((u5.alloc (.cells #[.string nm, .int .i64 ll, .int .u32 (lp : Int), .int .i64 2, .int .i64 vn, .string vbs] 75)).alloc (.cells #[.int .u8 (by_ : Int)] 5)).drew) = .ok (.string (bs [by_])) (((u5.alloc (.cells #[.string nm, .int .i64 ll, .int .u32 (lp : Int), .int .i64 2, .int .i64 vn, .string vbs] 75)).alloc (.cells #[.int .u8 (by_ : Int)] 5)).drew) := by
            refine conv_back (l := [by_]) ?_
            have := BS.alloc (u5.alloc (.cells #[.string nm, .int .i64 ll, .int .u32 (lp : Int), .int .i64 2, .int .i64 vn, .string vbs] 75)) [by_] 5 (0, 0) (by intro x hx; simp at hx; omega) (by simp)
            rw [World.size_alloc] at this
            exact this.below (bel0 _).drew
          have BA6 : BA (((u5.alloc (.cells #[.string nm, .int .i64 ll, .int .u32 (lp : Int), .int .i64 2, .int .i64 vn, .string vbs] 75)).alloc (.cells #[.int .u8 (by_ : Int)] 5)).drew) u5.heap.size ⟨nm, ⟨ll, lp⟩, ⟨2, vn, vbs⟩⟩ := ((BA.new u5 ⟨nm, ⟨ll, lp⟩, ⟨2, vn, vbs⟩⟩).below ((bel0 _).alloc (Nat.le_refl _) _)).below (bel0 _).drew
          have HO6' := Lib.hid ((((HO5.out.alloc (.cells #[.string nm, .int .i64 ll, .int .u32 (lp : Int), .int .i64 2, .int .i64 vn, .string vbs] 75)).alloc (.cells #[.int .u8 (by_ : Int)] 5)).drew))
          have hb6' : Below w2.heap.size w2 (((u5.alloc (.cells #[.string nm, .int .i64 ll, .int .u32 (lp : Int), .int .i64 2, .int .i64 vn, .string vbs] 75)).alloc (.cells #[.int .u8 (by_ : Int)] 5)).drew) := ((hb5.alloc hb5.size _).alloc (by have := hb5.size; rw [World.size_alloc]; omega) _).drew
          obtain ⟨w6, hw6⟩ : ∃ W, W = (((u5.alloc (.cells #[.string nm, .int .i64 ll, .int .u32 (lp : Int), .int .i64 2, .int .i64 vn, .string vbs] 75)).alloc (.cells #[.int .u8 (by_ : Int)] 5)).drew) := ⟨_, rfl⟩
          rw [← hw6] at hcv BA6 HO6' hb6'
          have HBA6 := Lib.hid BA6
          have hz6 : u5.heap.size < w6.heap.size := (Array.getElem?_eq_some_iff.1 BA6).1
          clear BA6
          rw [hw6] at hcv
          go_wp2_with fail
          rw [← hw6]
          clear hcv hw6
          refine (RP.out _).mono ?_
          rintro r u7 ⟨rfl, hu7⟩
          have BA7 := HBA6.out.below hu7
          obtain ⟨e0, e1, e2, e3, e4, e5⟩ := BA7.cells
          have ef := frozen_of BA7 5
          have BA8 : BA (u7.setCell ⟨u5.heap.size, 5, none⟩ (.string rb)) u5.heap.size ⟨nm, ⟨ll, lp⟩, ⟨2, vn, rb⟩⟩ := heap_set BA7 5 _
          have hb8 : Below w2.heap.size w2 (u7.setCell ⟨u5.heap.size, 5, none⟩ (.string rb)) := (nx hb6' hu7).setCell hb5.size _
          have HO8 : (u7.setCell ⟨u5.heap.size, 5, none⟩ (.string rb)).ownsRow w2.heap.size 75 6 vo lk.length (acs lk) := own_far (ownsRow_below HO6'.out hu7) (grown_set u7 u5.heap.size 5 _) (fun j hj e => by cases e; have := (HO5.out.lt _ hj).2; omega)
          obtain ⟨w8, hw8⟩ : ∃ W, W = u7.setCell ⟨u5.heap.size, 5, none⟩ (.string rb) := ⟨_, rfl⟩
          rw [← hw8] at BA8 hb8 HO8
          have HBA8 := Lib.hid BA8
          have HO8' := Lib.hid HO8
          have HW8 := Lib.hid hw8
          clear BA8 HO8 BA7 hw8
          go_upto_region 23 with (fail)
          rw [← HW8.out]
          obtain ⟨f0, f1, f2, f3, f4, f5⟩ := HBA8.out.cells
          have HBA9 := Lib.hid (BA.new w8 ⟨nm, ⟨ll, lp⟩, ⟨2, vn, rb⟩⟩)
          have HO9 := Lib.hid (HO8'.out.alloc (.cells #[.string nm, .int .i64 ll, .int .u32 (lp : Int), .int .i64 2, .int .i64 vn, .string rb] 75))
          have hb9 : Below w2.heap.size w2 (w8.alloc (.cells #[.string nm, .int .i64 ll, .int .u32 (lp : Int), .int .i64 2, .int .i64 vn, .string rb] 75)) := hb8.alloc hb8.size _
          clear e0 e1 e2 e3 e4 e5 ef HW8
          go_wp2_with (at_builtin; refine append_att rfl (.tmp 102) (.tmp 104) rfl w2.heap.size vo lk ⟨nm, ⟨ll, lp⟩, ⟨2, vn, rb⟩⟩ rfl HO9.out w8.heap.size rfl HBA9.out (by omega) hb9.size ?_; intro v10 w10 ho10 hg10 hv10; have hb10 := grown_below hb9 hg10 (own_block HO9.out); have HO10 := Lib.hid ho10; clear ho10 hg10 hv10)
          refine ⟨⟨_, k + 1, rfl, by omega, by go_num, Lib.hid (by rw [← HQ'.out]), Lib.hid (by rw [HMP.out]; have := HO10.out; unfold rep; rw [if_pos rfl, ← HRB.out]; exact this), hb10⟩, by simp [intOf]; omega⟩
        · have hk2' : (vk == 2) = false := by simpa using hk2
          have hBA : BA (((u5.alloc (.cells #[.string nm, .int .i64 ll, .int .u32 (lp : Int), .int .i64 vk, .int .i64 vn, .string vbs] 75)).alloc (.cells #[.string nm, .int .i64 ll, .int .u32 (lp : Int), .int .i64 vk, .int .i64 vn, .string vbs] 75)).drew) (u5.heap.size + 1) ⟨nm, ⟨ll, lp⟩, ⟨vk, vn, vbs⟩⟩ := by
            have := BA.new (u5.alloc (.cells #[.string nm, .int .i64 ll, .int .u32 (lp : Int), .int .i64 vk, .int .i64 vn, .string vbs] 75)) ⟨nm, ⟨ll, lp⟩, ⟨vk, vn, vbs⟩⟩
            rw [World.size_alloc] at this
            exact this
          have HBA := Lib.hid hBA
          have HO7 := Lib.hid ((((HO5.out.alloc (.cells #[.string nm, .int .i64 ll, .int .u32 (lp : Int), .int .i64 vk, .int .i64 vn, .string vbs] 75)).alloc (.cells #[.string nm, .int .i64 ll, .int .u32 (lp : Int), .int .i64 vk, .int .i64 vn, .string vbs] 75)).drew))
          have hb7 : Below w2.heap.size w2 (((u5.alloc (.cells #[.string nm, .int .i64 ll, .int .u32 (lp : Int), .int .i64 vk, .int .i64 vn, .string vbs] 75)).alloc (.cells #[.string nm, .int .i64 ll, .int .u32 (lp : Int), .int .i64 vk, .int .i64 vn, .string vbs] 75)).drew) := ((hb5.alloc hb5.size _).alloc (by have := hb5.size; rw [World.size_alloc]; omega) _).drew
          clear hBA
          go_wp2_with (at_builtin; refine append_att rfl (.tmp 102) (.tmp 104) rfl w2.heap.size vo lk ⟨nm, ⟨ll, lp⟩, ⟨vk, vn, vbs⟩⟩ rfl HO7.out (u5.heap.size + 1) rfl HBA.out (by omega) hb7.size ?_; intro v8 w8 ho8 hg8 hv8; have hb8 := grown_below hb7 hg8 (own_block HO7.out); have HO8 := Lib.hid ho8; clear ho8 hg8 hv8)
          refine ⟨⟨_, k + 1, rfl, by omega, by go_num, Lib.hid (by rw [HQ'.out]), Lib.hid (by rw [HMP.out]; have := HO8.out; unfold rep; rw [if_neg hk2]; exact this), hb8⟩, by simp [intOf]; omega⟩
      · obtain rfl : k = bn := by omega
        rw [HBN.out, List.take_length] at HO
        obtain ⟨AM, nM, cM, rfl, hAM⟩ := own_as HO.out HPTR.out (by rw [List.length_map]; have := HBN.out; omega)
        have HAM := Lib.hid hAM
        have hqn : (qAt l k : Nat) = nP := by rw [HNP.out, HEN.out]
        rw [hqn] at hq
        obtain rfl := hq.out
        clear hAM hqn hq
        go_wp2_with fail
        refine (D2.out _ _ _ _ HAM.out).mono ?_
        intro r u1 hh
        obtain ⟨AR, nR, cR, rfl, hBR, hu1⟩ := hh.open HARB.out.1 (by have := HARB.out.2; omega)
        obtain rfl : nR = nP := by rw [hBR.len, HNP.out, HLR.out]
        go_wp2_with fail
        go_ret
        exact ⟨rfl, nx hbw (nx hb hu1)⟩
  · have haq : atP l = ([], 80) := if_neg (by rw [hm]; decide)
    rw [haq] at D1
    go_enter Try.func17, Try.ntmps17
    go_wp2_with fail
    refine (works08_any _).mono ?_
    rintro r w1 ⟨rfl, hb1⟩
    go_wp2_with fail
    refine (D1.out _ _ _ _ (HL.out.below hb1)).mono ?_
    intro r w2 hh
    obtain ⟨AP, nP, cP, rfl, hB, hb2⟩ := hh.open (by intro x hx; cases hx) (by simp)
    go_wp2_with fail
    go_ret
    exact ⟨rfl, nx hb1 hb2⟩
end Go.Proofs.Ytbbejajnfajpoaa
