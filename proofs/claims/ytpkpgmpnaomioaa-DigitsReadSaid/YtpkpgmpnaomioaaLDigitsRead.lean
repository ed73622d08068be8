/- The walk of the law DigitsRead. No conditions. -/
import Derived.Test.YtpkpgmpnaomioaaRfU
import Derived.Test.YtpkpgmpnaomioaaRdW
import Derived.Test.YtpkpgmpnaomioaaRow
import Derived.Deep.RegionHeld3
set_option linter.unusedSimpArgs false
set_option linter.unusedVariables false
namespace Go.Proofs.Ytpkpgmpnaomioaa
open Go.RowKit

/-- The two readers, and the bytes that were handed in. -/
structure Two (w wr : World) (lo1 g1 lo2 g2 : Nat) (e1 : Int) (l1 : List Nat) (e2 : Int) (l2 : List Nat) (A : Option Addr) (n c : Nat) (b : List Nat) : Prop where
  bel : Below w.heap.size w wr
  r : Rdr wr lo1 g1 e1 l1
  x : Rfr wr lo2 g2 e2 l2
  inn : BS wr A n c b
  o0 : w.heap.size ≤ lo1
  o1 : ∀ ad, A = some ad → ad.block < lo1
  o2 : g1 < lo2
theorem Two.stepR {w wr wr' : World} {lo1 g1 lo2 g2 : Nat} {e1 : Int} {l1 : List Nat} {e2 : Int} {l2 : List Nat} {A : Option Addr} {n c : Nat} {b : List Nat} (h : Two w wr lo1 g1 lo2 g2 e1 l1 e2 l2 A n c b) {e : Int} {l : List Nat} (hr : Rdr wr' lo1 g1 e l) (hg : wr.grownBy wr' (some g1)) : Two w wr' lo1 g1 lo2 g2 e l e2 l2 A n c b := by
  have h1 := h.r.lt
  have h2 := h.x.lt
  have h3 := h.o0
  have h4 := h.o1
  have h5 := h.o2
  exact ⟨grown_bel h.bel hg (by omega), hr, h.x.grown hg (fun k e => by cases e; omega), h.inn.grown hg (fun ad k e e2 => by cases e2; have := h4 ad e; omega), h3, h4, h5⟩
theorem Two.stepX {w wr wr' : World} {lo1 g1 lo2 g2 : Nat} {e1 : Int} {l1 : List Nat} {e2 : Int} {l2 : List Nat} {A : Option Addr} {n c : Nat} {b : List Nat} (h : Two w wr lo1 g1 lo2 g2 e1 l1 e2 l2 A n c b) {e : Int} {l : List Nat} (hr : Rfr wr' lo2 g2 e l) (hg : wr.grownBy wr' (some g2)) : Two w wr' lo1 g1 lo2 g2 e1 l1 e l A n c b := by
  have h1 := h.r.lt
  have h2 := h.x.lt
  have h3 := h.o0
  have h4 := h.o1
  have h5 := h.o2
  exact ⟨grown_bel h.bel hg (by omega), h.r.grown hg (fun k e => by cases e; omega), hr, h.inn.grown hg (fun ad k e e2 => by cases e2; have := h4 ad e; omega), h3, h4, h5⟩
theorem Two.grown {w wr wr' : World} {lo1 g1 lo2 g2 : Nat} {e1 : Int} {l1 : List Nat} {e2 : Int} {l2 : List Nat} {A : Option Addr} {n c : Nat} {b : List Nat} (h : Two w wr lo1 g1 lo2 g2 e1 l1 e2 l2 A n c b) {k : Nat} (hg : wr.grownBy wr' (some k)) (hk : g2 < k) : Two w wr' lo1 g1 lo2 g2 e1 l1 e2 l2 A n c b := by
  have h1 := h.r.lt
  have h2 := h.x.lt
  have h3 := h.o0
  have h4 := h.o1
  have h5 := h.o2
  exact ⟨grown_bel h.bel hg (by omega), h.r.grown hg (fun k e => by cases e; omega), h.x.grown hg (fun k e => by cases e; omega), h.inn.grown hg (fun ad k e e2 => by cases e2; have := h4 ad e; omega), h3, h4, h5⟩
theorem Two.below {w wr wr' : World} {lo1 g1 lo2 g2 : Nat} {e1 : Int} {l1 : List Nat} {e2 : Int} {l2 : List Nat} {A : Option Addr} {n c : Nat} {b : List Nat} (h : Two w wr lo1 g1 lo2 g2 e1 l1 e2 l2 A n c b) (hb : Below wr.heap.size wr wr') : Two w wr' lo1 g1 lo2 g2 e1 l1 e2 l2 A n c b :=
  ⟨nx h.bel hb, h.r.below hb, h.x.below hb, h.inn.below hb, h.o0, h.o1, h.o2⟩

theorem tdiv_six (x : Int) (h1 : -9223372036854775808 ≤ x) (h2 : x ≤ 9223372036854775807) : -1537228672809129302 ≤ x.tdiv 6 ∧ x.tdiv 6 ≤ 1537228672809129302 := by
  rcases Int.le_total 0 x with h | h
  · rw [Int.tdiv_eq_ediv_of_nonneg h]; omega
  · have h3 := Int.neg_tdiv x 6
    rw [Int.tdiv_eq_ediv_of_nonneg (by omega)] at h3
    omega
theorem Two.left {w wr : World} {lo1 g1 lo2 g2 : Nat} {e : Int} {l : List Nat} {A : Option Addr} {n c : Nat} {b : List Nat} (h : Two w wr lo1 g1 lo2 g2 e l e l A n c b) :
    ∃ k : Nat, (∀ w', Below wr.heap.size wr w' → Calls Try.prog 46 #[.pointer (some ⟨g1, 0, none⟩)] w' fun r w'' => r = .returned (.int .i64 (k : Int)) ∧ w' = w'') ∧
      (∀ w', Below wr.heap.size wr w' → Calls Try.prog 47 #[.pointer (some ⟨g2, 0, none⟩)] w' fun r w'' => r = .returned (.int .i64 (k : Int)) ∧ w' = w'') :=
  ⟨_, fun w' hb => Left_any (h.r.below hb), fun w' hb => refLeft_any (h.x.below hb)⟩
theorem own_grown {w w' : World} {base : Nat} {e : TypeId} {size : Nat} {v : Value} {n : Nat} {xs : List Value} {g : Nat} (h : w.ownsRow base e size v n xs) (hg : w.grownBy w' (some g)) (hne : ∀ k, v.ownBlock = some k → k ≠ g) : w'.ownsRow base e size v n xs :=
  h.kept hg (by
    cases hv : v.ownBlock with
    | none => exact .inl rfl
    | some k => exact .inr (fun e => hne k hv (by injection e)))
theorem own_some {w : World} {base : Nat} {e : TypeId} {A : Option Addr} {n c : Nat} {xs : List Value} (h : w.ownsRow base e 1 (.slice A n c) n xs) (hn : 0 < n) : ∃ g, A = some ⟨g, 0, none⟩ ∧ base ≤ g := by
  rcases h.2 with ⟨hv, h0⟩ | ⟨g, cap, cur, hv, hb, _⟩
  · omega
  · injection hv with h1 h2 h3
    exact ⟨g, h1, hb⟩
theorem read_keep {w w' w'' : World} {g : Addr} {v : Value} (h : Below w.heap.size w w' ∧ w'.cell? g = some v) (hb : Below w'.heap.size w' w'') : Below w.heap.size w w'' ∧ w''.cell? g = some v := ⟨nx h.1 hb, (hb.cell (World.block_lt_of_cell? w' _ h.2)).trans h.2⟩

set_option maxHeartbeats 8000000 in
set_option maxRecDepth 100000 in
theorem digitsRead_walk (A : Option Addr) (c : Nat) (b : List Nat) (B : Option Addr) (d : Nat) (ws : List Int) (w : World) (hA : BS w A b.length c b) (hB : IS w B d ws) :
    Calls Try.prog 11 #[.slice A b.length c, .slice B ws.length d] w fun e w' => e = .returned (.bool true) ∧ Below w.heap.size w w' := by
  have HA := Lib.hid hA
  have HB := Lib.hid hB
  clear hA hB
  generalize hbl : b.length = bl at *
  clear hbl
  go_enter Try.func11, Try.ntmps11
  go_wp2_with fail
  refine (copyBytes_any A bl c b _ HA.out).mono ?_
  rintro e w1 ⟨v, rfl, ho, hb1⟩
  obtain ⟨A1, n1, c1, rfl, hB1, hA1⟩ := ownsRow_bs ho HA.out.byt HA.out.lim
  have B1 := Lib.hid hB1
  have O1 := Lib.hid hA1
  clear ho hB1 hA1
  go_wp2_with fail
  refine (New_any A1 n1 c1 b _ B1.out).mono ?_
  rintro e w2 ⟨g1, rfl, hr, hb2⟩
  have R2 := Lib.hid hr
  clear hr
  go_wp2_with fail
  refine (refNew_any A bl c b _ (HA.out.below (nx hb1 hb2))).mono ?_
  rintro e w3 ⟨g2, rfl, hx, hb3⟩
  have h2 : Two w w3 w1.heap.size g1 w2.heap.size g2 0 b 0 b A1 n1 c1 b :=
    ⟨nx (nx hb1 hb2) hb3, R2.out.below hb3, hx, B1.out.below (nx hb2 hb3), hb1.size, fun ad e => (O1.out ad e).2, R2.out.lt.2⟩
  have T0 := Lib.hid h2
  obtain ⟨lo1, hlo1⟩ : ∃ k, k = w1.heap.size := ⟨_, rfl⟩
  obtain ⟨lo2, hlo2⟩ : ∃ k, k = w2.heap.size := ⟨_, rfl⟩
  rw [← hlo1, ← hlo2] at T0
  clear hx h2 R2 hb1 hb2 hb3 hlo1 hlo2 B1 O1
  go_wp2_with fail
  go_loopw [8] (fun i wr => ∃ j : Nat, j ≤ ws.length ∧ i = .int .i64 j ∧ ∃ e l, Hid (Two w wr lo1 g1 lo2 g2 e l e l A1 n1 c1 b)) (fun i _ => ws.length - (intOf i).toNat)
  case atStart => exact ⟨0, Nat.zero_le _, rfl, 0, b, T0⟩
  case round =>
    clear T0
    obtain ⟨j, hj, rfl, e, l, T⟩ := hrel
    have hwl := HB.out.lim
    by_cases hjl : j < ws.length
    · by_cases hj40 : (j : Int) < 40
      · have hxf := HB.out.fit _ (List.getElem_mem hjl)
        obtain ⟨ad, hAd, hcx⟩ := HB.out.lies j (by simpa [iv] using hjl)
        cases hAd
        have hcx2 : wr.cell? (ad.add j) = some (.int .i64 ws[j]) := by
          rw [T.out.bel.cell (p := ad.add j) (World.block_lt_of_cell? w _ hcx), hcx]
          simp [iv]
        clear hcx
        have HBR : Hid (∀ w, Calls Try.prog 25 #[.int .i64 ws[j], .int .i64 6] w fun e w' => e = .returned (.int .i64 (bring ws[j] 6)) ∧ w = w') := Lib.hid fun w => bring_any ws[j] 6 w hxf.1 hxf.2 (by omega) (by omega)
        obtain ⟨hd1, hd2⟩ := tdiv_six ws[j] hxf.1 hxf.2
        generalize bring ws[j] 6 = q at *
        generalize ws[j] = x at *
        generalize hdx : x.tdiv 6 = dx at *
        go_wp2_with fail
        refine (HBR.out _).mono ?_
        rintro e1 w5 ⟨rfl, rfl⟩
        rename_i K3 hK3 K2 hK2 K1 hK1 K0 hK0
        have tail : ∀ (s4 s9 s11 s12 s19 s20 s21 s22 s23 s24 s25 s26 s27 s28 s29 s30 s31 s32 s33 s34 s35 s36 s37 s38 s39 s40 s41 s42 s43 s44 s45 s46 s47 s48 s49 s50 s51 s52 s53 s54 s55 s56 s57 s58 s59 s60 s61 s62 s63 s64 s65 s66 s67 s68 s69 s70 s71 s72 s73 s74 s75 s76 s77 s78 s79 s80 s81 s82 s83 s84 s85 s86 s87 s88 s89 s90 s91 s92 s93 s94 s95 s96 s97 s98 s99 s100 s101 s102 s103 s104 s105 s106 s107 s108 s109 s110 s111 s112 s113 s114 s115 s116 s117 : Value) (w7 : World) (y2 : Int) (y3 : List Nat), Hid (Two w w7 lo1 g1 lo2 g2 y2 y3 y2 y3 A1 n1 c1 b) → K2 ⟨#[.slice A bl c, .slice (some ad) ws.length d, undef, undef, s4, .slice A1 n1 c1, .pointer (some ⟨g1, 0, none⟩), .pointer (some ⟨g2, 0, none⟩), .int .i64 (j : Int), s9, .bool true, s11, s12, .slice A bl c, .slice A1 n1 c1, .slice A1 n1 c1, .pointer (some ⟨g1, 0, none⟩), .slice A bl c, .pointer (some ⟨g2, 0, none⟩), s19, s20, s21, s22, s23, s24, s25, s26, s27, s28, s29, s30, s31, s32, s33, s34, s35, s36, s37, s38, s39, s40, s41, s42, s43, s44, s45, s46, s47, s48, s49, s50, s51, s52, s53, s54, s55, s56, s57, s58, s59, s60, s61, s62, s63, s64, s65, s66, s67, s68, s69, s70, s71, s72, s73, s74, s75, s76, s77, s78, s79, s80, s81, s82, s83, s84, s85, s86, s87, s88, s89, s90, s91, s92, s93, s94, s95, s96, s97, s98, s99, s100, s101, s102, s103, s104, s105, s106, s107, s108, s109, s110, s111, s112, s113, s114, s115, s116, s117, undef], []⟩ w7 := by
          intro s4 s9 s11 s12 s19 s20 s21 s22 s23 s24 s25 s26 s27 s28 s29 s30 s31 s32 s33 s34 s35 s36 s37 s38 s39 s40 s41 s42 s43 s44 s45 s46 s47 s48 s49 s50 s51 s52 s53 s54 s55 s56 s57 s58 s59 s60 s61 s62 s63 s64 s65 s66 s67 s68 s69 s70 s71 s72 s73 s74 s75 s76 s77 s78 s79 s80 s81 s82 s83 s84 s85 s86 s87 s88 s89 s90 s91 s92 s93 s94 s95 s96 s97 s98 s99 s100 s101 s102 s103 s104 s105 s106 s107 s108 s109 s110 s111 s112 s113 s114 s115 s116 s117 w7 y2 y3 T7
          apply hK2
          clear hK1 hK0 hK2 HBR T
          go_wp2_with fail
          obtain ⟨A2, n2, c2, m2, _, cx, _⟩ := T7.out.x.open
          have CX := Lib.hid cx
          obtain ⟨ln, hl1, hl2⟩ := T7.out.left
          have L1 := Lib.hid hl1
          have L2 := Lib.hid hl2
          clear hl1 hl2
          clear cx
          go_region_held3 (fun w' => Below w7.heap.size w7 w' ∧ w'.cell? ⟨g2, 1, none⟩ = some (.int .i64 (y2)))
            (first | exact ⟨(bel0 _).drew, CX.out⟩ | assumption | exact read_keep (by assumption) (by assumption))
            (first
              | (go_at_call 45; (with_reducible refine (Err_any (T7.out.r.below (And.left (by assumption)))).mono ?_); rintro r1 wb ⟨rfl, rfl⟩)
              | (go_at_call 46; (with_reducible refine (L1.out _ (And.left (by assumption))).mono ?_); rintro r1 wb ⟨rfl, rfl⟩)
              | (go_at_call 47; (with_reducible refine (L2.out _ (And.left (by assumption))).mono ?_); rintro r1 wb ⟨rfl, rfl⟩)
              | (go_at_call 21; (with_reducible refine (eqBytes_any A1 A n1 c1 bl c b b _ (T7.out.inn.below (And.left (by assumption))) (HA.out.below (nx T7.out.bel (And.left (by assumption))))).mono ?_); rintro r1 wb ⟨rfl, hbb⟩))
          go_wp2_with fail
          exact ⟨⟨j + 1, by omega, by go_num, y2, y3, Lib.hid (T7.out.below (And.left (by assumption)))⟩, by simp [intOf]; omega⟩
        have TL := Lib.hid tail
        clear tail hK2
        by_cases q2 : q = 2
        · subst q2
          go_wp2_with fail
          refine (rdS_any T.out.r).mono ?_
          rintro r1 w6 ⟨rfl, hr, hg⟩
          have T6 := Lib.hid (T.out.stepR hr hg)
          clear hr hg
          go_wp2_with fail
          refine (rfS_any T6.out.x).mono ?_
          rintro r1 w7 ⟨rfl, hr, hg⟩
          have T7 := Lib.hid (T6.out.stepX hr hg)
          clear hr hg T6 T
          generalize nb 18014398509481982 e l = y at *
          obtain ⟨y1, y2, y3⟩ := y
          simp only at T7
          generalize zag y1 = y0 at *
          go_wp2_with fail
          exact TL.out _ _ _ _ _ _ _ _ _ _ _ _ _ _ _ _ _ _ _ _ _ _ _ _ _ _ _ _ _ _ _ _ _ _ _ _ _ _ _ _ _ _ _ _ _ _ _ _ _ _ _ _ _ _ _ _ _ _ _ _ _ _ _ _ _ _ _ _ _ _ _ _ _ _ _ _ _ _ _ _ _ _ _ _ _ _ _ _ _ _ _ _ _ _ _ _ _ _ _ _ _ _ _ _ _ _ T7
        · by_cases q3 : q = 3
          · subst q3
            go_wp2_with fail
            refine (rdText_any dx T.out.r).mono ?_
            rintro r1 w6 ⟨rfl, _, _, hr, hg⟩
            have T6 := Lib.hid (T.out.stepR hr hg)
            clear hr hg
            go_wp2_with fail
            refine (rfText_any dx T6.out.x).mono ?_
            rintro r1 w7 ⟨rfl, _, _, hr, hg⟩
            have T7 := Lib.hid (T6.out.stepX hr hg)
            clear hr hg T6 T
            generalize txt dx e l = y at *
            obtain ⟨y1, y2, y3⟩ := y
            simp only at T7
            generalize bs y1 = y0 at *
            go_wp2_with fail
            exact TL.out _ _ _ _ _ _ _ _ _ _ _ _ _ _ _ _ _ _ _ _ _ _ _ _ _ _ _ _ _ _ _ _ _ _ _ _ _ _ _ _ _ _ _ _ _ _ _ _ _ _ _ _ _ _ _ _ _ _ _ _ _ _ _ _ _ _ _ _ _ _ _ _ _ _ _ _ _ _ _ _ _ _ _ _ _ _ _ _ _ _ _ _ _ _ _ _ _ _ _ _ _ _ _ _ _ _ T7
          · by_cases q4 : q = 4
            · subst q4
              go_wp2_with fail
              refine (Raw_any dx T.out.r).mono ?_
              rintro r1 w6 ⟨v, rfl, ho, hbt, hlm, hr, hg⟩
              have hg2w := T.out.x.lt.2
              have T6 := Lib.hid (T.out.stepR hr hg)
              clear hr hg
              go_wp2_with fail
              refine (rfRaw_any dx T6.out.x).mono ?_
              rintro r1 w7 ⟨v2, rfl, ho2, _, _, hr, hg⟩
              have T7' := Lib.hid (T6.out.stepX hr hg)
              have HO7 := own_grown ho hg (fun k hk => by have := (ho.lt k hk).1; omega)
              obtain ⟨A3, n3, c3, rfl, hB3, hA3⟩ := ownsRow_bs HO7 hbt hlm
              obtain ⟨A4, n4, c4, rfl, hB4, hA4⟩ := ownsRow_bs ho2 hbt hlm
              have HO7' := Lib.hid HO7
              have HBT := Lib.hid hbt
              clear hr hg T6 T ho ho2 hlm HO7
              generalize tk e dx l = y at *
              obtain ⟨yb, yl, y2, y3⟩ := y
              (try simp only at T7' hB3 hB4 HO7' HBT)
              go_wp2_with fail
              refine (eqBytes_any A3 A4 n3 c3 n4 c4 _ _ _ hB3 hB4).mono ?_
              rintro r1 w8 ⟨rfl, hb8⟩
              rw [show decide (yl = yl) = true from decide_eq_true rfl]
              have e3 : n3 = yl.length := hB3.len
              rw [← e3] at HO7'
              have HO8 := Lib.hid (ownsRow_below HO7'.out hb8)
              have T8 := Lib.hid (T7'.out.below hb8)
              have hn3b : n3 ≤ 140737488351232 := by have := hB3.lim; omega
              have HN3 := Lib.hid e3
              clear hB3 hB4 hA3 hA4 HO7' T7' hb8 e3
              go_wp2_with fail
              go_loopw [12] (fun i wq => ∃ k : Nat, ∃ L : List Nat, k ≤ n3 ∧ i = .int .i64 k ∧ Hid (wq.ownsRow wr.heap.size 5 1 (.slice A3 n3 c3) n3 (bv L)) ∧ Hid (Byt L) ∧ Hid (Two w wq lo1 g1 lo2 g2 y2 y3 y2 y3 A1 n1 c1 b)) (fun i _ => n3 - (intOf i).toNat)
              case atStart => exact ⟨0, yl, Nat.zero_le _, rfl, HO8, HBT, T8⟩
              case round =>
                clear HO8 T8
                obtain ⟨k, L, hk, rfl, HO, HL, TT⟩ := hrel
                by_cases hkn : k < n3
                · obtain ⟨cb, hA3, hcb⟩ := own_some HO.out (by omega)
                  subst hA3
                  have hlen := own_len HO.out
                  have hkl : k < L.length := by omega
                  have hc := own_cell HO.out hkl
                  have hf := HO.out.frozenAt k
                  have hx := HL.out.at hkl
                  have HLN := Lib.hid hlen
                  clear hlen
                  generalize L[k] = xx at *
                  go_wp2_with fail
                  exact ⟨⟨k + 1, L.set k ((xx + 1) % 256), by omega, by go_num, Lib.hid (own_store HO.out k ((xx + 1) % 256)), Lib.hid (by
                    intro t ht
                    rcases List.mem_or_eq_of_mem_set ht with h | h
                    · exact HL.out t h
                    · omega), Lib.hid (TT.out.grown (grown_set _ cb k _) (by omega))⟩, by simp [intOf]; omega⟩
                · have T7 := TT
                  clear TT HO HL
                  go_wp2_with fail
                  exact TL.out _ _ _ _ _ _ _ _ _ _ _ _ _ _ _ _ _ _ _ _ _ _ _ _ _ _ _ _ _ _ _ _ _ _ _ _ _ _ _ _ _ _ _ _ _ _ _ _ _ _ _ _ _ _ _ _ _ _ _ _ _ _ _ _ _ _ _ _ _ _ _ _ _ _ _ _ _ _ _ _ _ _ _ _ _ _ _ _ _ _ _ _ _ _ _ _ _ _ _ _ _ _ _ _ _ _ T7
            · by_cases q5 : q = 5
              · subst q5
                go_wp2_with fail
                refine (Fail_any (dx.tmod 10) T.out.r).mono ?_
                rintro r1 w6 ⟨rfl, hr, hg⟩
                have T6 := Lib.hid (T.out.stepR hr hg)
                clear hr hg
                go_wp2_with fail
                refine (refFail_any (dx.tmod 10) T6.out.x).mono ?_
                rintro r1 w7 ⟨rfl, hr, hg⟩
                have T7 := Lib.hid (T6.out.stepX hr hg)
                clear hr hg T6 T
                generalize (if e = 0 then dx.tmod 10 else e) = y2 at *
                obtain ⟨y3, hy3⟩ : ∃ y3, y3 = l := ⟨_, rfl⟩
                rw [← hy3] at T7
                clear hy3
                go_wp2_with fail
                exact TL.out _ _ _ _ _ _ _ _ _ _ _ _ _ _ _ _ _ _ _ _ _ _ _ _ _ _ _ _ _ _ _ _ _ _ _ _ _ _ _ _ _ _ _ _ _ _ _ _ _ _ _ _ _ _ _ _ _ _ _ _ _ _ _ _ _ _ _ _ _ _ _ _ _ _ _ _ _ _ _ _ _ _ _ _ _ _ _ _ _ _ _ _ _ _ _ _ _ _ _ _ _ _ _ _ _ _ T7
              · go_wp2_with fail
                refine (rdU_any T.out.r).mono ?_
                rintro r1 w6 ⟨rfl, hr, hg⟩
                have T6 := Lib.hid (T.out.stepR hr hg)
                clear hr hg
                go_wp2_with fail
                refine (rfU_any T6.out.x).mono ?_
                rintro r1 w7 ⟨rfl, hr, hg⟩
                have T7 := Lib.hid (T6.out.stepX hr hg)
                clear hr hg T6 T
                generalize nb 9007199254740991 e l = y at *
                obtain ⟨y1, y2, y3⟩ := y
                simp only at T7
                go_wp2_with fail
                exact TL.out _ _ _ _ _ _ _ _ _ _ _ _ _ _ _ _ _ _ _ _ _ _ _ _ _ _ _ _ _ _ _ _ _ _ _ _ _ _ _ _ _ _ _ _ _ _ _ _ _ _ _ _ _ _ _ _ _ _ _ _ _ _ _ _ _ _ _ _ _ _ _ _ _ _ _ _ _ _ _ _ _ _ _ _ _ _ _ _ _ _ _ _ _ _ _ _ _ _ _ _ _ _ _ _ _ _ T7
      · have HT := Lib.hid T.out.bel
        go_wp2_with fail
        refine (works01_any _).mono ?_
        rintro r1 w6 ⟨rfl, hb6⟩
        go_wp2_with fail
        go_ret
        exact ⟨rfl, nx HT.out hb6⟩
    · have HT := Lib.hid T.out.bel
      go_wp2_with fail
      refine (works01_any _).mono ?_
      rintro r1 w6 ⟨rfl, hb6⟩
      go_wp2_with fail
      go_ret
      exact ⟨rfl, nx HT.out hb6⟩
end Go.Proofs.Ytpkpgmpnaomioaa
