/- The document's bytes of a list of attributes: the contract. No conditions. -/
import Derived.Test.YtnaijnbdhojhaaaGA18
import Derived.Test.YtnaijnbdhojhaaaGA19
set_option linter.unusedSimpArgs false
set_option linter.unusedVariables false
namespace Go.Proofs.Ytnaijnbdhojhaaa
open Go.RowKit

theorem own_far {w w' : World} {base : Nat} {e : TypeId} {size : Nat} {u : Value} {n : Nat} {xs : List Value} {row : Option Nat} (h : w.ownsRow base e size u n xs) (hg : w.grownBy w' row) (hne : ∀ k, u.ownBlock = some k → row ≠ some k) : w'.ownsRow base e size u n xs :=
  h.kept hg (by
    cases hv : u.ownBlock with
    | none => exact .inl rfl
    | some k => exact .inr (fun e => hne k hv (by rw [← e])))
set_option maxHeartbeats 16000000 in
set_option maxRecDepth 100000 in
theorem refAttrs_any {A : Option Addr} {n c : Nat} {l : List Att} {w : World} (h : AS w A n c l) :
    Calls Try.prog 78 #[.slice A n c] w fun e w' => TwoB w w' e (atP l).1 (atP l).2 := by
  obtain rfl := h.len
  have HL := Lib.hid h
  have hlim := h.lim
  have HM := Lib.hid (refCheckAttrs_any h)
  clear h
  obtain ⟨X, hX⟩ : ∃ X, X = atP l := ⟨_, rfl⟩
  rw [← hX]
  unfold atP at hX
  have HX := Lib.hid hX
  clear hX
  rcases may_cases l with h0 | h0
  · rw [h0] at HM
    rw [show decide ((0 : Int) = 0) = true from rfl] at HM
    have HX1 := Lib.hid (HX.out.trans (if_pos h0))
    have HY := Lib.hid (may_yes h0)
    have HCK := Lib.hid (fun i (hi : i < l.length) => may_att h0 hi)
    have h8 : l.length ≤ 8 := HY.out.1
    have P0 := Lib.hid (fun w => refU_any (l.length : Int) w (by omega) (by omega))
    rw [Int.toNat_natCast] at P0
    have Z0 : Hid ((Dig.enc l.length).length ≤ 8) := Lib.hid (by rw [Dig.length_enc]; exact Dig.sz_le _)
    clear h0 HX
    go_enter Try.func78, Try.ntmps78
    go_wp2_with fail
    refine HM.out.mono ?_
    rintro e w1 ⟨rfl, hb1⟩
    go_wp2_with fail
    refine (P0.out _).mono ?_
    rintro e w2 ⟨v1, rfl, ho1, hb2⟩
    have O1 := Lib.hid (ownsRow_base ho1 hb1.size)
    have hb02 := nx hb1 hb2
    clear ho1
    go_wp2_with fail
    go_loopw [4, 6] (fun v i wr => ∃ (vo : Value) (k : Nat), vo = v ∧ k ≤ l.length ∧ i = .int .i64 k ∧ Hid (wr.ownsRow w.heap.size 5 1 vo (Dig.enc l.length ++ ((l.take k).map ab).flatten).length (bv (Dig.enc l.length ++ ((l.take k).map ab).flatten))) ∧ Below w.heap.size w wr ∧ Hid ((((l.take k).map ab).flatten).length ≤ 160 * k)) (fun _ i _ => l.length - (intOf i).toNat)
    case atStart => exact ⟨_, 0, rfl, Nat.zero_le _, rfl, Lib.hid (by simpa using O1.out), hb02, Lib.hid (by simp)⟩
    case round =>
      clear O1
      obtain ⟨vo, k, rfl, hk, rfl, HO, hb, HSZ⟩ := hrel
      by_cases hlt : k < l.length
      · obtain ⟨g, o, hA, hc⟩ := HL.out.cellsAt hb hlt
        have hcell := fun (wb : World) (hb : Below w.heap.size w wb) => HL.out.cellsAt hb hlt
        subst hA
        have haa : (⟨g, o, none⟩ : Addr).add (k * 6) = ⟨g, o + k * 6, none⟩ := addr_add _ _ _
        obtain ⟨y1, y2, y3⟩ := chkA_yes (HCK.out k hlt)
        have hp := HL.out.pt _ (List.getElem_mem hlt)
        have hsn : ((l.take (k + 1)).map ab).flatten = ((l.take k).map ab).flatten ++ ab l[k] := by
          rw [take_snoc l k hlt, List.map_append, List.flatten_append]; simp
        obtain ⟨a, ha⟩ : ∃ a, a = l[k] := ⟨_, rfl⟩
        rw [← ha] at hc y1 y2 y3 hp hsn
        have hcell2 : Hid (∀ wb : World, Below w.heap.size w wb → wb.cell? ⟨g, o + k * 6, none⟩ = some (.string a.name) ∧ wb.cell? ⟨g, o + k * 6 + 1, none⟩ = some (.int .i64 a.lab.l) ∧ wb.cell? ⟨g, o + k * 6 + 2, none⟩ = some (.int .u32 (a.lab.p : Int)) ∧
            wb.cell? ⟨g, o + k * 6 + 3, none⟩ = some (.int .i64 a.val.k) ∧ wb.cell? ⟨g, o + k * 6 + 4, none⟩ = some (.int .i64 a.val.n) ∧ wb.cell? ⟨g, o + k * 6 + 5, none⟩ = some (.string a.val.b)) := Lib.hid (by
          intro wb hwb
          obtain ⟨g', o', e', hc'⟩ := hcell wb hwb
          cases e'
          rw [← ha] at hc'
          exact ⟨hc' 0 _ rfl, hc' 1 _ rfl, hc' 2 _ rfl, hc' 3 _ rfl, hc' 4 _ rfl, hc' 5 _ rfl⟩)
        have hnsz := nm_size y1
        have hl2 : (lb a.lab).2 = 0 := by unfold lb; rw [if_pos y2]
        have hv2 : (vb a.val).2 = 0 := by unfold vb; rw [if_pos y3]
        have T0 := Lib.hid (fun w => refText_any a.name w (by omega))
        have T1 := Lib.hid (fun w => refVeilBytes_any a.lab hp w)
        have T2 := Lib.hid (fun w => refBytesV_any a.val w)
        rw [hl2] at T1
        rw [hv2] at T2
        have U0 := Lib.hid (show Byt (Dig.enc a.name.size ++ sb a.name) from Byt.append (Dig.enc_byt _ (by omega)) (sb_byt _))
        have U0l : Hid ((Dig.enc a.name.size ++ sb a.name).length ≤ 32) := Lib.hid (by rw [List.length_append, Dig.length_enc, sb_length]; have := Dig.sz_le a.name.size; omega)
        have U1 := Lib.hid (lb_ok a.lab hp)
        have U2 := Lib.hid (vb_ok a.val)
        have HSN := Lib.hid hsn
        have hca0 : wr.cell? ⟨g, o + k * 6, none⟩ = some (.string a.name) := hc 0 _ rfl
        clear hc hcell ha y1 y2 y3 hsn hl2 hv2 hp
        unfold Lab.v at T1
        unfold Val.v at T2
        have hkk : k ≤ 8 := by omega
        have hz := Z0.out
        have hsz := HSZ.out
        generalize hLk : ((l.take k).map ab).flatten = Lk at *
        clear hLk
        go_wp2_with fail
        refine (T0.out _).mono ?_
        intro r w3 hh
        obtain ⟨A2, n2, c2, rfl, hB, hb3⟩ := hh.open U0.out (by have := U0l.out; omega)
        have hb13 := nx hb hb3
        have HO3 := Lib.hid (ownsRow_below HO.out hb3)
        have HO0 := HO
        have B2 := Lib.hid hB
        obtain ⟨d0, d1, d2, d3, d4, d5⟩ := hcell2.out w3 hb13
        clear hh hB hca0 HO
        go_wp2_with fail
        refine (T1.out _).mono ?_
        rintro r w5 ⟨v3, rfl, ho3, hb5⟩
        have hb15 := nx hb13 hb5
        have HO5 := Lib.hid (ownsRow_below HO3.out hb5)
        have B25 := Lib.hid (B2.out.below hb5)
        have O35 := Lib.hid ho3
        have hz35 := hb3.size
        have hz55 := hb5.size
        clear ho3 d0 d1 d2 d3 d4 d5 HO3 B2
        obtain ⟨d0, d1, d2, d3, d4, d5⟩ := hcell2.out w5 hb15
        go_wp2_with fail
        refine (T2.out _).mono ?_
        rintro r w7 ⟨v4, rfl, ho4, hb7⟩
        have hb17 := nx hb15 hb7
        have HO7 := Lib.hid (ownsRow_below HO5.out hb7)
        have B27 := Lib.hid (B25.out.below hb7)
        have O37 := Lib.hid (ownsRow_below O35.out hb7)
        have O47 := Lib.hid ho4
        have hz77 := hb7.size
        have NE := Lib.hid (fun k (hk : vo.ownBlock = some k) => (HO0.out.lt k hk).2)
        clear ho4 d0 d1 d2 d3 d4 d5 HO5 B25 O35
        have u0 := U0l.out
        have u1 := U1.out.2
        have u2 := U2.out.2
        go_wp2_with (first
          | (at_builtin; refine append_bytes rfl (.tmp 55) (.tmp 56) rfl w.heap.size vo (Dig.enc l.length ++ Lk) (Dig.enc a.name.size ++ sb a.name) rfl HO7.out A2 n2 c2 rfl B27.out (by rw [List.length_append]; omega) hb17.size ?_; intro v8 w8 ho8 hg8 hv8; have hb18 := grown_below hb17 hg8 (own_block HO7.out); have HO8 := Lib.hid ho8; have O38 := Lib.hid (own_far O37.out hg8 (fun k hk e => by have := NE.out k e; have := (O37.out.lt k hk).1; omega)); have O48 := Lib.hid (own_far O47.out hg8 (fun k hk e => by have := NE.out k e; have := (O47.out.lt k hk).1; omega)); have NE8 := Lib.hid (fun k (hk : v8.ownBlock = some k) => show k < wr.heap.size ∨ w7.heap.size ≤ k from (hv8 k hk).imp (fun h => NE.out k h) id); have hz8 := hg8.size; obtain ⟨A3, n3, c3, e3, B3, _⟩ := ownsRow_bs O38.out U1.out.1 (by omega); subst e3; have B3 := Lib.hid B3; clear ho8 hg8 hv8)
          | (at_builtin; refine append_bytes rfl (.tmp 57) (.tmp 58) rfl w.heap.size v8 (Dig.enc l.length ++ Lk ++ (Dig.enc a.name.size ++ sb a.name)) (lb a.lab).1 rfl HO8.out A3 n3 c3 rfl B3.out (by rw [List.length_append, List.length_append]; omega) hb18.size ?_; intro v9 w9 ho9 hg9 hv9; have hb19 := grown_below hb18 hg9 (own_block HO8.out); have HO9 := Lib.hid ho9; have O49 := Lib.hid (own_far O48.out hg9 (fun k hk e => by have := NE8.out k e; have := O47.out.lt k hk; omega)); obtain ⟨A4, n4, c4, e4, B4, _⟩ := ownsRow_bs O49.out U2.out.1 (by omega); subst e4; have B4 := Lib.hid B4; clear ho9 hg9 hv9)
          | (at_builtin; refine append_bytes rfl (.tmp 59) (.tmp 60) rfl w.heap.size v9 (Dig.enc l.length ++ Lk ++ (Dig.enc a.name.size ++ sb a.name) ++ (lb a.lab).1) (vb a.val).1 rfl HO9.out A4 n4 c4 rfl B4.out (by rw [List.length_append, List.length_append, List.length_append]; omega) hb19.size ?_; intro v10 w10 ho10 hg10 hv10; have hb110 := grown_below hb19 hg10 (own_block HO9.out); have HO10 := Lib.hid ho10; clear ho10 hg10 hv10))
        refine ⟨⟨_, k + 1, rfl, by omega, by go_num, Lib.hid (by rw [HSN.out]; unfold ab; have := HO10.out; simpa only [List.append_assoc] using this), hb110, Lib.hid ?_⟩, by simp [intOf]; omega⟩
        rw [HSN.out]
        unfold ab
        simp only [List.length_append] at *
        omega
      · obtain rfl : k = l.length := by omega
        rw [List.take_length] at HO
        go_wp2_with fail
        go_ret2
        rw [HX1.out]
        exact ⟨_, rfl, HO.out, hb⟩
  · rw [h0] at HM
    rw [show decide ((80 : Int) = 0) = false from rfl] at HM
    have HX1 := Lib.hid (HX.out.trans (if_neg (by rw [h0]; decide)))
    go_enter Try.func78, Try.ntmps78
    go_wp2_with fail
    refine HM.out.mono ?_
    rintro e w1 ⟨rfl, hb1⟩
    go_wp2_with fail
    go_ret2
    rw [HX1.out]
    exact ⟨_, rfl, World.ownsRow_nil _ _ _ _, hb1⟩
end Go.Proofs.Ytnaijnbdhojhaaa
