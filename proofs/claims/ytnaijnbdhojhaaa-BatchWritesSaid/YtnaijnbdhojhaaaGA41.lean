/- The document's Parse of a batch: its contract. No conditions. -/
import Derived.Test.YtnaijnbdhojhaaaGA40
import Derived.Test.YtnaijnbdhojhaaaGA34
set_option linter.unusedSimpArgs false
set_option linter.unusedVariables false
namespace Go.Proofs.Ytnaijnbdhojhaaa
open Go.RowKit

/-- A batch that was read, or none. -/
def PrR (w w' : World) (e : Ending) (x : Bat × Int) : Prop := ∃ v, e = .returned (.tuple #[.agg #[.int .i64 x.1.ag, .int .i64 x.1.sq, v], .int .i64 x.2]) ∧ SpOwn w' w.heap.size v x.1.sp ∧ Below w.heap.size w w'
theorem rcell {w : World} {lo g : Nat} {e : Int} {l : List Nat} (h : Rfr w lo g e l) : w.cell? ⟨g, 1, none⟩ = some (.int .i64 e) := by
  obtain ⟨A, n, c, m, h1, _⟩ := h
  have := cell_of h1 1
  simpa using this
set_option maxHeartbeats 64000000 in
set_option maxRecDepth 100000 in
theorem refParse_any {A : Option Addr} {n c : Nat} {l : List Nat} {w : World} (h : BS w A n c l) :
    Calls Try.prog 13 #[.slice A n c] w fun e w' => PrR w w' e (prB l) := by
  have HA := Lib.hid h
  clear h
  have hbq := bel1 w (.cells #[.int .i64 0, .int .i64 0, .slice none 0 0] 26)
  have BQ := heap_alloc_new w (.cells #[.int .i64 0, .int .i64 0, .slice none 0 0] 26)
  obtain ⟨x1, hx1⟩ : ∃ x, x = nb 9007199254740991 0 l := ⟨_, rfl⟩
  obtain ⟨x2, hx2⟩ : ∃ x, x = nb 9007199254740991 x1.2.1 x1.2.2 := ⟨_, rfl⟩
  obtain ⟨x3, hx3⟩ : ∃ x, x = nb 9007199254740991 x2.2.1 x2.2.2 := ⟨_, rfl⟩
  have HU := Lib.hid (show tkU 3 0 l = ([x1.1, x2.1, x3.1], x3.2) by simp only [tkU, ← hx1, ← hx2, ← hx3])
  have b1 : x1.1 ≤ 9007199254740991 := by rw [hx1]; exact nb_le _ _ _
  have b2 : x2.1 ≤ 9007199254740991 := by rw [hx2]; exact nb_le _ _ _
  have b3 : x3.1 ≤ 9007199254740991 := by rw [hx3]; exact nb_le _ _ _
  have X1 := Lib.hid hx1
  have X2 := Lib.hid hx2
  have X3 := Lib.hid hx3
  clear hx1 hx2 hx3
  go_enter Try.func13, Try.ntmps13
  go_wp2_with fail
  refine (refNew_any A n c l _ (HA.out.below hbq)).mono ?_
  rintro e w2 ⟨g, rfl, hr, hb2⟩
  have BQ2 := (hb2.block _ (Array.getElem?_eq_some_iff.1 BQ).1).trans BQ
  have hb02 := nx hbq hb2
  rw [World.size_alloc] at hr
  have hlg := hr.lt
  have HR := Lib.hid hr
  clear BQ hb2 hr hbq
  go_wp2_with fail
  refine (rfU_any HR.out).mono ?_
  rw [← X1.out]
  rintro e w3 ⟨rfl, hr3, hg3⟩
  have BQ3 := (hg3.block _ (Array.getElem?_eq_some_iff.1 BQ2).1 (fun e => by injection e with e; omega)).trans BQ2
  have hb03 := grown_bel hb02 hg3 (by omega)
  have HR3 := Lib.hid hr3
  clear HR BQ2 hb02 hr3 hg3
  go_wp2_with fail
  refine (rfU_any HR3.out).mono ?_
  rw [← X2.out]
  rintro e w4 ⟨rfl, hr4, hg4⟩
  have BQ4 := (hg4.block _ (Array.getElem?_eq_some_iff.1 BQ3).1 (fun e => by injection e with e; omega)).trans BQ3
  have hb04 := grown_bel hb03 hg4 (by omega)
  have hq4 := (Array.getElem?_eq_some_iff.1 BQ4).1
  have hg4' := hr4.lt.2
  have hP : PrS w (w4.alloc (.cells #[.int .i64 (x1.1 : Int), .int .i64 (x2.1 : Int), .slice none 0 0] 26)) (w.heap.size + 1) g w.heap.size w4.heap.size (w4.heap.size + 1) x2.2.1 x2.2.2 (x1.1 : Int) (x2.1 : Int) [] :=
    ⟨nx hb04 (bel1 _ _), hr4.below (bel1 _ _), ⟨_, heap_alloc_new w4 _, SpOwn.nil _ _⟩, alloc_block BQ4, by omega, Nat.le_refl _, hb04.size, by omega, by omega, by omega, by omega, by rw [World.size_alloc]; exact Nat.le_refl _⟩
  obtain ⟨q5, hq5⟩ : ∃ q, q = w4.heap.size := ⟨_, rfl⟩
  have HQ5 := Lib.hid hq5
  rw [← hq5] at hP
  have HP := Lib.hid hP
  clear HR3 BQ3 hb03 hr4 hg4 BQ4 hb04 hP hq5
  go_wp2_with fail
  obtain ⟨W5, hW5⟩ : ∃ W, W = w4.alloc (.cells #[.int .i64 (x1.1 : Int), .int .i64 (x2.1 : Int), .slice none 0 0] 26) := ⟨_, rfl⟩
  rw [← hW5] at HP ⊢
  rw [← HQ5.out]
  clear hW5 HQ5 hq4 hg4' hlg
  obtain ⟨q2, hq2⟩ : ∃ q, q = w.heap.size := ⟨_, rfl⟩
  obtain ⟨lo, hlo⟩ : ∃ q, q = w.heap.size + 1 := ⟨_, rfl⟩
  have HP' := Lib.hid (show PrS w W5 lo g q2 q5 (q5 + 1) x2.2.1 x2.2.2 (x1.1 : Int) (x2.1 : Int) [] by rw [hlo, hq2]; exact HP.out)
  have HQ2 := Lib.hid hq2
  rw [← hq2]
  clear HP hlo hq2
  refine (rfU_any HP'.out.rd).mono ?_
  rw [← X3.out]
  rintro e w6 ⟨rfl, hr6, hg6⟩
  have HP6 := Lib.hid (HP'.out.read hr6 hg6)
  clear HP' hr6 hg6
  have NO := Lib.hid (fun (W W' : World) (hW : W' = ((W.setCell ⟨q2, 0, none⟩ (.int .i64 0)).setCell ⟨q2, 1, none⟩ (.int .i64 0)).setCell ⟨q2, 2, none⟩ (.slice none 0 0)) (hb : Below w.heap.size w W) (hq : W.heap[q2]? = some (.cells #[.int .i64 0, .int .i64 0, .slice none 0 0] 26 (0, 0))) => show W'.heap[q2]? = some (.cells #[.int .i64 0, .int .i64 0, .slice none 0 0] 26 (0, 0)) ∧ Below w.heap.size w W' from by
    rw [hW]
    have hle : w.heap.size ≤ q2 := by rw [HQ2.out]; exact Nat.le_refl _
    exact ⟨heap_set (heap_set (heap_set hq 0 _) 1 _) 2 _, ((hb.setCell (p := ⟨q2, 0, none⟩) hle _).setCell (p := ⟨q2, 1, none⟩) hle _).setCell (p := ⟨q2, 2, none⟩) hle _⟩)
  by_cases hm : x3.1 ≤ 16
  case neg =>
    have HX := Lib.hid (show prB l = (noBat, 90) by
      unfold prB
      rw [if_neg (fun h => hm (by have := h.1; rw [HU.out] at this; exact this))])
    have c0 := cell_of HP6.out.ans 0
    have c1 := cell_of HP6.out.ans 1
    have c2 := cell_of HP6.out.ans 2
    have f0 := frozen_of HP6.out.ans 0
    have f1 := frozen_of HP6.out.ans 1
    have f2 := frozen_of HP6.out.ans 2
    simp at c0 c1 c2
    go_wp2_with fail
    obtain ⟨W, hW⟩ : ∃ W, W = ((w6.setCell ⟨q2, 0, none⟩ (.int .i64 0)).setCell ⟨q2, 1, none⟩ (.int .i64 0)).setCell ⟨q2, 2, none⟩ (.slice none 0 0) := ⟨_, rfl⟩
    obtain ⟨B4, hBW⟩ := NO.out _ _ hW HP6.out.bel HP6.out.ans
    rw [← hW]
    clear hW c0 c1 c2 f0 f1 f2
    have d0 := cell_of B4 0
    have d1 := cell_of B4 1
    have d2 := cell_of B4 2
    simp at d0 d1 d2
    refine bodyPost_ret (by simp [results, Try.results13, go_sem, d0, d1, d2]; try rfl) rfl ?_
    rw [HX.out]
    exact ⟨_, rfl, SpOwn.nil _ _, hBW⟩
  have b3' : (x3.1 : Int) ≤ 16 := by omega
  have H0 := Lib.hid (show tkSN x3.1 x3.2.1 x3.2.2 = ([] ++ (tkSN (x3.1 - 0) x3.2.1 x3.2.2).1, (tkSN (x3.1 - 0) x3.2.1 x3.2.2).2) from rfl)
  go_wp2_with fail
  go_loopw [7] (fun i wr => ∃ (k : Nat) (e : Int) (r : List Nat) (S : List Spn), k ≤ x3.1 ∧ i = .int .i64 k ∧ Hid (PrS w wr lo g q2 q5 (q5 + 1) e r (x1.1 : Int) (x2.1 : Int) S) ∧ Hid (tkSN x3.1 x3.2.1 x3.2.2 = (S ++ (tkSN (x3.1 - k) e r).1, (tkSN (x3.1 - k) e r).2)) ∧ Hid (S.length ≤ k)) (fun i _ => x3.1 - (intOf i).toNat)
  case atStart => exact ⟨0, _, _, [], Nat.zero_le _, rfl, HP6, H0, Lib.hid (Nat.le_refl _)⟩
  case round =>
    clear H0 HP6
    obtain ⟨k, e, r, S, hk, rfl, HP, HT, HSL⟩ := hrel
    have rc := rcell HP.out.rd
    by_cases hgo : k < x3.1 ∧ e = 0
    · obtain ⟨hlt, rfl⟩ := hgo
      obtain ⟨y1, hy1⟩ : ∃ x, x = nb 9007199254740991 (0 : Int) r := ⟨_, rfl⟩
      obtain ⟨y2, hy2⟩ : ∃ x, x = nb 9007199254740991 y1.2.1 y1.2.2 := ⟨_, rfl⟩
      obtain ⟨y3, hy3⟩ : ∃ x, x = nb 9007199254740991 y2.2.1 y2.2.2 := ⟨_, rfl⟩
      obtain ⟨y4, hy4⟩ : ∃ x, x = nb 9007199254740991 y3.2.1 y3.2.2 := ⟨_, rfl⟩
      obtain ⟨y5, hy5⟩ : ∃ x, x = nb 9007199254740991 y4.2.1 y4.2.2 := ⟨_, rfl⟩
      obtain ⟨v, hv⟩ : ∃ x, x = txt 24 y5.2.1 y5.2.2 := ⟨_, rfl⟩
      obtain ⟨o, ho⟩ : ∃ x, x = txt 24 v.2.1 v.2.2 := ⟨_, rfl⟩
      obtain ⟨p, hp⟩ : ∃ x, x = txt 64 o.2.1 o.2.2 := ⟨_, rfl⟩
      obtain ⟨a, ha⟩ : ∃ x, x = tkAs p.2.1 p.2.2 := ⟨_, rfl⟩
      have HS := Lib.hid (show tkSp 0 r = (⟨(y1.1 : Int), (y2.1 : Int), (y3.1 : Int), bs v.1, bs o.1, (y4.1 : Int), (y5.1 : Int), bs p.1, a.1⟩, a.2) by
        have hu : tkU 5 0 r = ([y1.1, y2.1, y3.1, y4.1, y5.1], y5.2) := by simp only [tkU, ← hy1, ← hy2, ← hy3, ← hy4, ← hy5]
        unfold tkSp
        simp only [hu, ← hv, ← ho, ← hp, ← ha]
        rfl)
      have c1 : y1.1 ≤ 9007199254740991 := by rw [hy1]; exact nb_le _ _ _
      have c2 : y2.1 ≤ 9007199254740991 := by rw [hy2]; exact nb_le _ _ _
      have c3 : y3.1 ≤ 9007199254740991 := by rw [hy3]; exact nb_le _ _ _
      have c4 : y4.1 ≤ 9007199254740991 := by rw [hy4]; exact nb_le _ _ _
      have c5 : y5.1 ≤ 9007199254740991 := by rw [hy5]; exact nb_le _ _ _
      have Hy1 := Lib.hid hy1
      have Hy2 := Lib.hid hy2
      have Hy3 := Lib.hid hy3
      have Hy4 := Lib.hid hy4
      have Hy5 := Lib.hid hy5
      have Hv := Lib.hid hv
      have Ho := Lib.hid ho
      have Hp := Lib.hid hp
      have Ha := Lib.hid ha
      clear hy1 hy2 hy3 hy4 hy5 hv ho hp ha
      go_wp2_with fail
      refine (rfU_any HP.out.rd).mono ?_
      rw [← Hy1.out]
      rintro e t1 ⟨rfl, hr, hg⟩
      have P1 := Lib.hid (HP.out.read hr hg)
      clear hr hg HP rc
      go_wp2_with fail
      refine (rfU_any P1.out.rd).mono ?_
      rw [← Hy2.out]
      rintro e t2 ⟨rfl, hr, hg⟩
      have P2 := Lib.hid (P1.out.read hr hg)
      clear hr hg P1
      go_wp2_with fail
      refine (rfU_any P2.out.rd).mono ?_
      rw [← Hy3.out]
      rintro e t3 ⟨rfl, hr, hg⟩
      have P3 := Lib.hid (P2.out.read hr hg)
      clear hr hg P2
      go_wp2_with fail
      refine (rfU_any P3.out.rd).mono ?_
      rw [← Hy4.out]
      rintro e t4 ⟨rfl, hr, hg⟩
      have P4 := Lib.hid (P3.out.read hr hg)
      clear hr hg P3
      go_wp2_with fail
      refine (rfU_any P4.out.rd).mono ?_
      rw [← Hy5.out]
      rintro e t5 ⟨rfl, hr, hg⟩
      have P5 := Lib.hid (P4.out.read hr hg)
      clear hr hg P4
      go_wp2_with fail
      refine (rfText_any 24 P5.out.rd).mono ?_
      rw [← Hv.out]
      rintro e t6 ⟨rfl, hBv, hLv, hr, hg⟩
      have P6 := Lib.hid (P5.out.read hr hg)
      clear hr hg P5 hBv hLv
      go_wp2_with fail
      refine (rfText_any 24 P6.out.rd).mono ?_
      rw [← Ho.out]
      rintro e t7 ⟨rfl, hBo, hLo, hr, hg⟩
      have P7 := Lib.hid (P6.out.read hr hg)
      clear hr hg P6 hBo hLo
      go_wp2_with fail
      refine (rfText_any 64 P7.out.rd).mono ?_
      rw [← Hp.out]
      rintro e t8 ⟨rfl, hBp, hLp, hr, hg⟩
      have P8 := Lib.hid (P7.out.read hr hg)
      clear hr hg P7 hBp hLp
      have PX := Lib.hid (P8.out.below (bel1 t8 (.cells #[.int .i64 (y1.1 : Int), .int .i64 (y2.1 : Int), .int .i64 (y3.1 : Int), .string (bs v.1), .string (bs o.1), .int .i64 (y4.1 : Int), .int .i64 (y5.1 : Int), .string (bs p.1), .slice none 0 0] 42)))
      have X := Lib.hid (BSp.new t8 ⟨(y1.1 : Int), (y2.1 : Int), (y3.1 : Int), bs v.1, bs o.1, (y4.1 : Int), (y5.1 : Int), bs p.1, a.1⟩ (.slice none 0 0))
      have hqs : g < t8.heap.size := by have h1 := P8.out.gb; have h2 := P8.out.hb; omega
      go_wp2_with fail
      obtain ⟨vo, hq, hso⟩ := P8.out.bt
      have hvo := hso.ne (Nat.le_refl _)
      have hown : ∀ z, vo.ownBlock = some z → q5 + 1 ≤ z := by obtain ⟨vs, hv, h1, _⟩ := hso; exact fun z hz => (h1.lt z hz).1
      have h2s : q2 < t8.heap.size := (Array.getElem?_eq_some_iff.1 P8.out.ans).1
      have hbs := P8.out.hb
      refine (refTakeAs_any PX.out.rd).mono ?_
      rw [← Ha.out]
      rintro e t9 ⟨va, rfl, hoa, hr, hg⟩
      have P9 := Lib.hid (PX.out.read hr hg)
      have X9 := Lib.hid (X.out.grown hg (by omega))
      have hq9 := (hg.block _ (Array.getElem?_eq_some_iff.1 (alloc_block (o := .cells #[.int .i64 (y1.1 : Int), .int .i64 (y2.1 : Int), .int .i64 (y3.1 : Int), .string (bs v.1), .string (bs o.1), .int .i64 (y4.1 : Int), .int .i64 (y5.1 : Int), .string (bs p.1), .slice none 0 0] 42) hq)).1 (fun e => P8.out.n5 (by injection e))).trans (alloc_block hq)
      have hso9 := (hso.below (bel1 t8 (.cells #[.int .i64 (y1.1 : Int), .int .i64 (y2.1 : Int), .int .i64 (y3.1 : Int), .string (bs v.1), .string (bs o.1), .int .i64 (y4.1 : Int), .int .i64 (y5.1 : Int), .string (bs p.1), .slice none 0 0] 42))).grown hg P8.out.gb
      clear hr hg PX X hq hso
      obtain ⟨qs, eqs⟩ : ∃ q, q = t8.heap.size := ⟨_, rfl⟩
      have hoa2 : t9.ownsRow (q5 + 1) 54 6 va a.1.length (acs a.1) := ownsRow_base hoa (by rw [World.size_alloc]; omega)
      rw [← eqs] at X9 hqs h2s hvo hbs ⊢
      have HV := Lib.hid hoa2
      have SO := Lib.hid hso9
      have HQ := Lib.hid hq9
      obtain ⟨Aa, na, ca, rfl, _⟩ : ∃ A4 n4 c4, va = .slice A4 n4 c4 ∧ True := (by rcases hoa.2 with ⟨h, _⟩ | ⟨g2, cap, cur, h, _⟩ <;> exact ⟨_, _, _, h, trivial⟩)
      obtain ⟨Ao, co, eo⟩ := hso9.len
      subst eo
      obtain ⟨z0, z1, z2, z3, z4, z5, z6, z7, z8⟩ := X9.out.cells
      simp only at z0 z1 z2 z3 z4 z5 z6 z7 z8
      have fz := frozen_of X9.out 8
      have w2 := cell_of hq9 2
      have fw := frozen_of hq9 2
      simp at w2
      have hne5 : q5 ≠ qs := by omega
      have hSL := HSL.out
      have X10 := Lib.hid (X9.out.put8 (.slice Aa na ca))
      have SO10 := Lib.hid (SO.out.setCell X9.out hvo 8 (.slice Aa na ca))
      have HV10 := Lib.hid (ownsRow_setCell_other HV.out (a := ⟨qs, 8, none⟩) (own_ne2 HV.out X9.out (by decide)) (.slice Aa na ca))
      have hz10 : (t9.setCell ⟨qs, 8, none⟩ (.slice Aa na ca)).heap.size = t9.heap.size := World.size_setCell _ _ _
      have hb9 := P9.out.hb
      clear hoa hoa2 hso9 hq9 hvo eqs P8
      go_wp2_with (at_builtin; refine append_sp rfl (.tmp 54) (.tmp 56) rfl (q5 + 1) (.slice Ao S.length co) S ⟨(y1.1 : Int), (y2.1 : Int), (y3.1 : Int), bs v.1, bs o.1, (y4.1 : Int), (y5.1 : Int), bs p.1, a.1⟩ (.slice Aa na ca) rfl (SO10.out.below (bel1 _ _)) (ownsRow_below HV10.out (bel1 _ _)) t9.heap.size rfl (by have := BSp.new (t9.setCell ⟨qs, 8, none⟩ (.slice Aa na ca)) ⟨(y1.1 : Int), (y2.1 : Int), (y3.1 : Int), bs v.1, bs o.1, (y4.1 : Int), (y5.1 : Int), bs p.1, a.1⟩ (.slice Aa na ca); rw [hz10] at this; exact this) (by omega) (by rw [World.size_alloc, hz10]; omega) ?_; intro v11 t11 ho11 hg11 hv11; obtain ⟨P12, m5⟩ := P9.out.push hbs h2s HQ.out SO.out hg11 ho11 hown; obtain ⟨A11, c11, e11⟩ := ho11.len; have e12 : v11 = .slice A11 (S.length + 1) c11 := (by rw [e11, List.length_append]; rfl); subst e12; clear e11; have w3 := cell_of m5 2; have fw3 := frozen_of m5 2; simp at w3; have HP12 := Lib.hid P12; clear P12 m5 ho11 hg11 hv11)
      refine ⟨⟨k + 1, _, _, _, by omega, by go_num, HP12, Lib.hid ?_, Lib.hid (by rw [List.length_append]; show S.length + 1 ≤ k + 1; omega)⟩, by simp [intOf]; omega⟩
      rw [HT.out]
      have hk1 : x3.1 - k = (x3.1 - (k + 1)) + 1 := by omega
      rw [hk1]
      simp only [tkSN, if_true, HS.out]
      simp
    · have hend : (tkSN (x3.1 - k) e r) = ([], e, r) := by
        by_cases he : e = 0
        · rw [show x3.1 - k = 0 by omega]; rfl
        · exact tkSN_stop _ he r
      rw [hend] at HT
      have HT2 := Lib.hid (show tkSN x3.1 x3.2.1 x3.2.2 = (S, e, r) by rw [HT.out]; simp)
      clear HT hend
      have HB := Lib.hid (show tkB l = (⟨(x1.1 : Int), (x2.1 : Int), S⟩, e, r) by
        unfold tkB
        simp only [HU.out]
        rw [show [x1.1, x2.1, x3.1].getD 2 0 = x3.1 from rfl, HT2.out]
        rfl)
      have hle : w.heap.size ≤ q2 := by rw [HQ2.out]; exact Nat.le_refl _
      by_cases he : e = 0
      case neg =>
        have HX := Lib.hid (show prB l = (noBat, 90) by
          unfold prB
          rw [HB.out, if_neg (fun h => he h.2.1)])
        by_cases hkm : k < x3.1
        all_goals
          have d0 := cell_of HP.out.ans 0
          have d1 := cell_of HP.out.ans 1
          have d2 := cell_of HP.out.ans 2
          have f0 := frozen_of HP.out.ans 0
          have f1 := frozen_of HP.out.ans 1
          have f2 := frozen_of HP.out.ans 2
          simp at d0 d1 d2
          go_wp2_with fail
          obtain ⟨W, hW⟩ : ∃ W, W = ((wr.setCell ⟨q2, 0, none⟩ (.int .i64 0)).setCell ⟨q2, 1, none⟩ (.int .i64 0)).setCell ⟨q2, 2, none⟩ (.slice none 0 0) := ⟨_, rfl⟩
          obtain ⟨B4, hBW⟩ := NO.out _ _ hW HP.out.bel HP.out.ans
          rw [← hW]
          clear hW d0 d1 d2 f0 f1 f2
          have d0 := cell_of B4 0
          have d1 := cell_of B4 1
          have d2 := cell_of B4 2
          simp at d0 d1 d2
          refine bodyPost_ret (by simp [results, Try.results13, go_sem, d0, d1, d2]; try rfl) rfl ?_
          rw [HX.out]
          exact ⟨_, rfl, SpOwn.nil _ _, hBW⟩
      subst he
      have hkm : ¬ k < x3.1 := fun h => hgo ⟨h, rfl⟩
      go_wp2_with fail
      refine (refLeft_any HP.out.rd).mono ?_
      rintro e wz ⟨rfl, rfl⟩
      by_cases hr0 : r = []
      case neg =>
        have HX := Lib.hid (show prB l = (noBat, 90) by
          unfold prB
          rw [HB.out, if_neg (fun h => hr0 h.2.2.1)])
        have hrl : 0 < r.length := List.length_pos_iff.2 hr0
        rw [if_pos rfl]
        have d0 := cell_of HP.out.ans 0
        have d1 := cell_of HP.out.ans 1
        have d2 := cell_of HP.out.ans 2
        have f0 := frozen_of HP.out.ans 0
        have f1 := frozen_of HP.out.ans 1
        have f2 := frozen_of HP.out.ans 2
        simp at d0 d1 d2
        go_wp2_with fail
        obtain ⟨W, hW⟩ : ∃ W, W = ((wr.setCell ⟨q2, 0, none⟩ (.int .i64 0)).setCell ⟨q2, 1, none⟩ (.int .i64 0)).setCell ⟨q2, 2, none⟩ (.slice none 0 0) := ⟨_, rfl⟩
        obtain ⟨B4, hBW⟩ := NO.out _ _ hW HP.out.bel HP.out.ans
        rw [← hW]
        clear hW d0 d1 d2 f0 f1 f2
        have d0 := cell_of B4 0
        have d1 := cell_of B4 1
        have d2 := cell_of B4 2
        simp at d0 d1 d2
        refine bodyPost_ret (by simp [results, Try.results13, go_sem, d0, d1, d2]; try rfl) rfl ?_
        rw [HX.out]
        exact ⟨_, rfl, SpOwn.nil _ _, hBW⟩
      subst hr0
      obtain ⟨vb, hq, hso⟩ := HP.out.bt
      have hpt := tkSN_pt x3.1 x3.2.1 x3.2.2
      rw [HT2.out] at hpt
      have hsl := HSL.out
      obtain ⟨As, ns, cs, rfl, hLS⟩ := hso.ls (fun s hs => (hpt s hs).1) (fun s hs => by have := (hpt s hs).2; omega) (by omega)
      have HLS := Lib.hid hLS
      have HSO := Lib.hid hso
      have HQ := Lib.hid hq
      have z0 := cell_of hq 0
      have z1 := cell_of hq 1
      have z2 := cell_of hq 2
      simp at z0 z1 z2
      clear hq hso hpt hLS
      go_wp2_with fail
      refine (refBatCheck_any (b := ⟨(x1.1 : Int), (x2.1 : Int), S⟩) HLS.out).mono ?_
      rintro e t2 ⟨rfl, hb2⟩
      have P2 := Lib.hid (HP.out.below hb2)
      by_cases hok : OkB ⟨(x1.1 : Int), (x2.1 : Int), S⟩
      case neg =>
        have HX := Lib.hid (show prB l = (noBat, 90) by
          unfold prB
          rw [HB.out, if_neg (fun h => hok h.2.2.2)])
        rw [btP_no hok]
        clear hb2 z0 z1 z2
        have d0 := cell_of P2.out.ans 0
        have d1 := cell_of P2.out.ans 1
        have d2 := cell_of P2.out.ans 2
        have f0 := frozen_of P2.out.ans 0
        have f1 := frozen_of P2.out.ans 1
        have f2 := frozen_of P2.out.ans 2
        simp at d0 d1 d2
        go_wp2_with fail
        obtain ⟨W, hW⟩ : ∃ W, W = ((t2.setCell ⟨q2, 0, none⟩ (.int .i64 0)).setCell ⟨q2, 1, none⟩ (.int .i64 0)).setCell ⟨q2, 2, none⟩ (.slice none 0 0) := ⟨_, rfl⟩
        obtain ⟨B4, hBW⟩ := NO.out _ _ hW P2.out.bel P2.out.ans
        rw [← hW]
        clear hW d0 d1 d2 f0 f1 f2
        have d0 := cell_of B4 0
        have d1 := cell_of B4 1
        have d2 := cell_of B4 2
        simp at d0 d1 d2
        refine bodyPost_ret (by simp [results, Try.results13, go_sem, d0, d1, d2]; try rfl) rfl ?_
        rw [HX.out]
        exact ⟨_, rfl, SpOwn.nil _ _, hBW⟩
      rw [btP_yes hok]
      have HX := Lib.hid (show prB l = (⟨(x1.1 : Int), (x2.1 : Int), S⟩, 0) by
        unfold prB
        rw [HB.out, if_pos ⟨by rw [HU.out]; exact hm, rfl, rfl, hok⟩])
      have hbl := tkB_yes HA.out.byt (by rw [HB.out])
      rw [HB.out] at hbl
      simp only [List.append_nil] at hbl
      have HBL := Lib.hid hbl
      have HOK := Lib.hid hok
      have hq2' := (hb2.block _ (Array.getElem?_eq_some_iff.1 HQ.out).1).trans HQ.out
      have HQ2' := Lib.hid hq2'
      have HLS2 := Lib.hid (HLS.out.below hb2)
      have HSO2 := Lib.hid (HSO.out.below hb2)
      clear z0 z1 z2 hbl hok
      have z0 := cell_of hq2' 0
      have z1 := cell_of hq2' 1
      have z2 := cell_of hq2' 2
      simp at z0 z1 z2
      clear hq2' hb2
      go_wp2_with fail
      refine (refWrite_any (b := ⟨(x1.1 : Int), (x2.1 : Int), S⟩) HLS2.out HOK.out.1).mono ?_
      rintro e t3 ⟨v3, rfl, ho3, hb3⟩
      have P3 := Lib.hid (P2.out.below hb3)
      obtain ⟨A3, n3, c3, rfl, hB3, _⟩ := ownsRow_bs ho3 (by rw [← HBL.out]; exact HA.out.byt) (by have := HOK.out.2; omega)
      have HB3 := Lib.hid hB3
      have HA3 := Lib.hid (HA.out.below P3.out.bel)
      have hq3 := (hb3.block _ (Array.getElem?_eq_some_iff.1 HQ2'.out).1).trans HQ2'.out
      have HSO3 := Lib.hid (HSO2.out.below hb3)
      clear z0 z1 z2 ho3 hB3 hb3
      go_wp2_with fail
      refine (eqBytes_any A3 A n3 c3 n c _ l _ HB3.out HA3.out).mono ?_
      rintro e t4 ⟨rfl, hb4⟩
      rw [decide_eq_true HBL.out.symm]
      have P4 := Lib.hid (P3.out.below hb4)
      have HSO4 := Lib.hid (HSO3.out.below hb4)
      have hq4 := (hb4.block _ (Array.getElem?_eq_some_iff.1 hq3).1).trans hq3
      have z0 := cell_of hq4 0
      have z1 := cell_of hq4 1
      have z2 := cell_of hq4 2
      have d0 := cell_of P4.out.ans 0
      have d1 := cell_of P4.out.ans 1
      have d2 := cell_of P4.out.ans 2
      have f0 := frozen_of P4.out.ans 0
      have f1 := frozen_of P4.out.ans 1
      have f2 := frozen_of P4.out.ans 2
      simp at z0 z1 z2 d0 d1 d2
      have hq25 : q2 < q5 + 1 ∨ True := .inr trivial
      clear hb4 hq3 hq4
      go_wp2_with fail
      obtain ⟨W, hW⟩ : ∃ W, W = ((t4.setCell ⟨q2, 0, none⟩ (.int .i64 (x1.1 : Int))).setCell ⟨q2, 1, none⟩ (.int .i64 (x2.1 : Int))).setCell ⟨q2, 2, none⟩ (.slice As ns cs) := ⟨_, rfl⟩
      have B4 : W.heap[q2]? = some (.cells #[.int .i64 (x1.1 : Int), .int .i64 (x2.1 : Int), .slice As ns cs] 26 (0, 0)) := by
        rw [hW]
        exact heap_set (heap_set (heap_set P4.out.ans 0 _) 1 _) 2 _
      have hBW : Below w.heap.size w W := by
        rw [hW]
        exact ((P4.out.bel.setCell (p := ⟨q2, 0, none⟩) hle _).setCell (p := ⟨q2, 1, none⟩) hle _).setCell (p := ⟨q2, 2, none⟩) hle _
      have hlo5 := P4.out.lo5
      have hlt2 : q2 < q5 + 1 := by rw [HQ2.out]; omega
      have hSW : SpOwn W w.heap.size (.slice As ns cs) S := by
        rw [hW]
        exact (((HSO4.out.far hlt2 0 _).far hlt2 1 _).far hlt2 2 _).base (by omega) (by rw [World.size_setCell, World.size_setCell, World.size_setCell]; exact P4.out.bel.size)
      rw [← hW]
      clear hW d0 d1 d2 f0 f1 f2 z0 z1 z2
      have d0 := cell_of B4 0
      have d1 := cell_of B4 1
      have d2 := cell_of B4 2
      simp at d0 d1 d2
      refine bodyPost_ret (by simp [results, Try.results13, go_sem, d0, d1, d2]; try rfl) rfl ?_
      rw [HX.out]
      exact ⟨_, rfl, hSW, hBW⟩
end Go.Proofs.Ytnaijnbdhojhaaa
