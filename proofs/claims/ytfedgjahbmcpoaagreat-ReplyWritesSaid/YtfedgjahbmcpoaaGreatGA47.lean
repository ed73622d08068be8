/- The document's Copy of an answer: its contract. No conditions. -/
import Derived.Test.YtfedgjahbmcpoaaGreatGA40
import Derived.Test.YtfedgjahbmcpoaaGreatGA46
import Derived.Test.YtfedgjahbmcpoaaGreatGA22
set_option linter.unusedSimpArgs false
set_option linter.unusedVariables false
namespace Go.Proofs.YtfedgjahbmcpoaaGreat
open Go.RowKit

/-- Stops the walk: for arms that are to be typed behind it. -/
theorem hold {p : Prop} (h : Hid p) : p := h.out
/-- The cells of a list whose elements lead nowhere, one behind the other. -/
theorem EL.lies {α : Type} {R : RdE α} {f : α → List Value} {w : World} {A : Option Addr} {n c : Nat} {l : List α} (hf : ∀ x cs, R.rd w x cs → cs = f x) (h : EL R w A n c l) : Lies w A (l.map f).flatten := by
  have hy : ∀ y ∈ l.map f, y.length = R.k := by
    intro y hy
    obtain ⟨x, hx, rfl⟩ := List.mem_map.1 hy
    obtain ⟨i, hi, rfl⟩ := List.getElem_of_mem hx
    obtain ⟨b, o, cs, _, _, hr⟩ := h.at' i hi
    rw [← hf _ _ hr]
    exact R.len _ _ _ hr
  obtain ⟨hl, hfl⟩ := flatK hy
  intro j hj
  have hj0 := hj
  have hk := R.kpos
  rw [hl, List.length_map] at hj
  have hi : j / R.k < l.length := Nat.div_lt_of_lt_mul (by rw [Nat.mul_comm]; exact hj)
  have hr : j % R.k < R.k := Nat.mod_lt _ hk
  obtain ⟨b, o, cs, e, hc, hrd⟩ := h.at' (j / R.k) hi
  have hcs := R.len _ _ _ hrd
  have hcf := hf _ _ hrd
  subst hcf
  have hje : j / R.k * R.k + j % R.k = j := Nat.div_add_mod' j R.k
  have h1 := hc (j % R.k) _ (List.getElem?_eq_getElem (by rw [hcs]; exact hr))
  have h2 := (hfl (j / R.k) (by simpa using hi) (j % R.k) ((f l[j / R.k])[j % R.k]'(by rw [hcs]; exact hr)) (by rw [List.getElem_map]; exact List.getElem?_eq_getElem (by rw [hcs]; exact hr))).1
  rw [hje, List.getElem?_eq_getElem hj0] at h2
  rw [Nat.add_assoc, hje] at h1
  refine ⟨_, e, ?_⟩
  rw [addr_add, h1]
  exact h2.symm
/-- append onto nil of a list whose elements lead nowhere. -/
theorem append_els {α : Type} {R : RdE α} {O : RoE R} {f : α → List Value} (hf : ∀ w x cs, R.rd w x cs → cs = f x) (hof : ∀ w b x, O.ro w b x (f x)) {w : World} {ops : Array Oper} {rest : List Oper} {o : Oper} {a : Act} {Q : Exit → Act → World → Prop} (hgd : o.guard = none) (s x : Operand) (t : TypeId) (z : Value) (bytes : Nat)
    (ho : o.op = .call { callee := .builtin .append, args := #[s, x], argTypes := #[t, t] }) (ht : Tryz.prog.underlying t = some (.slice O.T)) (hi : (Tryz.prog.info? O.T).map (fun i => (i.zero, i.size, i.bytes)) = some (some z, R.k, bytes)) (hz : z.cells.size = R.k) (hby : bytes ≤ 4096)
    (base : Nat) (hs : a.eval s = .slice none 0 0) (A : Option Addr) (n c : Nat) (l : List α) (hx : a.eval x = .slice A n c) (hm : EL R w A n c l) (hl : l.length ≤ 100000) (hbase : base ≤ w.heap.size)
    (h : ∀ v' w', EOwn O w' base v' l → w.grownBy w' none → wpList Tryz.prog ops Q rest (a.put o.dst v') w') :
    wpList Tryz.prog ops Q (o :: rest) a w :=
  wpList_plain hgd fun _ hK => by
    have hlen := hm.len
    have hbb : (0 + n) * bytes ≤ 100000 * 4096 := by rw [Nat.zero_add, hlen]; exact Nat.mul_le_mul hl hby
    have hyl : ∀ y ∈ l.map f, y.length = R.k := by
      intro y hy
      obtain ⟨x, hx, rfl⟩ := List.mem_map.1 hy
      exact O.len w 0 x _ (hof w 0 x)
    have hfl := (flatK hyl).1
    rw [List.length_map] at hfl
    refine wp_append_any s x _ ho base O.T _ R.k bytes ht hi hz R.kpos (.slice none 0 0) 0 [] hs (World.ownsRow_nil _ _ _ _) A n c (l.map f).flatten hx hm.nil (by rw [hlen]; exact hm.le) (by rw [hfl, hlen]) (hm.lies (hf w)) ?_ (by unfold maxLen; omega) (by omega) hbase ?_
    · intro u hu
      obtain ⟨y, hy, hu⟩ := List.mem_flatten.1 hu
      obtain ⟨x, hx, rfl⟩ := List.mem_map.1 hy
      exact O.one w 0 x _ (hof w 0 x) u hu
    · intro v' w' h3 h4 h5
      refine hK _ _ (h v' w' ⟨l.map f, by simp, ?_, fun i hi hi2 => ?_⟩ h4)
      · rw [Nat.zero_add, List.nil_append, hlen] at h3
        exact h3
      · rw [List.getElem_map]
        exact hof _ _ _
set_option maxHeartbeats 64000000 in
set_option maxRecDepth 100000 in
theorem refAnCopy_any {a : Ans} {u v x : Value} {w : World} (h : AnL w a u v x) (hl : a.sn.length ≤ 100000 ∧ a.ce.length ≤ 100000 ∧ a.ed.length ≤ 100000) :
    Calls Tryz.prog 12 #[anV a u v x] w fun r w' => ∃ u' v' x', r = .returned (anV a u' v' x') ∧ AnO w' w.heap.size a u' v' x' ∧ Below w.heap.size w w' := by
  obtain ⟨⟨A, c, rfl, h1⟩, ⟨B, d, rfl, h2⟩, ⟨D, e, rfl, h3⟩⟩ := h
  have hb0 := nx (bel1 w (.cells #[.int .i64 a.er, .slice A a.sn.length c, .int .i64 a.nx, .slice B a.ce.length d, .slice D a.ed.length e, .int .i64 a.lf] 29)) (bel1 (w.alloc (.cells #[.int .i64 a.er, .slice A a.sn.length c, .int .i64 a.nx, .slice B a.ce.length d, .slice D a.ed.length e, .int .i64 a.lf] 29)) (.cells #[.int .i64 0, .slice none 0 0, .int .i64 0, .slice none 0 0, .slice none 0 0, .int .i64 0] 29))
  have hq1 := blkB (heap_alloc_new w (.cells #[.int .i64 a.er, .slice A a.sn.length c, .int .i64 a.nx, .slice B a.ce.length d, .slice D a.ed.length e, .int .i64 a.lf] 29)) (bel1 _ (.cells #[.int .i64 0, .slice none 0 0, .int .i64 0, .slice none 0 0, .slice none 0 0, .int .i64 0] 29))
  have hq2 := heap_alloc_new (w.alloc (.cells #[.int .i64 a.er, .slice A a.sn.length c, .int .i64 a.nx, .slice B a.ce.length d, .slice D a.ed.length e, .int .i64 a.lf] 29)) (.cells #[.int .i64 0, .slice none 0 0, .int .i64 0, .slice none 0 0, .slice none 0 0, .int .i64 0] 29)
  rw [World.size_alloc] at hq2
  have hsz : ((w.alloc (.cells #[.int .i64 a.er, .slice A a.sn.length c, .int .i64 a.nx, .slice B a.ce.length d, .slice D a.ed.length e, .int .i64 a.lf] 29)).alloc (.cells #[.int .i64 0, .slice none 0 0, .int .i64 0, .slice none 0 0, .slice none 0 0, .int .i64 0] 29)).heap.size = w.heap.size + 2 := by rw [World.size_alloc, World.size_alloc]
  have H1 := Lib.hid (h1.below hb0)
  have H2 := Lib.hid h2
  have H3 := Lib.hid h3
  obtain ⟨l1, l2, l3⟩ := hl
  clear h1 h2 h3
  unfold anV
  go_enter Tryz.func12, Tryz.ntmps12
  go_upto_region 1 with (fail)
  obtain ⟨W0, hW⟩ : ∃ W, W = (w.alloc (.cells #[.int .i64 a.er, .slice A a.sn.length c, .int .i64 a.nx, .slice B a.ce.length d, .slice D a.ed.length e, .int .i64 a.lf] 29)).alloc (.cells #[.int .i64 0, .slice none 0 0, .int .i64 0, .slice none 0 0, .slice none 0 0, .int .i64 0] 29) := ⟨_, rfl⟩
  rw [← hW] at hq1 hq2 hb0 hsz H1 ⊢
  clear hW
  obtain ⟨q2, hqq2⟩ : ∃ q, q = w.heap.size + 1 := ⟨_, rfl⟩
  rw [← hqq2] at hq2 ⊢
  obtain ⟨q1, hqq1⟩ : ∃ q, q = w.heap.size := ⟨_, rfl⟩
  rw [← hqq1] at hq1 ⊢
  have hne : q1 ≠ q2 := by omega
  have hle1 : w.heap.size ≤ q1 := by omega
  have hle2 : w.heap.size ≤ q2 := by omega
  have hlt1 : q1 < W0.heap.size := by omega
  have hlt2 : q2 < W0.heap.size := by omega
  have HSZ := Lib.hid hsz
  have HQ1 := Lib.hid hq1
  have HQ2 := Lib.hid hq2
  have HB0 := Lib.hid hb0
  clear hqq1 hqq2 hq1 hq2 hb0 hsz
  go_wp2_with fail
  go_loopw [3, 4] (fun v i wr => ∃ (vo : Value) (k : Nat), vo = v ∧ k ≤ a.sn.length ∧ i = .int .i64 k ∧ Hid (EOwn snO wr W0.heap.size vo (a.sn.take k)) ∧ Below W0.heap.size W0 wr) (fun _ i _ => a.sn.length - (intOf i).toNat)
  case atStart => exact ⟨_, 0, rfl, Nat.zero_le _, rfl, Lib.hid (EOwn.nil _ _), bel0 _⟩
  case round =>
    obtain ⟨vo, k, rfl, hk, rfl, HO, hb⟩ := hrel
    obtain ⟨x0, x1, x2, x3, x4, x5⟩ := an_block (blkB HQ1.out hb)
    obtain ⟨Ao, co, eo⟩ := HO.out.len
    subst eo
    by_cases hlt : k < a.sn.length
    · have hlI : (k : Int) < (a.sn.length : Int) := by omega
      obtain ⟨g, o, cs, hA, ⟨P, m9, c9, rfl, hAS⟩, hc⟩ := H1.out.cellsAt hb hlt
      subst hA
      have haa : (⟨g, o, none⟩ : Addr).add (k * 11) = ⟨g, o + k * 11, none⟩ := addr_add _ _ _
      have HTL := Lib.hid (show a.sn.take (k + 1) = a.sn.take k ++ [a.sn[k]] from List.take_succ_eq_append_getElem hlt)
      have htk : (a.sn.take k).length ≤ 100000 := by have := List.length_take_le k a.sn; omega
      have e0 : wr.cell? ⟨g, o + k * 11, none⟩ = _ := hc 0 _ rfl
      have e1 : wr.cell? ⟨g, o + k * 11 + 1, none⟩ = _ := hc 1 _ rfl
      have e2 : wr.cell? ⟨g, o + k * 11 + 2, none⟩ = _ := hc 2 _ rfl
      have e3 : wr.cell? ⟨g, o + k * 11 + 3, none⟩ = _ := hc 3 _ rfl
      have e4 : wr.cell? ⟨g, o + k * 11 + 4, none⟩ = _ := hc 4 _ rfl
      have e5 : wr.cell? ⟨g, o + k * 11 + 5, none⟩ = _ := hc 5 _ rfl
      have e6 : wr.cell? ⟨g, o + k * 11 + 6, none⟩ = _ := hc 6 _ rfl
      have e7 : wr.cell? ⟨g, o + k * 11 + 7, none⟩ = _ := hc 7 _ rfl
      have e8 : wr.cell? ⟨g, o + k * 11 + 8, none⟩ = _ := hc 8 _ rfl
      have e9 : wr.cell? ⟨g, o + k * 11 + 9, none⟩ = _ := hc 9 _ rfl
      have e10 : wr.cell? ⟨g, o + k * 11 + 10, none⟩ = _ := hc 10 _ rfl
      generalize a.sn[k] = s at *
      generalize a.sn.take k = Q0 at *
      have hbx := bel1 wr (.cells #[.int .i64 s.sp.tr, .int .i64 s.sp.id, .int .i64 s.sp.pa, .string s.sp.sv, .string s.sp.op, .int .i64 s.sp.st, .int .i64 s.sp.ln, .string s.sp.sj, .slice P m9 c9, .int .i64 s.dp, .bool s.lo] 50)
      have X := Lib.hid (heap_alloc_new wr (.cells #[.int .i64 s.sp.tr, .int .i64 s.sp.id, .int .i64 s.sp.pa, .string s.sp.sv, .string s.sp.op, .int .i64 s.sp.st, .int .i64 s.sp.ln, .string s.sp.sj, .slice P m9 c9, .int .i64 s.dp, .bool s.lo] 50))
      have hb1 := nx hb hbx
      have HAS := Lib.hid (hAS.below hbx)
      have HO1 := Lib.hid (HO.out.below hbx)
      have HNE := Lib.hid (HO.out.ne (Nat.le_refl _))
      have hwr : W0.heap.size ≤ wr.heap.size := hb.size
      have hws : (wr.alloc (.cells #[.int .i64 s.sp.tr, .int .i64 s.sp.id, .int .i64 s.sp.pa, .string s.sp.sv, .string s.sp.op, .int .i64 s.sp.st, .int .i64 s.sp.ln, .string s.sp.sj, .slice P m9 c9, .int .i64 s.dp, .bool s.lo] 50)).heap.size = wr.heap.size + 1 := World.size_alloc ..
      clear hc hAS hbx HO
      go_upto_region 6 with (fail)
      obtain ⟨W1, hW⟩ : ∃ W, W = wr.alloc (.cells #[.int .i64 s.sp.tr, .int .i64 s.sp.id, .int .i64 s.sp.pa, .string s.sp.sv, .string s.sp.op, .int .i64 s.sp.st, .int .i64 s.sp.ln, .string s.sp.sj, .slice P m9 c9, .int .i64 s.dp, .bool s.lo] 50) := ⟨_, rfl⟩
      rw [← hW] at X hb1 HAS HO1 hws ⊢
      clear hW
      obtain ⟨qs, hqs⟩ : ∃ q, q = wr.heap.size := ⟨_, rfl⟩
      rw [← hqs] at X HNE ⊢
      have hql : W0.heap.size ≤ qs := by omega
      have hbase : W0.heap.size ≤ W1.heap.size := by omega
      have f8 := cell_of X.out 8
      simp at f8
      clear hqs hws e0 e1 e2 e3 e4 e5 e6 e7 e8 e9 e10 x0 x1 x2 x3 x4 x5
      go_wp2_with (first
        | (at_builtin; refine append_atts rfl (.const (.slice none 0 0)) (.tmp 20) rfl W1.heap.size rfl P m9 c9 s.sp.ats rfl HAS.out (Nat.le_refl _) ?_; intro v3 w3 ho3 hg3; have hb3 := nx hb1 (bel_none hg3); have X3 := Lib.hid (blkB X.out (bel_none hg3)); have HO3 := Lib.hid (HO1.out.below (bel_none hg3)); have HV := Lib.hid (ownsRow_base ho3 hbase); have y0 := cell_of X3.out 0; have y1 := cell_of X3.out 1; have y2 := cell_of X3.out 2; have y3 := cell_of X3.out 3; have y4 := cell_of X3.out 4; have y5 := cell_of X3.out 5; have y6 := cell_of X3.out 6; have y7 := cell_of X3.out 7; have y8 := cell_of X3.out 8; have y9 := cell_of X3.out 9; have y10 := cell_of X3.out 10; simp at y0 y1 y2 y3 y4 y5 y6 y7 y8 y9 y10; have hf8 := frozen_of X3.out 8; obtain ⟨A3, n3, c3, rfl, _⟩ : ∃ A4 n4 c4, v3 = .slice A4 n4 c4 ∧ True := (by rcases ho3.2 with ⟨h, _⟩ | ⟨g', cap, cur, h, _⟩ <;> exact ⟨_, _, _, h, trivial⟩); clear ho3 hg3 X HO1 f8 hb1; have X4 := Lib.hid (heap_set X3.out 8 (.slice A3 n3 c3)); have HO4 := Lib.hid (HO3.out.box X3.out HNE.out 8 (.slice A3 n3 c3)); have HV4 := Lib.hid (ownsRow_setCell_other HV.out (a := ⟨qs, 8, none⟩) (own_ne2 HV.out X3.out (by decide)) (.slice A3 n3 c3)); have hb4 := hb3.setCell (p := ⟨qs, 8, none⟩) hql (.slice A3 n3 c3); have hz4 : (w3.setCell ⟨qs, 8, none⟩ (.slice A3 n3 c3)).heap.size = w3.heap.size := World.size_setCell _ _ _; clear HV HO3)
        | (at_builtin; refine hold ?_))
      refine Lib.hid ?_
      have hA9 := heap_alloc_new (w3.setCell ⟨qs, 8, none⟩ (.slice A3 n3 c3)) (.cells #[.int .i64 s.sp.tr, .int .i64 s.sp.id, .int .i64 s.sp.pa, .string s.sp.sv, .string s.sp.op, .int .i64 s.sp.st, .int .i64 s.sp.ln, .string s.sp.sj, .slice A3 n3 c3, .int .i64 s.dp, .bool s.lo] 50)
      rw [hz4] at hA9
      have hz9 : Q0.length + 1 ≤ 34359738368 := by omega
      have hbs9 : W0.heap.size ≤ ((w3.setCell ⟨qs, 8, none⟩ (.slice A3 n3 c3)).alloc (.cells #[.int .i64 s.sp.tr, .int .i64 s.sp.id, .int .i64 s.sp.pa, .string s.sp.sv, .string s.sp.op, .int .i64 s.sp.st, .int .i64 s.sp.ln, .string s.sp.sj, .slice A3 n3 c3, .int .i64 s.dp, .bool s.lo] 50)).heap.size := by rw [World.size_alloc, hz4]; exact Nat.le_succ_of_le hb3.size
      refine append_el (O := snO) rfl (.tmp 24) (.tmp 26) 25 _ _ rfl Tryz.underlying25 infoSn rfl (by decide) W0.heap.size _ Q0 s (s.cells (.slice A3 n3 c3)) rfl (HO4.out.below (bel1 _ _)) ⟨_, rfl, ownsRow_below HV4.out (bel1 _ _)⟩ _ rfl (0, 0) hA9 hz9 hbs9 ?_
      intro v5 w5 ho5 hg5
      have hb5 := grown_below (hb4.alloc (by rw [hz4]; exact hb3.size) (.cells #[.int .i64 s.sp.tr, .int .i64 s.sp.id, .int .i64 s.sp.pa, .string s.sp.sv, .string s.sp.op, .int .i64 s.sp.st, .int .i64 s.sp.ln, .string s.sp.sj, .slice A3 n3 c3, .int .i64 s.dp, .bool s.lo] 50)) hg5 (EOwn.block HO4.out)
      have HO5 := Lib.hid ho5
      clear ho5 hg5 hA9 hbs9
      go_wp2_with fail
      exact ⟨⟨_, k + 1, rfl, by omega, by go_num, by rw [HTL.out]; exact HO5, hb5⟩, by simp [intOf]; omega⟩
    · obtain rfl : k = a.sn.length := by omega
      have HO1 := Lib.hid (show EOwn snO wr W0.heap.size (.slice Ao a.sn.length co) a.sn by have := HO.out; rw [List.take_length] at this; exact this)
      rw [List.take_length]
      clear HO hk hlt
      have hq1 := blkB HQ1.out hb
      have hq2 := blkB HQ2.out hb
      have f1 := frozen_of hq1 1
      have HQA := Lib.hid hq1
      have HQB := Lib.hid hq2
      have hbw := nx HB0.out hb
      have hwr : W0.heap.size ≤ wr.heap.size := hb.size
      clear hq1 hq2
      go_upto_region 8 with (fail)
      go_wp2_with (at_builtin; refine hold ?_)
      refine Lib.hid ?_
      obtain ⟨T1, hT⟩ : ∃ W, W = wr.setCell ⟨q1, 1, none⟩ (.slice Ao a.sn.length co) := ⟨_, rfl⟩
      have P1 := Lib.hid (show T1.heap[q1]? = some (.cells #[.int .i64 a.er, .slice Ao a.sn.length co, .int .i64 a.nx, .slice B a.ce.length d, .slice D a.ed.length e, .int .i64 a.lf] 29 (0, 0)) by rw [hT]; exact heap_set HQA.out 1 _)
      have R1 := Lib.hid (show T1.heap[q2]? = some (.cells #[.int .i64 0, .slice none 0 0, .int .i64 0, .slice none 0 0, .slice none 0 0, .int .i64 0] 29 (0, 0)) by rw [hT]; exact (Below.heap_setCell wr ⟨q1, 1, none⟩ _ q2 (by show q2 ≠ q1; omega)).trans HQB.out)
      have B1 := Lib.hid (show Below w.heap.size w T1 by rw [hT]; exact hbw.setCell (p := ⟨q1, 1, none⟩) hle1 _)
      have hs1 : W0.heap.size ≤ T1.heap.size := by rw [hT, World.size_setCell]; omega
      have HO1t1 := Lib.hid (show EOwn snO T1 W0.heap.size (.slice Ao a.sn.length co) a.sn by rw [hT]; exact HO1.out.far hlt1 1 _)
      rw [← hT]
      clear hT
      clear x0 x1 x2 x3 x4 x5 f1 HQA HQB HO1 hbw hwr hb
      refine append_els (O := ceO) (f := Cel.cells) (fun _ _ _ h => h) (fun _ _ _ => rfl) rfl (.const (.slice none 0 0)) (.tmp 31) 26 _ 16 rfl Tryz.underlying26 infoCe rfl (by decide) W0.heap.size rfl B _ d a.ce rfl (H2.out.below B1.out) l2 hs1 ?_
      intro v w1 ho hg
      have hn := bel_none hg
      have P1b := Lib.hid (blkB P1.out hn)
      have R1b := Lib.hid (blkB R1.out hn)
      have B1b := nx B1.out hn
      have hz1 : W0.heap.size ≤ w1.heap.size := Nat.le_trans hs1 hn.size
      obtain ⟨A1, c1, ev⟩ := ho.len
      subst ev
      have N1 := Lib.hid ho
      have HO1t1b := Lib.hid (HO1t1.out.below hn)
      clear ho hg hn HO1t1 P1 R1 B1
      obtain ⟨x0, x1, x2, x3, x4, x5⟩ := an_block P1b.out
      have f3 := frozen_of P1b.out 3
      go_wp2_with (at_builtin; refine hold ?_)
      refine Lib.hid ?_
      obtain ⟨T2, hT⟩ : ∃ W, W = w1.setCell ⟨q1, 3, none⟩ (.slice A1 a.ce.length c1) := ⟨_, rfl⟩
      have P2 := Lib.hid (show T2.heap[q1]? = some (.cells #[.int .i64 a.er, .slice Ao a.sn.length co, .int .i64 a.nx, .slice A1 a.ce.length c1, .slice D a.ed.length e, .int .i64 a.lf] 29 (0, 0)) by rw [hT]; exact heap_set P1b.out 3 _)
      have R2 := Lib.hid (show T2.heap[q2]? = some (.cells #[.int .i64 0, .slice none 0 0, .int .i64 0, .slice none 0 0, .slice none 0 0, .int .i64 0] 29 (0, 0)) by rw [hT]; exact (Below.heap_setCell w1 ⟨q1, 3, none⟩ _ q2 (by show q2 ≠ q1; omega)).trans R1b.out)
      have B2 := Lib.hid (show Below w.heap.size w T2 by rw [hT]; exact B1b.setCell (p := ⟨q1, 3, none⟩) hle1 _)
      have hs2 : W0.heap.size ≤ T2.heap.size := by rw [hT, World.size_setCell]; omega
      have HO1t1bt2 := Lib.hid (show EOwn snO T2 W0.heap.size (.slice Ao a.sn.length co) a.sn by rw [hT]; exact HO1t1b.out.far hlt1 3 _)
      have N1t2 := Lib.hid (show EOwn ceO T2 W0.heap.size (.slice A1 a.ce.length c1) a.ce by rw [hT]; exact N1.out.far hlt1 3 _)
      rw [← hT]
      clear hT
      clear x0 x1 x2 x3 x4 x5 f3 P1b R1b B1b HO1t1b N1 hz1
      refine append_els (O := edO) (f := Edg.cells) (fun _ _ _ h => h) (fun _ _ _ => rfl) rfl (.const (.slice none 0 0)) (.tmp 35) 27 _ 40 rfl Tryz.underlying27 infoEd rfl (by decide) W0.heap.size rfl D _ e a.ed rfl (H3.out.below B2.out) l3 hs2 ?_
      intro v w2 ho hg
      have hn := bel_none hg
      have P2b := Lib.hid (blkB P2.out hn)
      have R2b := Lib.hid (blkB R2.out hn)
      have B2b := nx B2.out hn
      have hz2 : W0.heap.size ≤ w2.heap.size := Nat.le_trans hs2 hn.size
      obtain ⟨A2, c2, ev⟩ := ho.len
      subst ev
      have N2 := Lib.hid ho
      have HO1t1bt2b := Lib.hid (HO1t1bt2.out.below hn)
      have N1t2b := Lib.hid (N1t2.out.below hn)
      clear ho hg hn HO1t1bt2 N1t2 P2 R2 B2
      obtain ⟨x0, x1, x2, x3, x4, x5⟩ := an_block P2b.out
      have f4 := frozen_of P2b.out 4
      have g0 := frozen_of R2b.out 0
      have g1 := frozen_of R2b.out 1
      have g2 := frozen_of R2b.out 2
      have g3 := frozen_of R2b.out 3
      have g4 := frozen_of R2b.out 4
      have g5 := frozen_of R2b.out 5
      obtain ⟨y0, y1, y2, y3, y4, y5⟩ := an_block R2b.out
      go_wp2_with fail
      obtain ⟨W, hW⟩ : ∃ W, W = (((((((w2.setCell ⟨q1, 4, none⟩ (.slice A2 a.ed.length c2)).setCell ⟨q2, 0, none⟩ (.int .i64 a.er)).setCell ⟨q2, 1, none⟩ (.slice Ao a.sn.length co)).setCell ⟨q2, 2, none⟩ (.int .i64 a.nx)).setCell ⟨q2, 3, none⟩ (.slice A1 a.ce.length c1)).setCell ⟨q2, 4, none⟩ (.slice A2 a.ed.length c2)).setCell ⟨q2, 5, none⟩ (.int .i64 a.lf)) := ⟨_, rfl⟩
      have B3q : (w2.setCell ⟨q1, 4, none⟩ (.slice A2 a.ed.length c2)).heap[q2]? = some (.cells #[.int .i64 0, .slice none 0 0, .int .i64 0, .slice none 0 0, .slice none 0 0, .int .i64 0] 29 (0, 0)) := (Below.heap_setCell w2 ⟨q1, 4, none⟩ _ q2 (by show q2 ≠ q1; omega)).trans R2b.out
      have h3 := B2b.setCell (p := ⟨q1, 4, none⟩) hle1 (.slice A2 a.ed.length c2)
      have B4 : W.heap[q2]? = some (.cells #[.int .i64 a.er, .slice Ao a.sn.length co, .int .i64 a.nx, .slice A1 a.ce.length c1, .slice A2 a.ed.length c2, .int .i64 a.lf] 29 (0, 0)) := by rw [hW]; exact (heap_set (heap_set (heap_set (heap_set (heap_set (heap_set B3q 0 _) 1 _) 2 _) 3 _) 4 _) 5 _)
      have hBW : Below w.heap.size w W := by rw [hW]; exact ((((((h3.setCell (p := ⟨q2, 0, none⟩) hle2 _).setCell (p := ⟨q2, 1, none⟩) hle2 _).setCell (p := ⟨q2, 2, none⟩) hle2 _).setCell (p := ⟨q2, 3, none⟩) hle2 _).setCell (p := ⟨q2, 4, none⟩) hle2 _).setCell (p := ⟨q2, 5, none⟩) hle2 _)
      have hAO : AnO W W0.heap.size a (.slice Ao a.sn.length co) (.slice A1 a.ce.length c1) (.slice A2 a.ed.length c2) := by
        rw [hW]
        exact ⟨(((((((HO1t1bt2b.out.far hlt1 4 _).far hlt2 0 _).far hlt2 1 _).far hlt2 2 _).far hlt2 3 _).far hlt2 4 _).far hlt2 5 _), (((((((N1t2b.out.far hlt1 4 _).far hlt2 0 _).far hlt2 1 _).far hlt2 2 _).far hlt2 3 _).far hlt2 4 _).far hlt2 5 _), (((((((N2.out.far hlt1 4 _).far hlt2 0 _).far hlt2 1 _).far hlt2 2 _).far hlt2 3 _).far hlt2 4 _).far hlt2 5 _)⟩
      rw [← hW]
      clear hW x0 x1 x2 x3 x4 x5 y0 y1 y2 y3 y4 y5 f4 g0 g1 g2 g3 g4 g5
      obtain ⟨d0, d1, d2, d3, d4, d5⟩ := an_block B4
      refine bodyPost_ret (by simp [results, Tryz.results12, go_sem, d0, d1, d2, d3, d4, d5]; try rfl) rfl ?_
      exact ⟨_, _, _, rfl, hAO.base (by rw [HSZ.out]; omega), hBW⟩
end Go.Proofs.YtfedgjahbmcpoaaGreat
