/- Parts of an answer in memory; the program's small functions on them. No conditions. -/
import Derived.Test.YtfedgjahbmcpoaaGreatGB25
import Derived.Test.YtfedgjahbmcpoaaGreatGB27
import Derived.Test.YtfedgjahbmcpoaaGreatGB23
import Derived.Test.YtfedgjahbmcpoaaGreatGB24
set_option linter.unusedSimpArgs false
set_option linter.unusedVariables false
namespace Go.Proofs.YtfedgjahbmcpoaaGreat
open Go.RowKit

theorem blkB {w w' : World} {q : Nat} {o : Obj} (h : w.heap[q]? = some o) (hb : Below w.heap.size w w') : w'.heap[q]? = some o := (hb.block _ (Array.getElem?_eq_some_iff.1 h).1).trans h
def Sen.cells (s : Sen) (v : Value) : List Value := [.int .i64 s.sp.tr, .int .i64 s.sp.id, .int .i64 s.sp.pa, .string s.sp.sv, .string s.sp.op, .int .i64 s.sp.st, .int .i64 s.sp.ln, .string s.sp.sj, v, .int .i64 s.dp, .bool s.lo]
def Sen.v (s : Sen) (v : Value) : Value := .agg #[.int .i64 s.sp.tr, .int .i64 s.sp.id, .int .i64 s.sp.pa, .string s.sp.sv, .string s.sp.op, .int .i64 s.sp.st, .int .i64 s.sp.ln, .string s.sp.sj, v, .int .i64 s.dp, .bool s.lo]
def Cel.cells (c : Cel) : List Value := [.int .i64 c.at', .int .i64 c.ct]
def Cel.v (c : Cel) : Value := .agg #[.int .i64 c.at', .int .i64 c.ct]
def Edg.cells (e : Edg) : List Value := [.string e.fr, .string e.to', .int .i64 e.ct]
def Edg.v (e : Edg) : Value := .agg #[.string e.fr, .string e.to', .int .i64 e.ct]
def snR : RdE Sen := { k := 11, kpos := by omega, rd := fun w s cs => ∃ B m d, cs = s.cells (.slice B m d) ∧ AS w B m d s.sp.ats, len := fun w x cs ⟨B, m, d, h, _⟩ => by rw [h]; rfl, below := fun w w' x cs ⟨B, m, d, h, hA⟩ hb => ⟨B, m, d, h, hA.below hb⟩ }
def ceR : RdE Cel := { k := 2, kpos := by omega, rd := fun _ c cs => cs = c.cells, len := fun w x cs h => by rw [h]; rfl, below := fun w w' x cs h _ => h }
def edR : RdE Edg := { k := 3, kpos := by omega, rd := fun _ c cs => cs = c.cells, len := fun w x cs h => by rw [h]; rfl, below := fun w w' x cs h _ => h }
def snO : RoE snR where
  T := 50
  ro := fun w b s cs => ∃ va, cs = s.cells va ∧ w.ownsRow b 101 6 va s.sp.ats.length (acs s.sp.ats)
  len := fun w b x cs ⟨va, h, _⟩ => (by rw [h]; rfl)
  one := fun w b x cs ⟨va, h, ho⟩ => (by
    have huc : va.oneCell' = true := by rcases ho.2 with ⟨e, _⟩ | ⟨_, _, _, e, _⟩ <;> rw [e] <;> rfl
    subst h
    intro u hu
    simp only [Sen.cells, List.mem_cons, List.not_mem_nil, or_false] at hu
    rcases hu with rfl | rfl | rfl | rfl | rfl | rfl | rfl | rfl | rfl | rfl | rfl <;> first | rfl | exact huc)
  keep := fun w w' b x cs ⟨va, h, ho⟩ hk => ⟨va, h, own_keep ho (fun k c mk hb _ hc => hk k c _ mk hb (by decide) hc)⟩
  base := fun w b b' x cs ⟨va, h, ho⟩ hb => ⟨va, h, ownsRow_base ho hb⟩
def ceO : RoE ceR where
  T := 54
  ro := fun _ _ c cs => cs = c.cells
  len := fun w b x cs h => (by rw [h]; rfl)
  one := fun w b x cs h => (by
    subst h
    intro u hu
    simp only [Cel.cells, List.mem_cons, List.not_mem_nil, or_false] at hu
    rcases hu with rfl | rfl <;> rfl)
  keep := fun w w' b x cs h _ => h
  base := fun w b b' x cs h _ => h
def edO : RoE edR where
  T := 58
  ro := fun _ _ c cs => cs = c.cells
  len := fun w b x cs h => (by rw [h]; rfl)
  one := fun w b x cs h => (by
    subst h
    intro u hu
    simp only [Edg.cells, List.mem_cons, List.not_mem_nil, or_false] at hu
    rcases hu with rfl | rfl | rfl <;> rfl)
  keep := fun w w' b x cs h _ => h
  base := fun w b b' x cs h _ => h
theorem snO_rd : ∀ (w : World) b x cs, ((∀ a ∈ x.sp.ats, a.lab.p < 4294967296) ∧ x.sp.ats.length ≤ 2199023255552) → snO.ro w b x cs → snR.rd w x cs := by
  rintro w b x cs ⟨hp, hl⟩ ⟨va, h, ho⟩
  obtain ⟨A, n, c, e, hA⟩ := own_asL ho hp hl
  exact ⟨A, n, c, by rw [← e]; exact h, hA⟩
theorem ceO_rd : ∀ (w : World) b x cs, True → ceO.ro w b x cs → ceR.rd w x cs := fun _ _ _ _ _ h => h
theorem edO_rd : ∀ (w : World) b x cs, True → edO.ro w b x cs → edR.rd w x cs := fun _ _ _ _ _ h => h
theorem infoSn : (Tryz.prog.info? 50).map (fun i => (i.zero, i.size, i.bytes)) = some (some (.agg #[.int .i64 0, .int .i64 0, .int .i64 0, .string ⟨#[]⟩, .string ⟨#[]⟩, .int .i64 0, .int .i64 0, .string ⟨#[]⟩, .slice none 0 0, .int .i64 0, .bool false]), 11, 128) := by kernel_rfl
theorem infoCe : (Tryz.prog.info? 54).map (fun i => (i.zero, i.size, i.bytes)) = some (some (.agg #[.int .i64 0, .int .i64 0]), 2, 16) := by kernel_rfl
theorem infoEd : (Tryz.prog.info? 58).map (fun i => (i.zero, i.size, i.bytes)) = some (some (.agg #[.string ⟨#[]⟩, .string ⟨#[]⟩, .int .i64 0]), 3, 40) := by kernel_rfl

set_option maxHeartbeats 4000000 in
theorem rin_any (n a : Int) (w : World) :
    Calls Tryz.prog 48 #[.int .i64 n, .int .i64 a] w fun e w' => e = .returned (.bool (inM n a)) ∧ w = w' := by
  by_cases h1 : a ≤ n
  · by_cases h2 : n ≤ 9007199254740991
    · rw [inM_iff.2 ⟨h1, h2⟩]
      go_enter Tryz.func48, Tryz.ntmps48
      go_wp2
      go_ret
      exact ⟨rfl, rfl⟩
    · rw [show inM n a = false from by simp [inM]; omega]
      go_enter Tryz.func48, Tryz.ntmps48
      go_wp2
      go_ret
      exact ⟨rfl, rfl⟩
  · rw [show inM n a = false from by simp [inM]; omega]
    go_enter Tryz.func48, Tryz.ntmps48
    go_wp2
    go_ret
    exact ⟨rfl, rfl⟩
set_option maxHeartbeats 4000000 in
theorem refRin_any (n a : Int) (w : World) :
    Calls Tryz.prog 58 #[.int .i64 n, .int .i64 a] w fun e w' => e = .returned (.bool (inM n a)) ∧ w = w' := by
  by_cases h1 : a ≤ n
  · by_cases h2 : n ≤ 9007199254740991
    · rw [inM_iff.2 ⟨h1, h2⟩]
      go_enter Tryz.func58, Tryz.ntmps58
      go_wp2
      go_ret
      exact ⟨rfl, rfl⟩
    · rw [show inM n a = false from by simp [inM]; omega]
      go_enter Tryz.func58, Tryz.ntmps58
      go_wp2
      go_ret
      exact ⟨rfl, rfl⟩
  · rw [show inM n a = false from by simp [inM]; omega]
    go_enter Tryz.func58, Tryz.ntmps58
    go_wp2
    go_ret
    exact ⟨rfl, rfl⟩
theorem smYes {w w' : World} {p : Prop} (hp : p) (hb : Below w.heap.size w w') : SmR w w' (.returned (.bool true)) p := ⟨true, rfl, ⟨fun _ => hp, fun _ => rfl⟩, hb⟩
set_option maxHeartbeats 16000000 in
set_option maxRecDepth 100000 in
theorem maySeen_any {A : Option Addr} {n c : Nat} {s : Sen} {w : World} (h : AS w A n c s.sp.ats) :
    Calls Tryz.prog 50 #[s.v (.slice A n c)] w fun e w' => SmR w w' e (OkSn s) := by
  have hb1 := bel1 w (.cells #[.int .i64 s.sp.tr, .int .i64 s.sp.id, .int .i64 s.sp.pa, .string s.sp.sv, .string s.sp.op, .int .i64 s.sp.st, .int .i64 s.sp.ln, .string s.sp.sj, .slice A n c, .int .i64 s.dp, .bool s.lo] 50)
  have HQ := Lib.hid (heap_alloc_new w (.cells #[.int .i64 s.sp.tr, .int .i64 s.sp.id, .int .i64 s.sp.pa, .string s.sp.sv, .string s.sp.op, .int .i64 s.sp.st, .int .i64 s.sp.ln, .string s.sp.sj, .slice A n c, .int .i64 s.dp, .bool s.lo] 50))
  have HC := Lib.hid (checkSpan_any (h.below hb1))
  have HB1 := Lib.hid hb1
  clear h hb1
  obtain ⟨⟨tr, id, pa, sv, op, st, ln, sj, ats⟩, dp, lo⟩ := s
  unfold Spn.v at HC
  unfold Sen.v
  simp only at HC HQ HB1 ⊢
  go_enter Tryz.func50, Tryz.ntmps50
  go_wp2_with fail
  refine HC.out.mono ?_
  rintro e w2 ⟨rfl, hb2⟩
  have hq := blkB HQ.out hb2
  have d1 := cell_of hq 9
  have d7 := cell_of hq 7
  simp at d1 d7
  have HB2 := Lib.hid (nx HB1.out hb2)
  clear hq hb2 HQ HB1 HC
  by_cases hok : OkS ⟨tr, id, pa, sv, op, st, ln, sj, ats⟩
  case neg =>
    rw [chkS_no hok]
    have HNO := Lib.hid hok
    clear hok
    go_wp2_with fail
    go_ret
    exact smNo (fun h => HNO.out h.sp) HB2.out
  rw [chkS_yes hok]
  have HOK := Lib.hid hok
  clear hok
  by_cases hs : sj = ⟨#[]⟩
  case neg =>
    have HNO := Lib.hid hs
    have hsj4 := ne_empty hs
    clear hs
    go_wp2_with fail
    go_ret
    exact smNo (fun h => HNO.out h.sj) HB2.out
  subst hs
  by_cases h0 : 0 ≤ dp
  case neg =>
    go_wp2_with fail
    go_ret
    refine smNo ?_ HB2.out
    intro h
    have := h.dp
    simp only at this
    omega
  by_cases h1 : dp ≤ 1000
  case neg =>
    have hd : decide (dp ≤ 1000) = false := decide_eq_false h1
    go_wp2_with fail
    go_ret
    refine smNo ?_ HB2.out
    intro h
    have := h.dp
    simp only at this
    omega
  have hd : decide (dp ≤ 1000) = true := decide_eq_true h1
  go_wp2_with fail
  go_ret
  exact smYes ⟨HOK.out, rfl, h0, h1⟩ HB2.out
set_option maxHeartbeats 16000000 in
set_option maxRecDepth 100000 in
theorem mayCell_any (c : Cel) (w : World) : Calls Tryz.prog 53 #[c.v] w fun e w' => SmR w w' e (OkCe c) := by
  have HB1 := Lib.hid (bel1 w (.cells #[.int .i64 c.at', .int .i64 c.ct] 54))
  obtain ⟨a, t⟩ := c
  unfold Cel.v
  simp only at HB1 ⊢
  go_enter Tryz.func53, Tryz.ntmps53
  go_wp2_with fail
  refine (rin_any _ _ _).mono ?_
  rintro e w2 ⟨rfl, rfl⟩
  cases h1 : inM a (-9007199254740991) with
  | false =>
    go_wp2_with fail
    go_ret
    exact smNo (fun h => inM_no h1 h.at') HB1.out
  | true =>
    have H1 := Lib.hid (inM_iff.1 h1)
    clear h1
    go_wp2_with fail
    refine (rin_any _ _ _).mono ?_
    rintro e w2 ⟨rfl, rfl⟩
    cases h2 : inM t 1 with
    | false =>
      go_wp2_with fail
      go_ret
      exact smNo (fun h => inM_no h2 h.ct) HB1.out
    | true =>
      have H2 := Lib.hid (inM_iff.1 h2)
      clear h2
      go_wp2_with fail
      go_ret
      exact smYes ⟨H1.out, H2.out⟩ HB1.out
set_option maxHeartbeats 16000000 in
set_option maxRecDepth 100000 in
theorem cellAhead_any (a b : Cel) (w : World) : Calls Tryz.prog 54 #[a.v, b.v] w fun e w' => SmR w w' e (aheadC a b) := by
  have HB1 := Lib.hid (nx (bel1 w (.cells #[.int .i64 a.at', .int .i64 a.ct] 54)) (bel1 (w.alloc (.cells #[.int .i64 a.at', .int .i64 a.ct] 54)) (.cells #[.int .i64 b.at', .int .i64 b.ct] 54)))
  obtain ⟨a, t⟩ := a
  obtain ⟨b, u⟩ := b
  unfold Cel.v aheadC
  simp only at HB1 ⊢
  by_cases h : a < b
  · go_enter Tryz.func54, Tryz.ntmps54
    go_wp2_with fail
    go_ret
    exact smYes h HB1.out
  · go_enter Tryz.func54, Tryz.ntmps54
    go_wp2_with fail
    go_ret
    exact smNo (by omega) HB1.out
set_option maxHeartbeats 16000000 in
set_option maxRecDepth 100000 in
theorem anyOrder_any (a b : Sen) (u v : Value) (w : World) : Calls Tryz.prog 51 #[a.v u, b.v v] w fun e w' => SmR w w' e True := by
  have HB1 := Lib.hid (nx (bel1 w (.cells (a.cells u).toArray 50)) (bel1 (w.alloc (.cells (a.cells u).toArray 50)) (.cells (b.cells v).toArray 50)))
  unfold Sen.cells at HB1
  unfold Sen.v
  go_enter Tryz.func51, Tryz.ntmps51
  go_wp2_with fail
  go_ret
  exact smYes trivial HB1.out
set_option maxHeartbeats 16000000 in
set_option maxRecDepth 100000 in
theorem mayEdge_any (x : Edg) (w : World) : Calls Tryz.prog 56 #[x.v] w fun e w' => SmR w w' e (OkEd x) := by
  obtain ⟨f, t, c⟩ := x
  have HB1 := Lib.hid (bel1 w (.cells #[.string f, .string t, .int .i64 c] 58))
  have HQ := Lib.hid (heap_alloc_new w (.cells #[.string f, .string t, .int .i64 c] 58))
  unfold Edg.v
  simp only
  go_enter Tryz.func56, Tryz.ntmps56
  go_wp2_with fail
  refine (isName_any _ _).mono ?_
  rintro e w2 ⟨rfl, rfl⟩
  cases h1 : nm (sb f) with
  | false =>
    go_wp2_with fail
    go_ret
    exact smNo (fun h => by have := h.fr; simp only at this; rw [h1] at this; cases this) HB1.out
  | true =>
    have H1 := Lib.hid h1
    clear h1
    go_wp2_with fail
    refine (isName_any _ _).mono ?_
    rintro e w3 ⟨rfl, rfl⟩
    cases h1 : nm (sb t) with
    | false =>
      go_wp2_with fail
      go_ret
      exact smNo (fun h => by have := h.to'; simp only at this; rw [h1] at this; cases this) HB1.out
    | true =>
      have H2 := Lib.hid h1
      clear h1
      go_wp2_with fail
      refine (rin_any _ _ _).mono ?_
      rintro e w4 ⟨rfl, rfl⟩
      cases h2 : inM c 1 with
      | false =>
        go_wp2_with fail
        go_ret
        exact smNo (fun h => inM_no h2 h.ct) HB1.out
      | true =>
        have H3 := Lib.hid (inM_iff.1 h2)
        clear h2
        go_wp2_with fail
        go_ret
        exact smYes ⟨H1.out, H2.out, H3.out⟩ HB1.out
set_option maxHeartbeats 16000000 in
set_option maxRecDepth 100000 in
theorem edgeAhead_any (a b : Edg) (w : World) : Calls Tryz.prog 57 #[a.v, b.v] w fun e w' => SmR w w' e (aheadE a b) := by
  obtain ⟨f, t, c⟩ := a
  obtain ⟨f2, t2, c2⟩ := b
  have HB1 := Lib.hid (nx (bel1 w (.cells #[.string f, .string t, .int .i64 c] 58)) (bel1 (w.alloc (.cells #[.string f, .string t, .int .i64 c] 58)) (.cells #[.string f2, .string t2, .int .i64 c2] 58)))
  unfold Edg.v aheadE ltB
  simp only
  cases h1 : Op.bytesLess f.toList f2.toList with
  | true =>
    go_enter Tryz.func57, Tryz.ntmps57
    go_wp2_with fail
    go_ret
    exact smYes (.inl (by trivial)) HB1.out
  | false =>
    by_cases h2 : f = f2
    · have h3 : (f.toList == f2.toList) = true := by rw [h2]; simp
      have h3' : f.toList = f2.toList := by rw [h2]
      have H2 := Lib.hid h2
      cases h4 : Op.bytesLess t.toList t2.toList with
      | true =>
        clear h2 h3'
        go_enter Tryz.func57, Tryz.ntmps57
        go_wp2_with fail
        go_ret
        exact smYes (.inr ⟨H2.out, by trivial⟩) HB1.out
      | false =>
        clear h2 h3'
        go_enter Tryz.func57, Tryz.ntmps57
        go_wp2_with fail
        go_ret
        exact smNo (by rintro (h | ⟨_, h⟩) <;> cases h) HB1.out
    · have h3 : (f.toList == f2.toList) = false := by
        rw [Bool.eq_false_iff]
        intro e
        exact h2 (toList_inj (by simpa using e))
      have H2 := Lib.hid h2
      clear h2
      go_enter Tryz.func57, Tryz.ntmps57
      go_wp2_with fail
      go_ret
      exact smNo (by rintro (h | ⟨h, _⟩); (cases h); exact H2.out h) HB1.out
end Go.Proofs.YtfedgjahbmcpoaaGreat
