/- parcel.All: its contract. No conditions. -/
import Derived.Test.YtmnabhennibddaaGC25
import Derived.RangeFuncCalls
import Derived.Maps.AppendAt
set_option linter.unusedSimpArgs false
set_option linter.unusedVariables false
namespace Go.Proofs.Ytmnabhennibddaa
open Go.RowKit

theorem frames_any (A : Option Addr) (n c : Nat) (q : Nat) (w : World) :
    Calls Try.prog 34 #[.slice A n c, .pointer (some ⟨q, 0, none⟩)] w fun e w' => e = .returned (.func (.func 67) #[] #[.pointer (some ⟨w.heap.size, 0, none⟩), .pointer (some ⟨w.heap.size + 1, 0, none⟩)]) ∧ w' = (w.alloc (.cells #[.slice A n c] 22)).alloc (.cells #[.pointer (some ⟨q, 0, none⟩)] 72) := by
  go_enter Try.func34, Try.ntmps34
  go_wp2_with fail
  go_ret
  exact ⟨by simp, rfl⟩
/-- A range over a function, outermost, whose rounds leave no jump. -/
theorem rangeFunc_go {P : Program} {g : Operand} {ps : Array Tmp} {assign body : Code} {Q : Exit → Act → World → Prop} {a : Act} {w : World} {gf : Nat} {lb : Array Value} (hg : a.eval g = .func (.func gf) #[] lb) (eg : ∀ args w, (callFunc gf args).run P w = .ok (.enter gf args) w)
    (h : ∀ fn lp, lp = ({ state := .ready, pending := none, fn := fn, tmps := a.tmps, params := ps, assign := assign, body := body, defers := w.heap.size } : Loop) → Calls P gf (#[.func (.yield (w.heap.size + 1)) #[] #[]] ++ lb) ((w.alloc (.deferred (some []))).alloc (.loop lp)) (fun e w3 => (∃ v, e = .returned v) ∧ ∃ lp', w3.heap[w.heap.size + 1]? = some (.loop lp') ∧ lp'.state ≠ .busy ∧ lp'.pending = none ∧ Q .normal { a with defers := { target := .collected w.heap.size, args := #[] } :: a.defers } (w3.putObj (w.heap.size + 1) (.loop { lp' with state := .exhausted })))) : (Code.rangeFunc g ps assign body).wp P Q a w := by
  refine (wpIn_wide (n := 1)).1 ?_
  refine wpIn_rangeFunc ?_
  intro fn hfn
  obtain ⟨W1, hW1⟩ : ∃ W1, (w.alloc (.deferred (some []))).alloc (.loop { state := .ready, pending := none, fn := fn, tmps := a.tmps, params := ps, assign := assign, body := body, defers := w.heap.size }) = W1 := ⟨_, rfl⟩
  have h1 := h fn _ rfl
  rw [hW1] at h1
  refine ⟨w.heap.size + 1, [{ target := .collected w.heap.size, args := #[] }], W1, { target := .fn (.func gf) lb, args := #[.func (.yield (w.heap.size + 1)) #[] #[]] }, W1, gf, #[.func (.yield (w.heap.size + 1)) #[] #[]] ++ lb, W1, (by rw [← hW1]; exact run_enterLoop_outer _ _ _ _ _), ?_, fun _ _ => trivial, ?_, fun h0 => (by cases h0), ?_⟩
  · simp only [resolve, hg]
    simp [go_sem]
  · simp [invoke, go_sem, eg]
  · refine callsIn_wide.2 (h1.mono ?_)
    rintro e w3 ⟨⟨v, rfl⟩, lp', hl, hb, hp, hQ⟩
    refine ⟨none, _, ?_, hQ⟩
    exact (run_endLoop (P := P) hl hb).trans (congrArg (fun z => Result.ok z _) hp)
/-- One round. -/
theorem round_go {P : Program} {l : Nat} {lp : Loop} {args : Array Value} {W : World} {R : Ending → World → Prop} {ac bd : Code} {ts : Array Value} {ps : Array Tmp} (hl : W.heap[l]? = some (.loop lp)) (hA : lp.assign = ac) (hB : lp.body = bd) (hT : lp.tmps = ts) (hP : lp.params = ps) (hs : args.size = ps.size)
    (h : ac.wpIn (Fence.wide.inRound l) 0 P (Exit.then (fun a₁ w₁ => ∃ w₂, (Instr.beginRound l).run P w₁ = .ok () w₂ ∧ bd.wpIn (Fence.wide.inRound l) 0 P (roundPost P l R) a₁ w₂) (fun _ _ _ => False)) { tmps := (ps.zip args).foldl (fun tmps (t, a) => tmps.setIfInBounds t a) ts, defers := [] } W) : YieldAt Fence.wide 0 P l args W R := by
  subst hA hB hT hP
  exact ⟨lp.fn, _, lp.assign, lp.body, run_yield hl hs, roundIn_of_wpIn trivial h⟩
/-- Where a round's body stands. -/
structure R4 (w0 W0 W : World) (p : Nat) (r : List Nat) (lp : Loop) (vk vb : Value) (A : Option Addr) (n c : Nat) (qf : Nat) (k : Nat) (b : List Nat) (s : Nat) (B : Option Addr) (m d : Nat) (vk' vb' : Value) (Lk : List Int) (Lb : List (List Nat)) : Prop where
  lo : ALo w0 W vk vb p 0 A n c lp
  bs : BS w0 A n c r
  ek : EOwn inO W (w0.heap.size + 8) vk' Lk
  eb : EOwn blO W (w0.heap.size + 8) vb' Lb
  hf : FR W qf k (.slice B m d) s
  ho : W.ownsRow (w0.heap.size + 8) 5 1 (.slice B m d) b.length (bv b)
  kp : ∀ (q : Nat) (c : Array Value) (mk : Nat × Nat), W0.heap[q]? = some (Obj.cells c 59 mk) → W.heap[q]? = some (Obj.cells c 59 mk)
  fb : w0.heap.size + 8 ≤ qf
section
variable {w0 W0 W W' : World} {p : Nat} {r : List Nat} {lp : Loop} {vk vb : Value} {A : Option Addr} {n c : Nat} {qf : Nat} {k : Nat} {b : List Nat} {s : Nat} {B : Option Addr} {m d : Nat} {vk' vb' : Value} {Lk : List Int} {Lb : List (List Nat)}
theorem R4.below (h : R4 w0 W0 W p r lp vk vb A n c qf k b s B m d vk' vb' Lk Lb) (hb : Below W.heap.size W W') : R4 w0 W0 W' p r lp vk vb A n c qf k b s B m d vk' vb' Lk Lb :=
  ⟨h.lo.below hb, h.bs, h.ek.below hb, h.eb.below hb, h.hf.grown (grown_of_below hb none) (fun j hj => by cases hj), ownsRow_below h.ho hb, fun q c mk hq => by
    have := h.kp q c mk hq
    exact (hb.block q (Array.getElem?_eq_some_iff.1 this).1).trans this, h.fb⟩
theorem R4.sz (h : R4 w0 W0 W p r lp vk vb A n c qf k b s B m d vk' vb' Lk Lb) : w0.heap.size + 8 ≤ W.heap.size := (Array.getElem?_eq_some_iff.1 h.lo.dL).1
theorem fr_keep2 {W W' : World} {row : Option Nat} (hg : W.grownBy W' row) {t0 : TypeId} (hr : ∀ k, row = some k → ∃ c mk, W.heap[k]? = some (.cells c t0 mk)) {t : TypeId} (ht : t ≠ t0) {q : Nat} {c : Array Value} {mk : Nat × Nat} (h : W.heap[q]? = some (.cells c t mk)) : W'.heap[q]? = some (.cells c t mk) :=
  (hg.block q (Array.getElem?_eq_some_iff.1 h).1 (fun e => by
    obtain ⟨c2, mk2, h2⟩ := hr q e.symm
    rw [h] at h2
    injection h2 with h2
    injection h2 with _ h3 _
    exact ht h3)).trans h
theorem R4.appK (h : R4 w0 W0 W p r lp vk vb A n c qf k b s B m d vk' vb' Lk Lb) {v : Value} {L : List Int} (ho : EOwn inO W' (w0.heap.size + 8) v L) (hg : W.grownBy W' vk'.ownBlock) : R4 w0 W0 W' p r lp vk vb A n c qf k b s B m d v vb' L Lb := by
  have hr : ∀ j, vk'.ownBlock = some j → ∃ c mk, W.heap[j]? = some (.cells c 3 mk) := fun j hj => by
    obtain ⟨css, hv, h1, h2⟩ := h.ek
    obtain ⟨_, c, mk, hc⟩ := own_cells h1 hj
    exact ⟨c, mk, hc⟩
  exact ⟨h.lo.high hg (fun j hj => h.ek.block j hj), h.bs, ho, blo_type h.eb hg (fun j hj => ino_row h.ek hj), fr_keep2 hg hr (by decide) h.hf, own_keep h.ho (fun j c mk _ _ hc => fr_keep2 hg hr (by decide) hc), fun q c mk hq => fr_keep2 hg hr (by decide) (h.kp q c mk hq), h.fb⟩
theorem R4.appB (h : R4 w0 W0 W p r lp vk vb A n c qf k b s B m d vk' vb' Lk Lb) {v : Value} {L : List (List Nat)} (ho : EOwn blO W' (w0.heap.size + 8) v L) (hg : W.grownBy W' vb'.ownBlock) : R4 w0 W0 W' p r lp vk vb A n c qf k b s B m d vk' v Lk L := by
  have hr : ∀ j, vb'.ownBlock = some j → ∃ c mk, W.heap[j]? = some (.cells c 22 mk) := fun j hj => by
    obtain ⟨css, hv, h1, h2⟩ := h.eb
    obtain ⟨_, c, mk, hc⟩ := own_cells h1 hj
    exact ⟨c, mk, hc⟩
  exact ⟨h.lo.high hg (fun j hj => h.eb.block j hj), h.bs, ino_type h.ek hg (fun j hj => blo_row h.eb hj), ho, fr_keep2 hg hr (by decide) h.hf, own_keep h.ho (fun j c mk _ _ hc => fr_keep2 hg hr (by decide) hc), fun q c mk hq => fr_keep2 hg hr (by decide) (h.kp q c mk hq), h.fb⟩
theorem R4.blk (h : R4 w0 W0 W p r lp vk vb A n c qf k b s B m d vk' vb' Lk Lb) {t : TypeId} (ht : t ≠ 3) (hg : W.grownBy W' vk'.ownBlock) {q : Nat} {cs : Array Value} {mk : Nat × Nat} (hq : W.heap[q]? = some (.cells cs t mk)) : W'.heap[q]? = some (.cells cs t mk) :=
  fr_keep2 hg (fun j hj => by
    obtain ⟨css, hv, h1, h2⟩ := h.ek
    obtain ⟨_, c, mk, hc⟩ := own_cells h1 hj
    exact ⟨c, mk, hc⟩) ht hq
theorem R4.setLow (h : R4 w0 W0 W p r lp vk vb A n c qf k b s B m d vk' vb' Lk Lb) {q : Nat} {c0 : Array Value} {t : TypeId} {mk0 : Nat × Nat} (hq : W.heap[q]? = some (.cells c0 t mk0)) (ht : t ≠ 59) (hl : q < w0.heap.size + 8) {v vk2 vb2 : Value} {p2 : Nat} (hlo : ALo w0 (W.setCell ⟨q, 0, none⟩ v) vk2 vb2 p2 0 A n c lp) : R4 w0 W0 (W.setCell ⟨q, 0, none⟩ v) p2 r lp vk2 vb2 A n c qf k b s B m d vk' vb' Lk Lb :=
  ⟨hlo, h.bs, h.ek.far hl 0 v, h.eb.far hl 0 v, h.hf.grown (grown_set W q 0 v) (fun j hj => by injection hj with hj; have := h.fb; omega), ownsRow_setCell_other h.ho (a := ⟨q, 0, none⟩) (fun e => by have := own_block h.ho _ e; simp only at this; omega) v, fun q' c' mk' hq' => by
    have h1 := h.kp q' c' mk' hq'
    refine (set_other (fun e => ?_)).trans h1
    subst e
    rw [hq] at h1
    injection h1 with h1
    injection h1 with _ h2 _
    exact ht h2, h.fb⟩
theorem R4.setK' (h : R4 w0 W0 W p r lp vk vb A n c qf k b s B m d vk' vb' Lk Lb) (v : Value) : R4 w0 W0 (W.setCell ⟨w0.heap.size, 0, none⟩ v) p r lp v vb A n c qf k b s B m d vk' vb' Lk Lb := h.setLow h.lo.ck (by decide) (by omega) (h.lo.setK v)
theorem R4.setV' (h : R4 w0 W0 W p r lp vk vb A n c qf k b s B m d vk' vb' Lk Lb) (v : Value) : R4 w0 W0 (W.setCell ⟨w0.heap.size + 1, 0, none⟩ v) p r lp vk v A n c qf k b s B m d vk' vb' Lk Lb := h.setLow h.lo.cb (by decide) (by omega) (h.lo.setV v)
theorem R4.setA' (h : R4 w0 W0 W p r lp vk vb A n c qf k b s B m d vk' vb' Lk Lb) (p' : Nat) : R4 w0 W0 (W.setCell ⟨w0.heap.size + 3, 0, none⟩ (.int .i64 (p' : Int))) p' r lp vk vb A n c qf k b s B m d vk' vb' Lk Lb := h.setLow h.lo.ca (by decide) (by omega) (h.lo.setA p')
theorem R4.done (h : R4 w0 W0 W p r lp vk vb A n c qf k b s B m d vk vb Lk Lb) {F : List (Nat × List Nat)} (hk : Lk = F.map fun f => (f.1 : Int)) (hb : Lb = F.map (·.2)) (lp' : Loop) : AS w0 (W.putObj (w0.heap.size + 7) (.loop lp')) F p 0 r lp' vk vb A n c ∧ ∀ (q : Nat) (c : Array Value) (mk : Nat × Nat), W0.heap[q]? = some (Obj.cells c 59 mk) → (W.putObj (w0.heap.size + 7) (.loop lp')).heap[q]? = some (Obj.cells c 59 mk) := by
  subst hk hb
  refine ⟨(AS.mk (lp := lp) h.lo h.ek h.eb h.bs).putL lp', fun q c mk hq => ?_⟩
  have h1 := h.kp q c mk hq
  refine (World.putObj_heap_other (fun e => ?_)).trans h1
  have h2 := h.lo.dL
  rw [← e, h1] at h2
  cases h2
end
/-- append(v, x) of one element, as one operation. -/
theorem wp_append_el {α : Type} {R : RdE α} {O : RoE R} {w : World} {o : Oper} {a : Act} {K : Act → World → Prop} {Q : Exit → Act → World → Prop} (s x : Operand) (t : TypeId) (z : Value) (bytes : Nat)
    (ho : o.op = .call { callee := .builtin .append, args := #[s, x], argTypes := #[t, t] }) (ht : Try.prog.underlying t = some (.slice O.T)) (hi : (Try.prog.info? O.T).map (fun i => (i.zero, i.size, i.bytes)) = some (some z, R.k, bytes)) (hz : z.cells.size = R.k) (hby : bytes ≤ 4096)
    (base : Nat) (v : Value) (l : List α) (b : α) (cs : List Value) (hs : a.eval s = v) (hown : EOwn O w base v l) (hu : O.ro w base b cs)
    (g : Nat) (hx : a.eval x = .slice (some ⟨g, 0, none⟩) 1 1) (mk : Nat × Nat) (hm : w.heap[g]? = some (.cells cs.toArray O.T mk)) (hb : l.length + 1 ≤ 34359738368) (hbase : base ≤ w.heap.size)
    (h : ∀ v' w', EOwn O w' base v' (l ++ [b]) → w.grownBy w' v.ownBlock → K (a.put o.dst v') w') :
    o.wp Try.prog a w K Q := by
  obtain ⟨css, hv, h1, h2⟩ := hown
  have hbb : (l.length + 1) * bytes ≤ (l.length + 1) * 4096 := Nat.mul_le_mul_left _ hby
  refine wp_append_any s x _ ho base O.T _ R.k bytes ht hi hz R.kpos v l.length css.flatten hs h1 _ 1 1 cs hx (by simp) (by omega) (by rw [O.len _ _ _ _ hu, Nat.one_mul]) ?_ (O.one _ _ _ _ hu) (by unfold maxLen; omega) (by omega) hbase ?_
  · intro i hi
    refine ⟨_, rfl, ?_⟩
    rw [addr_add, Nat.zero_add, cell_of hm i, List.getElem?_toArray]
    exact List.getElem?_eq_getElem hi
  · intro v' w' h3 h4 h5
    have hk : ∀ k c t mk, base ≤ k → t ≠ O.T → w.heap[k]? = some (.cells c t mk) → w'.heap[k]? = some (.cells c t mk) := by
      intro k c t mk _ ht' hk
      refine (h4.block k (Array.getElem?_eq_some_iff.1 hk).1 (fun e => ?_)).trans hk
      obtain ⟨_, c2, mk2, h6⟩ := own_cells h1 e.symm
      rw [hk] at h6
      injection h6 with h6
      injection h6 with _ h7 _
      exact ht' h7
    refine h v' w' ⟨css ++ [cs], by simp [hv], ?_, fun i hi hi2 => ?_⟩ h4
    · rw [List.flatten_append]
      simpa using h3
    · by_cases hil : i < l.length
      · have e : (l ++ [b])[i] = l[i] := List.getElem_append_left hil
        have e2 : (css ++ [cs])[i] = css[i]'(by omega) := List.getElem_append_left (by omega)
        rw [e, e2]
        exact O.keep _ _ _ _ _ (h2 i hil (by omega)) hk
      · have hi3 : i = l.length := by rw [List.length_append, List.length_cons, List.length_nil] at hi; omega
        subst hi3
        have e : (l ++ [b])[l.length]'hi = b := by simp
        have e2 : (css ++ [cs])[l.length]'hi2 = cs := by simp [← hv]
        rw [e2, e]
        exact O.keep _ _ _ _ _ hu hk

set_option maxHeartbeats 32000000 in
set_option maxRecDepth 100000 in
attribute [local go_sem] Oper.semAt_some in
theorem all_any {A : Option Addr} {n c : Nat} {l : List Nat} {w : World} (h : BS w A n c l) (hl : l.length ≤ 1000000000) :
    Calls Try.prog 10 #[.slice A n c] w fun r w' => AllR w w' r (alP l) := by
  have HB := Lib.hid h
  have HL := Lib.hid hl
  obtain ⟨X, hX⟩ : ∃ X, X = alP l := ⟨_, rfl⟩
  rw [← hX]
  have HX := Lib.hid hX
  have HAN := Lib.hid (allN_le (l.length + 1) h.byt)
  have HAE := Lib.hid (allN_e (l.length + 1) l)
  clear hX h hl
  refine (callsIn_wide (n := 1)).1 ?_
  refine callsIn_of_wp_marks Try.func10 rfl trivial ?_ rfl
  simp only [Try.ntmps10, List.size_toArray, List.length_cons, List.length_nil, Nat.reduceAdd, Nat.reduceSub, Array.replicate_succ, Array.replicate_zero, List.push_toArray, List.append_toArray, List.nil_append, List.cons_append]
  refine (wpIn_wide (n := 1)).2 ?_
  go_wp2_with fail
  refine (frames_any A n c _ _).mono ?_
  rintro e w1 ⟨rfl, hw1⟩
  have HSZ := Lib.hid (show w1.heap.size = w.heap.size + 6 by rw [hw1]; simp)
  have HW1 := Lib.hid hw1
  clear hw1
  go_wp2_with fail
  simp only [Nat.add_assoc, Nat.reduceAdd]
  refine rangeFunc_go (gf := 67) (lb := #[.pointer (some ⟨w.heap.size + 4, 0, none⟩), .pointer (some ⟨w.heap.size + 5, 0, none⟩)]) (by simp [go_sem]) (enters_of Try.func67 (by kernel_rfl) rfl) ?_
  intro fn lp hlp
  rw [HSZ.out]
  have hA := congrArg Loop.assign hlp
  have hBd := congrArg Loop.body hlp
  have hTm := congrArg Loop.tmps hlp
  have hPs := congrArg Loop.params hlp
  have hSt := congrArg Loop.state hlp
  have hPn := congrArg Loop.pending hlp
  dsimp only at hA hBd hTm hPs hSt hPn
  clear hlp
  have HRD : RoundsDo w lp := by
    intro W F p r vk vb A' n' c' k b s B m d hAS hO hf1 hf2
    refine round_go hAS.lo.dL hA hBd hTm hPs rfl ?_
    simp only [List.zip_toArray, List.zip_cons_cons, List.zip_nil_left, List.foldl_toArray, List.foldl_cons, List.foldl_nil, List.setIfInBounds_toArray, List.set_cons_succ, List.set_cons_zero]
    have HS := Lib.hid hAS
    have HO := Lib.hid hO
    have HST := Lib.hid hSt
    have HPN := Lib.hid hPn
    clear hA hBd hTm hPs hSt hPn hAS hO HB HX HAN HAE HW1 HSZ
    have hx := bel1' W (.cells #[.int .i64 (k : Int), .slice B m d, .int .i64 (s : Int)] 59)
    have HS1 := Lib.hid (HS.out.below hx)
    have HO1 := Lib.hid (ownsRow_below HO.out hx)
    have HF1 := Lib.hid (show FR (W.alloc (.cells #[.int .i64 (k : Int), .slice B m d, .int .i64 (s : Int)] 59)) W.heap.size k (.slice B m d) s from heap_alloc_new W _)
    have HK1 := Lib.hid (fun (q : Nat) (c : Array Value) (mk : Nat × Nat) (hq : W.heap[q]? = some (Obj.cells c 59 mk)) => (hx.block q (Array.getElem?_eq_some_iff.1 hq).1).trans hq)
    have hfb := HS.out.sz
    clear hx
    gi_wp2
    obtain ⟨W2, hW⟩ : ∃ X, X = W.alloc (.cells #[.int .i64 (k : Int), .slice B m d, .int .i64 (s : Int)] 59) := ⟨_, rfl⟩
    rw [← hW] at HS1 HO1 HF1 HK1 ⊢
    clear hW
    obtain ⟨qf, hqf⟩ : ∃ q, q = W.heap.size := ⟨_, rfl⟩
    rw [← hqf] at HF1 hfb ⊢
    clear hqf
    refine ⟨_, run_beginRound HS1.out.lo.dL HST.out, ?_⟩
    obtain ⟨lp2, hlp2⟩ : ∃ x, x = { lp with state := .busy } := ⟨_, rfl⟩
    have HLP2 := Lib.hid hlp2
    rw [← hlp2]
    clear hlp2
    have hgp := grownBy_putObj' W2 (w.heap.size + 7) (.loop lp2)
    have hne7 : ∀ (q : Nat) (o : Obj), W2.heap[q]? = some o → q ≠ w.heap.size + 7 → (W2.putObj (w.heap.size + 7) (.loop lp2)).heap[q]? = some o := fun q o hq hne => (World.putObj_heap_other hne).trans hq
    have R0 := Lib.hid (show R4 w W (W2.putObj (w.heap.size + 7) (.loop lp2)) p r lp2 vk vb A' n' c' qf k b s B m d vk vb (F.map fun f => (f.1 : Int)) (F.map (·.2)) from ⟨(HS1.out.putL lp2).lo, HS1.out.bs, (HS1.out.putL lp2).ek, (HS1.out.putL lp2).eb, hne7 _ _ HF1.out (by omega), own_keep HO1.out (fun j c mk hb _ hc => hne7 _ _ hc (by omega)), fun q c mk hq => hne7 _ _ (HK1.out q c mk hq) (by
      intro e
      have := HS1.out.lo.dL
      rw [← e, HK1.out q c mk hq] at this
      cases this), hfb⟩)
    obtain ⟨W3, hW⟩ : ∃ X, X = W2.putObj (w.heap.size + 7) (.loop lp2) := ⟨_, rfl⟩
    rw [← hW] at R0 ⊢
    clear hW hgp hne7 HS1 HO1 HF1 HK1
    obtain ⟨Ak, ck, ek⟩ := R0.out.ek.len
    obtain ⟨Ab, cb, eb⟩ := R0.out.eb.len
    rw [List.length_map] at ek eb
    subst ek eb
    gi_step
    gi_step
    gi_step
    rename_i K0 hK0
    have R1 := Lib.hid (R0.out.below (bel0 W3).drew)
    have ak : ∀ (X : World) (vk' vb' : Value) (Lk : List Int) (Lb : List (List Nat)), R4 w W X p r lp2 (.slice Ak F.length ck) (.slice Ab F.length cb) A' n' c' qf k b s B m d vk' vb' Lk Lb → X.cell? ⟨w.heap.size, 0, none⟩ = some (.slice Ak F.length ck) ∧ X.cell? ⟨w.heap.size + 1, 0, none⟩ = some (.slice Ab F.length cb) ∧ X.cell? ⟨qf, 0, none⟩ = some (.int .i64 (k : Int)) ∧ X.cell? ⟨qf, 1, none⟩ = some (.slice B m d) := fun X vk' vb' Lk Lb h => ⟨cell_of h.lo.ck 0, cell_of h.lo.cb 0, h.hf.cells.1, h.hf.cells.2.1⟩
    have AK := Lib.hid ak
    clear ak R0
    obtain ⟨W4, hW⟩ : ∃ X, X = W3.drew := ⟨_, rfl⟩
    rw [← hW] at R1
    have HW4 := Lib.hid hW
    clear hW
    refine wpR_region_g 10 (fun w' => w'.cell? ⟨w.heap.size, 0, none⟩ = some (.slice Ak F.length ck) ∧ w'.cell? ⟨w.heap.size + 1, 0, none⟩ = some (.slice Ab F.length cb) ∧ w'.cell? ⟨qf, 0, none⟩ = some (.int .i64 (k : Int)) ∧ w'.cell? ⟨qf, 1, none⟩ = some (.slice B m d)) (by kernel_rfl) (by kernel_rfl) ?_ ?_
    · rintro ⟨a, w, h⟩
      exact h
    rw [← HW4.out]
    have hHeld := AK.out _ _ _ _ _ R1.out
    refine' g_val (i := 0) (d := 11) (v := _) [0] rfl rfl (by kernel_rfl) (by kernel_rfl) (by kernel_rfl) (by kernel_rfl) (by kernel_rfl) (by kernel_rfl) (fun _ _ _ h => h) (by rfl) ?_ (by assumption) ?_
    rotate_left
    · (intro w hSw; (try dsimp only at hSw); go_simp; (try with_reducible rfl))
    (try simp only [Act.put, List.getElem_toArray, List.getElem_cons_succ, List.getElem_cons_zero, List.setIfInBounds_toArray, List.set_cons_zero, List.set_cons_succ])
    refine' g_val (i := 1) (d := 12) (v := _) [1] rfl rfl (by kernel_rfl) (by kernel_rfl) (by kernel_rfl) (by kernel_rfl) (by kernel_rfl) (by kernel_rfl) (fun _ _ _ h => h) (by rfl) ?_ (by assumption) ?_
    rotate_left
    · (intro w hSw; (try dsimp only at hSw); go_simp; (try with_reducible rfl))
    (try simp only [Act.put, List.getElem_toArray, List.getElem_cons_succ, List.getElem_cons_zero, List.setIfInBounds_toArray, List.set_cons_zero, List.set_cons_succ])
    refine' g_val (i := 2) (d := 13) (v := _) [2] rfl rfl (by kernel_rfl) (by kernel_rfl) (by kernel_rfl) (by kernel_rfl) (by kernel_rfl) (by kernel_rfl) (fun _ _ _ h => h) (by rfl) ?_ (by assumption) ?_
    rotate_left
    · (intro w hSw; (try dsimp only at hSw); go_simp; (try with_reducible rfl))
    (try simp only [Act.put, List.getElem_toArray, List.getElem_cons_succ, List.getElem_cons_zero, List.setIfInBounds_toArray, List.set_cons_zero, List.set_cons_succ])
    refine' g_val (i := 5) (d := 16) (v := _) [9, 5] rfl rfl (by kernel_rfl) (by kernel_rfl) (by kernel_rfl) (by kernel_rfl) (by kernel_rfl) (by kernel_rfl) (fun _ _ _ h => h) (by rfl) ?_ (by assumption) ?_
    rotate_left
    · (intro w hSw; (try dsimp only at hSw); go_simp; (try with_reducible rfl))
    (try simp only [Act.put, List.getElem_toArray, List.getElem_cons_succ, List.getElem_cons_zero, List.setIfInBounds_toArray, List.set_cons_zero, List.set_cons_succ])
    refine' g_val (i := 6) (d := 17) (v := _) [9, 8, 7, 6] rfl rfl (by kernel_rfl) (by kernel_rfl) (by kernel_rfl) (by kernel_rfl) (by kernel_rfl) (by kernel_rfl) (fun _ _ _ h => h) (by rfl) ?_ (by assumption) ?_
    rotate_left
    · (intro w hSw; (try dsimp only at hSw); go_simp; (try with_reducible rfl))
    (try simp only [Act.put, List.getElem_toArray, List.getElem_cons_succ, List.getElem_cons_zero, List.setIfInBounds_toArray, List.set_cons_zero, List.set_cons_succ])
    refine' g_val (i := 7) (d := 18) (v := _) [9, 8, 7] rfl rfl (by kernel_rfl) (by kernel_rfl) (by kernel_rfl) (by kernel_rfl) (by kernel_rfl) (by kernel_rfl) (fun _ _ _ h => h) (by rfl) ?_ (by assumption) ?_
    rotate_left
    · (intro w hSw; (try dsimp only at hSw); go_simp; (try with_reducible rfl))
    (try simp only [Act.put, List.getElem_toArray, List.getElem_cons_succ, List.getElem_cons_zero, List.setIfInBounds_toArray, List.set_cons_zero, List.set_cons_succ])
    clear hHeld
    refine wpAnyG_ready (rs := [3, 8]) (by kernel_rfl) (by simp) ?_
    refine (AllReadyG.cons rfl (fun K hK => ?_) (AllReadyG.cons rfl (fun K hK => ?_) AllReadyG.nil))
    · skip
      go_simp
      go_wp2_with fail
      have hx := bel1' W4 (.cells #[.int .i64 (k : Int)] 3)
      have R2 := Lib.hid (R1.out.below hx)
      have HBk := Lib.hid (World.alloc_heap_new W4 (.cells #[.int .i64 (k : Int)] 3))
      refine hK.out _ _ (fun _ => AK.out _ _ _ _ _ R2.out) ?_
      clear hK K
      (try simp only [Act.put, List.getElem_toArray, List.getElem_cons_succ, List.getElem_cons_zero, List.setIfInBounds_toArray, List.set_cons_zero, List.set_cons_succ])
      obtain ⟨w1, hW⟩ : ∃ W, W = W4.alloc (.cells #[.int .i64 (k : Int)] 3) := ⟨_, rfl⟩
      obtain ⟨g3, hg3⟩ : ∃ q, q = W4.heap.size := ⟨_, rfl⟩
      change wpAnyG _ _ _ _ _ _ _ _ _ (W4.alloc (.cells #[.int .i64 (k : Int)] 3))
      rw [← hW] at HBk R2  ⊢
      rw [← hg3] at HBk ⊢
      clear hW hg3 hx R1
      have R1 := R2
      clear R2
      refine wpAnyG_ready (rs := [4, 8]) (by kernel_rfl) (by simp) ?_
      refine (AllReadyG.cons rfl (fun K hK => ?_) (AllReadyG.cons rfl (fun K hK => ?_) AllReadyG.nil))
      · skip
        rw [if_pos (by kernel_rfl)]
        refine wp_append_el (O := inO) (.tmp 11) (.tmp 14) 27 _ _ rfl Try.underlying27 infoIn rfl (by decide) (w.heap.size + 8) (.slice Ak F.length ck) (F.map fun f => (f.1 : Int)) (k : Int) _ rfl R1.out.ek rfl _ rfl _ HBk.out (by rw [List.length_map]; omega) R1.out.sz ?_
        intro v5 w2 ho5 hg5
        have R2 := Lib.hid (R1.out.appK ho5 hg5)
        clear HBk
        obtain ⟨Av, cv, ev⟩ := ho5.len
        rw [List.length_append, List.length_map] at ev
        simp only [List.length_cons, List.length_nil, Nat.zero_add] at ev
        subst ev
        clear ho5 hg5 R1
        have R1 := R2
        clear R2
        refine hK.out _ _ (fun _ => AK.out _ _ _ _ _ R1.out) ?_
        clear hK K
        (try simp only [Act.put, List.getElem_toArray, List.getElem_cons_succ, List.getElem_cons_zero, List.setIfInBounds_toArray, List.set_cons_zero, List.set_cons_succ])
        refine wpAnyG_ready (rs := [8]) (by kernel_rfl) (by simp) ?_
        refine (AllReadyG.cons rfl (fun K hK => ?_) AllReadyG.nil)
        go_simp
        go_wp2_with fail
        have hx := bel1' w2 (.cells #[.slice B m d] 22)
        have R2 := Lib.hid (R1.out.below hx)
        have HBb := Lib.hid (World.alloc_heap_new w2 (.cells #[.slice B m d] 22))
        refine hK.out _ _ (fun _ => AK.out _ _ _ _ _ R2.out) ?_
        clear hK K
        (try simp only [Act.put, List.getElem_toArray, List.getElem_cons_succ, List.getElem_cons_zero, List.setIfInBounds_toArray, List.set_cons_zero, List.set_cons_succ])
        obtain ⟨w3, hW⟩ : ∃ W, W = w2.alloc (.cells #[.slice B m d] 22) := ⟨_, rfl⟩
        obtain ⟨g8, hg8⟩ : ∃ q, q = w2.heap.size := ⟨_, rfl⟩
        change wpAnyG _ _ _ _ _ _ _ _ _ (w2.alloc (.cells #[.slice B m d] 22))
        rw [← hW] at HBb R2  ⊢
        rw [← hg8] at HBb ⊢
        clear hW hg8 hx R1
        have R1 := R2
        clear R2
        refine wpAnyG_ready (rs := [9]) (by kernel_rfl) (by simp) ?_
        refine (AllReadyG.cons rfl (fun K hK => ?_) AllReadyG.nil)
        rw [if_pos (by kernel_rfl)]
        refine wp_append_el (O := blO) (.tmp 16) (.tmp 19) 28 _ _ rfl Try.underlying28 infoBl rfl (by decide) (w.heap.size + 8) (.slice Ab F.length cb) (F.map (·.2)) b _ rfl R1.out.eb ⟨_, rfl, R1.out.ho⟩ _ rfl _ HBb.out (by rw [List.length_map]; omega) R1.out.sz ?_
        intro v5 w4 ho5 hg5
        have R2 := Lib.hid (R1.out.appB ho5 hg5)
        obtain ⟨Aw, cw, ev⟩ := ho5.len
        rw [List.length_append, List.length_map] at ev
        simp only [List.length_cons, List.length_nil, Nat.zero_add] at ev
        subst ev
        clear ho5 hg5 R1 HBb
        have R1 := R2
        clear R2
        refine hK.out _ _ (fun _ => AK.out _ _ _ _ _ R1.out) ?_
        clear hK K
        (try simp only [Act.put, List.getElem_toArray, List.getElem_cons_succ, List.getElem_cons_zero, List.setIfInBounds_toArray, List.set_cons_zero, List.set_cons_succ])
        refine wpAnyG_ready (rs := [10]) (by kernel_rfl) (by simp) ?_
        refine (AllReadyG.cons rfl (fun K hK => ?_) AllReadyG.nil)
        have d0 := cell_of R1.out.lo.ck 0
        have d1 := frozen_of R1.out.lo.ck 0
        simp at d0
        go_simp
        go_wp2_with fail
        have R2 := Lib.hid (R1.out.setK' (.slice Av (F.length + 1) cv))
        clear d0 d1
        refine hK.out _ _ (fun h => absurd h (by simp)) ?_
        clear hK K
        (try simp only [Act.put, List.getElem_toArray, List.getElem_cons_succ, List.getElem_cons_zero, List.setIfInBounds_toArray, List.set_cons_zero, List.set_cons_succ])
        obtain ⟨w5, hW⟩ : ∃ X, X = w4.setCell ⟨w.heap.size, 0, none⟩ (.slice Av (F.length + 1) cv) := ⟨_, rfl⟩
        rw [← hW] at R2 ⊢
        clear hW R1
        have R1 := R2
        clear R2
        refine wpAnyG_ready (rs := [11]) (by kernel_rfl) (by simp) ?_
        refine (AllReadyG.cons rfl (fun K hK => ?_) AllReadyG.nil)
        have d0 := cell_of R1.out.lo.cb 0
        have d1 := frozen_of R1.out.lo.cb 0
        simp at d0
        go_simp
        go_wp2_with fail
        have R2 := Lib.hid (R1.out.setV' (.slice Aw (F.length + 1) cw))
        clear d0 d1
        refine hK.out _ _ (fun h => absurd h (by simp)) ?_
        clear hK K
        (try simp only [Act.put, List.getElem_toArray, List.getElem_cons_succ, List.getElem_cons_zero, List.setIfInBounds_toArray, List.set_cons_zero, List.set_cons_succ])
        obtain ⟨w6, hW⟩ : ∃ X, X = w5.setCell ⟨w.heap.size + 1, 0, none⟩ (.slice Aw (F.length + 1) cw) := ⟨_, rfl⟩
        rw [← hW] at R2 ⊢
        clear hW R1
        have R1 := R2
        clear R2
        refine wpAnyG_done (by kernel_rfl) ?_ _
        clear AK HW4
        obtain ⟨t10, t11, t12⟩ := R1.out.hf.cells
        have d0 := cell_of R1.out.lo.ca 0
        have d1 := frozen_of R1.out.lo.ca 0
        simp at d0
        have hpw : IntKind.i64.wrap ((p : Int) + (s : Int)) = ((p + s : Nat) : Int) := by rw [IntKind.wrap_i64]; omega
        have hpw2 : wrap64 ((p : Int) + (s : Int)) = ((p + s : Nat) : Int) := by unfold wrap64; omega
        gi_wp2
        have R2 := Lib.hid (R1.out.setA' (p + s))
        have hlpE : ({ lp2 with state := if Option.isNone (none : Option Code) then .ready else .done, pending := none } : Loop) = lp := by
          rw [HLP2.out]
          have h1 := HST.out
          have h2 := HPN.out
          clear R1 R2 HS HLP2 HST HPN
          cases lp
          simp only at h1 h2
          subst h1 h2
          rfl
        have hfin := R2.out.done (F := F ++ [(k, b)]) (by simp) (by simp) lp
        rw [← hlpE] at hfin
        refine ⟨_, _, run_endRound none R2.out.lo.dL, rfl, ?_, hfin.2⟩
        rw [hlpE] at hfin ⊢
        exact ⟨_, _, hfin.1⟩
      · skip
        go_simp
        go_wp2_with fail
        have hx := bel1' w1 (.cells #[.slice B m d] 22)
        have R2 := Lib.hid (R1.out.below hx)
        have HBk' := Lib.hid ((hx.block _ (Array.getElem?_eq_some_iff.1 HBk.out).1).trans HBk.out)
        have HBb := Lib.hid (World.alloc_heap_new w1 (.cells #[.slice B m d] 22))
        clear HBk
        have HBk := HBk'
        clear HBk'
        refine hK.out _ _ (fun _ => AK.out _ _ _ _ _ R2.out) ?_
        clear hK K
        (try simp only [Act.put, List.getElem_toArray, List.getElem_cons_succ, List.getElem_cons_zero, List.setIfInBounds_toArray, List.set_cons_zero, List.set_cons_succ])
        obtain ⟨w7, hW⟩ : ∃ W, W = w1.alloc (.cells #[.slice B m d] 22) := ⟨_, rfl⟩
        obtain ⟨g8, hg8⟩ : ∃ q, q = w1.heap.size := ⟨_, rfl⟩
        change wpAnyG _ _ _ _ _ _ _ _ _ (w1.alloc (.cells #[.slice B m d] 22))
        rw [← hW] at HBb R2 HBk ⊢
        rw [← hg8] at HBb ⊢
        clear hW hg8 hx R1
        have R1 := R2
        clear R2
        refine wpAnyG_ready (rs := [4]) (by kernel_rfl) (by simp) ?_
        refine (AllReadyG.cons rfl (fun K hK => ?_) AllReadyG.nil)
        rw [if_pos (by kernel_rfl)]
        refine wp_append_el (O := inO) (.tmp 11) (.tmp 14) 27 _ _ rfl Try.underlying27 infoIn rfl (by decide) (w.heap.size + 8) (.slice Ak F.length ck) (F.map fun f => (f.1 : Int)) (k : Int) _ rfl R1.out.ek rfl _ rfl _ HBk.out (by rw [List.length_map]; omega) R1.out.sz ?_
        intro v5 w8 ho5 hg5
        have R2 := Lib.hid (R1.out.appK ho5 hg5)
        have HBb' := Lib.hid (R1.out.blk (by decide) hg5 HBb.out)
        clear HBb
        have HBb := HBb'
        clear HBb'
        clear HBk
        obtain ⟨Av, cv, ev⟩ := ho5.len
        rw [List.length_append, List.length_map] at ev
        simp only [List.length_cons, List.length_nil, Nat.zero_add] at ev
        subst ev
        clear ho5 hg5 R1
        have R1 := R2
        clear R2
        refine hK.out _ _ (fun _ => AK.out _ _ _ _ _ R1.out) ?_
        clear hK K
        (try simp only [Act.put, List.getElem_toArray, List.getElem_cons_succ, List.getElem_cons_zero, List.setIfInBounds_toArray, List.set_cons_zero, List.set_cons_succ])
        refine wpAnyG_ready (rs := [9]) (by kernel_rfl) (by simp) ?_
        refine (AllReadyG.cons rfl (fun K hK => ?_) AllReadyG.nil)
        rw [if_pos (by kernel_rfl)]
        refine wp_append_el (O := blO) (.tmp 16) (.tmp 19) 28 _ _ rfl Try.underlying28 infoBl rfl (by decide) (w.heap.size + 8) (.slice Ab F.length cb) (F.map (·.2)) b _ rfl R1.out.eb ⟨_, rfl, R1.out.ho⟩ _ rfl _ HBb.out (by rw [List.length_map]; omega) R1.out.sz ?_
        intro v5 w9 ho5 hg5
        have R2 := Lib.hid (R1.out.appB ho5 hg5)
        obtain ⟨Aw, cw, ev⟩ := ho5.len
        rw [List.length_append, List.length_map] at ev
        simp only [List.length_cons, List.length_nil, Nat.zero_add] at ev
        subst ev
        clear ho5 hg5 R1 HBb
        have R1 := R2
        clear R2
        refine hK.out _ _ (fun _ => AK.out _ _ _ _ _ R1.out) ?_
        clear hK K
        (try simp only [Act.put, List.getElem_toArray, List.getElem_cons_succ, List.getElem_cons_zero, List.setIfInBounds_toArray, List.set_cons_zero, List.set_cons_succ])
        refine wpAnyG_ready (rs := [10]) (by kernel_rfl) (by simp) ?_
        refine (AllReadyG.cons rfl (fun K hK => ?_) AllReadyG.nil)
        have d0 := cell_of R1.out.lo.ck 0
        have d1 := frozen_of R1.out.lo.ck 0
        simp at d0
        go_simp
        go_wp2_with fail
        have R2 := Lib.hid (R1.out.setK' (.slice Av (F.length + 1) cv))
        clear d0 d1
        refine hK.out _ _ (fun h => absurd h (by simp)) ?_
        clear hK K
        (try simp only [Act.put, List.getElem_toArray, List.getElem_cons_succ, List.getElem_cons_zero, List.setIfInBounds_toArray, List.set_cons_zero, List.set_cons_succ])
        obtain ⟨w10, hW⟩ : ∃ X, X = w9.setCell ⟨w.heap.size, 0, none⟩ (.slice Av (F.length + 1) cv) := ⟨_, rfl⟩
        rw [← hW] at R2 ⊢
        clear hW R1
        have R1 := R2
        clear R2
        refine wpAnyG_ready (rs := [11]) (by kernel_rfl) (by simp) ?_
        refine (AllReadyG.cons rfl (fun K hK => ?_) AllReadyG.nil)
        have d0 := cell_of R1.out.lo.cb 0
        have d1 := frozen_of R1.out.lo.cb 0
        simp at d0
        go_simp
        go_wp2_with fail
        have R2 := Lib.hid (R1.out.setV' (.slice Aw (F.length + 1) cw))
        clear d0 d1
        refine hK.out _ _ (fun h => absurd h (by simp)) ?_
        clear hK K
        (try simp only [Act.put, List.getElem_toArray, List.getElem_cons_succ, List.getElem_cons_zero, List.setIfInBounds_toArray, List.set_cons_zero, List.set_cons_succ])
        obtain ⟨w11, hW⟩ : ∃ X, X = w10.setCell ⟨w.heap.size + 1, 0, none⟩ (.slice Aw (F.length + 1) cw) := ⟨_, rfl⟩
        rw [← hW] at R2 ⊢
        clear hW R1
        have R1 := R2
        clear R2
        refine wpAnyG_done (by kernel_rfl) ?_ _
        clear AK HW4
        obtain ⟨t10, t11, t12⟩ := R1.out.hf.cells
        have d0 := cell_of R1.out.lo.ca 0
        have d1 := frozen_of R1.out.lo.ca 0
        simp at d0
        have hpw : IntKind.i64.wrap ((p : Int) + (s : Int)) = ((p + s : Nat) : Int) := by rw [IntKind.wrap_i64]; omega
        have hpw2 : wrap64 ((p : Int) + (s : Int)) = ((p + s : Nat) : Int) := by unfold wrap64; omega
        gi_wp2
        have R2 := Lib.hid (R1.out.setA' (p + s))
        have hlpE : ({ lp2 with state := if Option.isNone (none : Option Code) then .ready else .done, pending := none } : Loop) = lp := by
          rw [HLP2.out]
          have h1 := HST.out
          have h2 := HPN.out
          clear R1 R2 HS HLP2 HST HPN
          cases lp
          simp only at h1 h2
          subst h1 h2
          rfl
        have hfin := R2.out.done (F := F ++ [(k, b)]) (by simp) (by simp) lp
        rw [← hlpE] at hfin
        refine ⟨_, _, run_endRound none R2.out.lo.dL, rfl, ?_, hfin.2⟩
        rw [hlpE] at hfin ⊢
        exact ⟨_, _, hfin.1⟩
    · skip
      go_simp
      go_wp2_with fail
      have hx := bel1' W4 (.cells #[.slice B m d] 22)
      have R2 := Lib.hid (R1.out.below hx)
      have HBb := Lib.hid (World.alloc_heap_new W4 (.cells #[.slice B m d] 22))
      refine hK.out _ _ (fun _ => AK.out _ _ _ _ _ R2.out) ?_
      clear hK K
      (try simp only [Act.put, List.getElem_toArray, List.getElem_cons_succ, List.getElem_cons_zero, List.setIfInBounds_toArray, List.set_cons_zero, List.set_cons_succ])
      obtain ⟨w12, hW⟩ : ∃ W, W = W4.alloc (.cells #[.slice B m d] 22) := ⟨_, rfl⟩
      obtain ⟨g8, hg8⟩ : ∃ q, q = W4.heap.size := ⟨_, rfl⟩
      change wpAnyG _ _ _ _ _ _ _ _ _ (W4.alloc (.cells #[.slice B m d] 22))
      rw [← hW] at HBb R2  ⊢
      rw [← hg8] at HBb ⊢
      clear hW hg8 hx R1
      have R1 := R2
      clear R2
      refine wpAnyG_ready (rs := [3]) (by kernel_rfl) (by simp) ?_
      refine (AllReadyG.cons rfl (fun K hK => ?_) AllReadyG.nil)
      go_simp
      go_wp2_with fail
      have hx := bel1' w12 (.cells #[.int .i64 (k : Int)] 3)
      have R2 := Lib.hid (R1.out.below hx)
      have HBb' := Lib.hid ((hx.block _ (Array.getElem?_eq_some_iff.1 HBb.out).1).trans HBb.out)
      have HBk := Lib.hid (World.alloc_heap_new w12 (.cells #[.int .i64 (k : Int)] 3))
      clear HBb
      have HBb := HBb'
      clear HBb'
      refine hK.out _ _ (fun _ => AK.out _ _ _ _ _ R2.out) ?_
      clear hK K
      (try simp only [Act.put, List.getElem_toArray, List.getElem_cons_succ, List.getElem_cons_zero, List.setIfInBounds_toArray, List.set_cons_zero, List.set_cons_succ])
      obtain ⟨w13, hW⟩ : ∃ W, W = w12.alloc (.cells #[.int .i64 (k : Int)] 3) := ⟨_, rfl⟩
      obtain ⟨g3, hg3⟩ : ∃ q, q = w12.heap.size := ⟨_, rfl⟩
      change wpAnyG _ _ _ _ _ _ _ _ _ (w12.alloc (.cells #[.int .i64 (k : Int)] 3))
      rw [← hW] at HBk R2 HBb ⊢
      rw [← hg3] at HBk ⊢
      clear hW hg3 hx R1
      have R1 := R2
      clear R2
      refine wpAnyG_ready (rs := [4]) (by kernel_rfl) (by simp) ?_
      refine (AllReadyG.cons rfl (fun K hK => ?_) AllReadyG.nil)
      rw [if_pos (by kernel_rfl)]
      refine wp_append_el (O := inO) (.tmp 11) (.tmp 14) 27 _ _ rfl Try.underlying27 infoIn rfl (by decide) (w.heap.size + 8) (.slice Ak F.length ck) (F.map fun f => (f.1 : Int)) (k : Int) _ rfl R1.out.ek rfl _ rfl _ HBk.out (by rw [List.length_map]; omega) R1.out.sz ?_
      intro v5 w14 ho5 hg5
      have R2 := Lib.hid (R1.out.appK ho5 hg5)
      have HBb' := Lib.hid (R1.out.blk (by decide) hg5 HBb.out)
      clear HBb
      have HBb := HBb'
      clear HBb'
      clear HBk
      obtain ⟨Av, cv, ev⟩ := ho5.len
      rw [List.length_append, List.length_map] at ev
      simp only [List.length_cons, List.length_nil, Nat.zero_add] at ev
      subst ev
      clear ho5 hg5 R1
      have R1 := R2
      clear R2
      refine hK.out _ _ (fun _ => AK.out _ _ _ _ _ R1.out) ?_
      clear hK K
      (try simp only [Act.put, List.getElem_toArray, List.getElem_cons_succ, List.getElem_cons_zero, List.setIfInBounds_toArray, List.set_cons_zero, List.set_cons_succ])
      refine wpAnyG_ready (rs := [9]) (by kernel_rfl) (by simp) ?_
      refine (AllReadyG.cons rfl (fun K hK => ?_) AllReadyG.nil)
      rw [if_pos (by kernel_rfl)]
      refine wp_append_el (O := blO) (.tmp 16) (.tmp 19) 28 _ _ rfl Try.underlying28 infoBl rfl (by decide) (w.heap.size + 8) (.slice Ab F.length cb) (F.map (·.2)) b _ rfl R1.out.eb ⟨_, rfl, R1.out.ho⟩ _ rfl _ HBb.out (by rw [List.length_map]; omega) R1.out.sz ?_
      intro v5 w15 ho5 hg5
      have R2 := Lib.hid (R1.out.appB ho5 hg5)
      obtain ⟨Aw, cw, ev⟩ := ho5.len
      rw [List.length_append, List.length_map] at ev
      simp only [List.length_cons, List.length_nil, Nat.zero_add] at ev
      subst ev
      clear ho5 hg5 R1 HBb
      have R1 := R2
      clear R2
      refine hK.out _ _ (fun _ => AK.out _ _ _ _ _ R1.out) ?_
      clear hK K
      (try simp only [Act.put, List.getElem_toArray, List.getElem_cons_succ, List.getElem_cons_zero, List.setIfInBounds_toArray, List.set_cons_zero, List.set_cons_succ])
      refine wpAnyG_ready (rs := [10]) (by kernel_rfl) (by simp) ?_
      refine (AllReadyG.cons rfl (fun K hK => ?_) AllReadyG.nil)
      have d0 := cell_of R1.out.lo.ck 0
      have d1 := frozen_of R1.out.lo.ck 0
      simp at d0
      go_simp
      go_wp2_with fail
      have R2 := Lib.hid (R1.out.setK' (.slice Av (F.length + 1) cv))
      clear d0 d1
      refine hK.out _ _ (fun h => absurd h (by simp)) ?_
      clear hK K
      (try simp only [Act.put, List.getElem_toArray, List.getElem_cons_succ, List.getElem_cons_zero, List.setIfInBounds_toArray, List.set_cons_zero, List.set_cons_succ])
      obtain ⟨w16, hW⟩ : ∃ X, X = w15.setCell ⟨w.heap.size, 0, none⟩ (.slice Av (F.length + 1) cv) := ⟨_, rfl⟩
      rw [← hW] at R2 ⊢
      clear hW R1
      have R1 := R2
      clear R2
      refine wpAnyG_ready (rs := [11]) (by kernel_rfl) (by simp) ?_
      refine (AllReadyG.cons rfl (fun K hK => ?_) AllReadyG.nil)
      have d0 := cell_of R1.out.lo.cb 0
      have d1 := frozen_of R1.out.lo.cb 0
      simp at d0
      go_simp
      go_wp2_with fail
      have R2 := Lib.hid (R1.out.setV' (.slice Aw (F.length + 1) cw))
      clear d0 d1
      refine hK.out _ _ (fun h => absurd h (by simp)) ?_
      clear hK K
      (try simp only [Act.put, List.getElem_toArray, List.getElem_cons_succ, List.getElem_cons_zero, List.setIfInBounds_toArray, List.set_cons_zero, List.set_cons_succ])
      obtain ⟨w17, hW⟩ : ∃ X, X = w16.setCell ⟨w.heap.size + 1, 0, none⟩ (.slice Aw (F.length + 1) cw) := ⟨_, rfl⟩
      rw [← hW] at R2 ⊢
      clear hW R1
      have R1 := R2
      clear R2
      refine wpAnyG_done (by kernel_rfl) ?_ _
      clear AK HW4
      obtain ⟨t10, t11, t12⟩ := R1.out.hf.cells
      have d0 := cell_of R1.out.lo.ca 0
      have d1 := frozen_of R1.out.lo.ca 0
      simp at d0
      have hpw : IntKind.i64.wrap ((p : Int) + (s : Int)) = ((p + s : Nat) : Int) := by rw [IntKind.wrap_i64]; omega
      have hpw2 : wrap64 ((p : Int) + (s : Int)) = ((p + s : Nat) : Int) := by unfold wrap64; omega
      gi_wp2
      have R2 := Lib.hid (R1.out.setA' (p + s))
      have hlpE : ({ lp2 with state := if Option.isNone (none : Option Code) then .ready else .done, pending := none } : Loop) = lp := by
        rw [HLP2.out]
        have h1 := HST.out
        have h2 := HPN.out
        clear R1 R2 HS HLP2 HST HPN
        cases lp
        simp only at h1 h2
        subst h1 h2
        rfl
      have hfin := R2.out.done (F := F ++ [(k, b)]) (by simp) (by simp) lp
      rw [← hlpE] at hfin
      refine ⟨_, _, run_endRound none R2.out.lo.dL, rfl, ?_, hfin.2⟩
      rw [hlpE] at hfin ⊢
      exact ⟨_, _, hfin.1⟩
  have step : ∀ (W : World) (k : Nat) (o : Obj), W.heap.size = w.heap.size + k → Below w.heap.size w W → (W.alloc o).heap.size = w.heap.size + (k + 1) ∧ (W.alloc o).heap[w.heap.size + k]? = some o ∧ (∀ q o', W.heap[q]? = some o' → (W.alloc o).heap[q]? = some o') ∧ Below w.heap.size w (W.alloc o) := fun W k o hk hb => ⟨by rw [World.size_alloc, hk]; rfl, by rw [← hk]; exact World.alloc_heap_new W o, fun q o' hq => ((bel1' W o).block q (Array.getElem?_eq_some_iff.1 hq).1).trans hq, hb.alloc hb.size o⟩
  have hAS : AS w ((w1.alloc (.deferred (some []))).alloc (.loop lp)) [] 0 0 l lp (.slice none 0 0) (.slice none 0 0) A n c := by
    rw [HW1.out]
    obtain ⟨s0, n0, k0, b0⟩ := step w 0 (.cells #[.slice none 0 0] 27) rfl (bel0 w)
    obtain ⟨s1, n1, k1, b1⟩ := step _ 1 (.cells #[.slice none 0 0] 28) s0 b0
    obtain ⟨s2, n2, k2, b2⟩ := step _ 2 (.cells #[.int .i64 0] 24) s1 b1
    obtain ⟨s3, n3, k3, b3⟩ := step _ 3 (.cells #[.int .i64 0] 3) s2 b2
    obtain ⟨s4, n4, k4, b4⟩ := step _ 4 (.cells #[.slice A n c] 22) s3 b3
    obtain ⟨s5, n5, k5, b5⟩ := step _ 5 (.cells #[.pointer (some ⟨w.heap.size + 2, 0, none⟩)] 72) s4 b4
    obtain ⟨s6, n6, k6, b6⟩ := step _ 6 (.deferred (some [])) s5 b5
    obtain ⟨s7, n7, k7, b7⟩ := step _ 7 (.loop lp) s6 b6
    exact ⟨⟨b7, k7 _ _ (k6 _ _ (k5 _ _ (k4 _ _ (k3 _ _ (k2 _ _ (k1 _ _ n0)))))), k7 _ _ (k6 _ _ (k5 _ _ (k4 _ _ (k3 _ _ (k2 _ _ n1))))), k7 _ _ (k6 _ _ (k5 _ _ (k4 _ _ (k3 _ _ n2)))), k7 _ _ (k6 _ _ (k5 _ _ (k4 _ _ n3))), k7 _ _ (k6 _ _ (k5 _ _ n4)), k7 _ _ (k6 _ _ n5), k7 _ _ n6, n7⟩, EOwn.nil _ _, EOwn.nil _ _, HB.out⟩
  clear step hA hBd hTm hPs
  simp only [Nat.add_assoc, Nat.reduceAdd]
  refine (frames1_any HRD HL.out hAS).mono ?_
  rintro e w3 ⟨hv, vk, vb, A2, n2, c2, r2, hA⟩
  refine ⟨hv, lp, hA.lo.dL, by rw [hSt]; decide, hPn, ?_⟩
  have HA := Lib.hid (hA.putL { lp with state := .exhausted })
  obtain ⟨W4, hW⟩ : ∃ X, X = w3.putObj (w.heap.size + 7) (.loop { lp with state := .exhausted }) := ⟨_, rfl⟩
  rw [← hW] at HA ⊢
  clear hW hA hv hAS HRD hSt hPn
  obtain ⟨Ak, ck, ek⟩ := HA.out.ek.len
  obtain ⟨Ab, cb, eb⟩ := HA.out.eb.len
  rw [List.length_map] at ek eb
  subst ek eb
  have HXX := Lib.hid (show X = if (allN (l.length + 1) l).2.2 = 30 then ([], [], 30) else ((allN (l.length + 1) l).1, l.drop (allN (l.length + 1) l).2.1, 0) from HX.out)
  clear HX
  generalize allN (l.length + 1) l = Z at *
  obtain ⟨F, p, e9⟩ := Z
  simp only at HA HXX HAE HAN
  have d2 := cell_of HA.out.lo.ce 0
  simp at d2
  rcases HAE.out with he | he
  · subst he
    have hpl := HAN.out.1
    have hnn := HB.out.len
    subst hnn
    have hlc := HB.out.le
    have hs1 : ∀ w : World, (Instr.slice 22 (.slice A l.length c) (some (.int .i64 (p : Int))) none none).run Try.prog w = .ok (.slice (dropA A c p) (l.length - p) (c - p)) w := fun w => slice_drop hpl hlc
    have hpi : (p : Int) ≤ (l.length : Int) := by omega
    have KB := Lib.hid (HB.out.dropA (k := p) hpl)
    go_upto_region 8 with (fail)
    have HA5 := Lib.hid (HA.out.below (bel0 W4).drew)
    have CL := Lib.hid (fun (X : World) (hX : Below w.heap.size w X) => clone_any (dropA A c p) (l.length - p) (c - p) (l.drop p) X (KB.out.below hX))
    clear hs1 d2
    have hs1 : ∀ w : World, (Instr.slice 22 (.slice A l.length c) (some (.int .i64 (p : Int))) none none).run Try.prog w = .ok (.slice (dropA A c p) (l.length - p) (c - p)) w := fun w => slice_drop hpl hlc
    generalize hD : dropA A c p = D at *
    clear hD
    generalize l.length - p = ns at *
    generalize c - p = cs at *
    refine wp_region_noPanic ?_
    refine wp_region_held_drew (S := (fun w' => w'.cell? ⟨w.heap.size, 0, none⟩ = some (.slice Ak F.length ck) ∧ w'.cell? ⟨w.heap.size + 1, 0, none⟩ = some (.slice Ab F.length cb) ∧ w'.cell? ⟨w.heap.size + 3, 0, none⟩ = some (.int .i64 (p : Int)))) (by kernel_rfl) ⟨cell_of HA5.out.lo.ck 0, cell_of HA5.out.lo.cb 0, cell_of HA5.out.lo.ca 0⟩ (fun hHeld => ?_)
    refine' take_val (i := 0) (d := 28) (v := _) rfl rfl (by kernel_rfl) (by kernel_rfl) (by kernel_rfl) (fun _ _ _ h => h) (by rfl) ?_ (by assumption) ?_
    rotate_left
    · (intro w hSw; (try dsimp only at hSw); go_simp; (try with_reducible rfl))
    (try simp only [Act.put, List.setIfInBounds_toArray, List.set_cons_zero, List.set_cons_succ])
    refine' take_val (i := 1) (d := 29) (v := _) rfl rfl (by kernel_rfl) (by kernel_rfl) (by kernel_rfl) (fun _ _ _ h => h) (by rfl) ?_ (by assumption) ?_
    rotate_left
    · (intro w hSw; (try dsimp only at hSw); go_simp; (try with_reducible rfl))
    (try simp only [Act.put, List.setIfInBounds_toArray, List.set_cons_zero, List.set_cons_succ])
    refine' take_val (i := 2) (d := 30) (v := _) rfl rfl (by kernel_rfl) (by kernel_rfl) (by kernel_rfl) (fun _ _ _ h => h) (by rfl) ?_ (by assumption) ?_
    rotate_left
    · (intro w hSw; (try dsimp only at hSw); go_simp; (try with_reducible rfl))
    (try simp only [Act.put, List.setIfInBounds_toArray, List.set_cons_zero, List.set_cons_succ])
    refine' take_val (i := 3) (d := 31) (v := _) rfl rfl (by kernel_rfl) (by kernel_rfl) (by kernel_rfl) (fun _ _ _ h => h) (by rfl) ?_ (by assumption) ?_
    rotate_left
    · (intro w hSw; (try dsimp only at hSw); go_simp; (try with_reducible rfl))
    (try simp only [Act.put, List.setIfInBounds_toArray, List.set_cons_zero, List.set_cons_succ])
    refine' take_val (i := 4) (d := 32) (v := _) rfl rfl (by kernel_rfl) (by kernel_rfl) (by kernel_rfl) (fun _ _ _ h => h) (by rfl) ?_ (by assumption) ?_
    rotate_left
    · (intro w hSw; (try dsimp only at hSw); go_simp; (try with_reducible rfl))
    (try simp only [Act.put, List.setIfInBounds_toArray, List.set_cons_zero, List.set_cons_succ])
    refine wpAnyH_ready (rs := [5]) (by kernel_rfl) (by simp) ?_
    refine AllReadyH.cons rfl (fun K hK => ?_) AllReadyH.nil
    go_simp
    go_at_call 28
    refine (CL.out _ HA5.out.lo.bel).mono ?_
    rintro r2 w6 ⟨u, rfl, hou, hb⟩
    have HA6 := Lib.hid (HA5.out.below hb)
    have HU6 := Lib.hid (ownsRow_base hou (show w.heap.size + 8 ≤ _ from HA5.out.sz))
    obtain ⟨U, nu, cu, rfl, hrow0⟩ : ∃ A4 n4 c4, u = .slice A4 n4 c4 ∧ True := (by rcases hou.2 with ⟨h, _⟩ | ⟨g2, cap, cur, h, _⟩ <;> exact ⟨_, _, _, h, trivial⟩)
    clear hou hb hrow0 hHeld
    go_wp2_with fail
    refine hK.out _ _ ⟨cell_of HA6.out.lo.ck 0, cell_of HA6.out.lo.cb 0, cell_of HA6.out.lo.ca 0⟩ (fun hHeld => ?_)
    clear hK K
    (try simp only [Act.put, List.setIfInBounds_toArray, List.set_cons_zero, List.set_cons_succ])
    refine wpAnyH_ready (rs := [6]) (by kernel_rfl) (by simp) ?_
    refine AllReadyH.cons rfl (fun K hK => ?_) AllReadyH.nil
    have d0 := cell_of HA6.out.lo.ck 0
    have d1 := frozen_of HA6.out.lo.ck 0
    simp at d0
    go_simp
    have HA7 := Lib.hid (HA6.out.setK2)
    clear d0 d1
    have HU7 := Lib.hid (ownsRow_setCell_other HU6.out (a := ⟨w.heap.size, 0, none⟩) (fun e => by have := own_block HU6.out _ e; simp only at this; omega) (.slice Ak F.length ck))
    clear HA6 HU6 hHeld
    refine hK.out _ _ ⟨cell_of HA7.out.lo.ck 0, cell_of HA7.out.lo.cb 0, cell_of HA7.out.lo.ca 0⟩ (fun hHeld => ?_)
    clear hK K
    (try simp only [Act.put, List.getElem_toArray, List.getElem_cons_succ, List.getElem_cons_zero, List.setIfInBounds_toArray, List.set_cons_zero, List.set_cons_succ])
    (try simp only [Act.put, List.setIfInBounds_toArray, List.set_cons_zero, List.set_cons_succ])
    refine wpAnyH_ready (rs := [7]) (by kernel_rfl) (by simp) ?_
    refine AllReadyH.cons rfl (fun K hK => ?_) AllReadyH.nil
    have d0 := cell_of HA7.out.lo.cb 0
    have d1 := frozen_of HA7.out.lo.cb 0
    simp at d0
    go_simp
    have HA8 := Lib.hid (HA7.out.setV2)
    clear d0 d1
    have HU8 := Lib.hid (ownsRow_setCell_other HU7.out (a := ⟨w.heap.size + 1, 0, none⟩) (fun e => by have := own_block HU7.out _ e; simp only at this; omega) (.slice Ab F.length cb))
    clear HA7 HU7 hHeld
    refine hK.out _ _ ⟨cell_of HA8.out.lo.ck 0, cell_of HA8.out.lo.cb 0, cell_of HA8.out.lo.ca 0⟩ (fun hHeld => ?_)
    clear hK K
    (try simp only [Act.put, List.getElem_toArray, List.getElem_cons_succ, List.getElem_cons_zero, List.setIfInBounds_toArray, List.set_cons_zero, List.set_cons_succ])
    (try simp only [Act.put, List.setIfInBounds_toArray, List.set_cons_zero, List.set_cons_succ])
    refine' take_val (i := 8) (d := 4) (v := _) rfl rfl (by kernel_rfl) (by kernel_rfl) (by kernel_rfl) (fun _ _ _ h => h) (by rfl) ?_ (by assumption) ?_
    rotate_left
    · (intro w hSw; (try dsimp only at hSw); go_simp; (try with_reducible rfl))
    (try simp only [Act.put, List.setIfInBounds_toArray, List.set_cons_zero, List.set_cons_succ])
    refine wpAnyH_ready (rs := [9]) (by kernel_rfl) (by simp) ?_
    refine AllReadyH.cons rfl (fun K hK => ?_) AllReadyH.nil
    have d0 := cell_of HA8.out.lo.ce 0
    have d1 := frozen_of HA8.out.lo.ce 0
    simp at d0
    go_simp
    have HA9 := Lib.hid (HA8.out.setE 0)
    clear d0 d1
    have HU9 := Lib.hid (ownsRow_setCell_other HU8.out (a := ⟨w.heap.size + 2, 0, none⟩) (fun e => by have := own_block HU8.out _ e; simp only at this; omega) (.int .i64 0))
    clear HA8 HU8 hHeld
    refine hK.out _ _ ⟨cell_of HA9.out.lo.ck 0, cell_of HA9.out.lo.cb 0, cell_of HA9.out.lo.ca 0⟩ (fun hHeld => ?_)
    clear hK K
    (try simp only [Act.put, List.getElem_toArray, List.getElem_cons_succ, List.getElem_cons_zero, List.setIfInBounds_toArray, List.set_cons_zero, List.set_cons_succ])
    (try simp only [Act.put, List.setIfInBounds_toArray, List.set_cons_zero, List.set_cons_succ])
    refine wpAnyH_done (by kernel_rfl) ?_ _

    obtain ⟨w9, hW⟩ : ∃ X, X = ((w6.setCell ⟨w.heap.size, 0, none⟩ (.slice Ak F.length ck)).setCell ⟨w.heap.size + 1, 0, none⟩ (.slice Ab F.length cb)).setCell ⟨w.heap.size + 2, 0, none⟩ (.int .i64 0) := ⟨_, rfl⟩
    have HW := Lib.hid hW
    rw [← hW] at HA9 HU9
    clear hW hHeld HA HA5 CL KB
    refine NoPanic.normal ?_
    rw [← HW.out]
    clear HW
    go_wp2_with fail
    have hx0 := HXX.out
    rw [if_neg (by decide)] at hx0
    refine ⟨by simp, .inl ⟨_, _, rfl, run_takeDeferred HA9.out.lo.dD, ?_⟩⟩
    have hk : ∀ q o, q ≠ w.heap.size + 6 → w9.heap[q]? = some o → (w9.putObj (w.heap.size + 6) (.deferred none)).heap[q]? = some o := fun q o hq ho => (World.putObj_heap_other hq).trans ho
    have hb := HA9.out.lo.bel.grown (grownBy_putObj' w9 (w.heap.size + 6) (.deferred none)) HA9.out.lo.bel.size (fun k e => by cases e; omega)
    have h1 := ino_keep HA9.out.ek (fun k c mk hb _ hc => hk k _ (by omega) hc)
    have h2 := blo_keep HA9.out.eb (fun k c mk hb _ hc => hk k _ (by omega) hc) (fun k c mk hb hc => hk k _ (by omega) hc)
    have h3 := own_keep HU9.out (fun k c mk hb _ hc => hk k _ (by omega) hc)
    have c0 := cell_of (hk _ _ (by omega) HA9.out.lo.ck) 0
    have c1 := cell_of (hk _ _ (by omega) HA9.out.lo.cb) 0
    have c2 := cell_of (hk _ _ (by omega) HA9.out.lo.ce) 0
    simp at c0 c1 c2
    refine ⟨_, by simp [results, Try.results10, go_sem, c0, c1, c2]; try rfl, ?_⟩
    rw [hx0]
    exact ⟨_, _, _, rfl, h1.base (by omega), h2.base (by omega), ownsRow_base h3 (by omega), hb⟩
  · subst he
    go_upto_region 7 with (fail)
    refine wp_region_noPanic ?_
    have HA5 := Lib.hid (HA.out.below (bel0 W4).drew)
    have HL5 := Lib.hid HA5.out.lo
    clear HA5
    refine wp_region_held_drew (S := (fun w' => w'.cell? ⟨w.heap.size + 2, 0, none⟩ = some (.int .i64 30))) (by kernel_rfl) (cell_of HL5.out.ce 0) (fun hHeld => ?_)
    refine' take_val (i := 0) (d := 27) (v := _) rfl rfl (by kernel_rfl) (by kernel_rfl) (by kernel_rfl) (fun _ _ _ h => h) (by rfl) ?_ (by assumption) ?_
    rotate_left
    · (intro w hSw; (try dsimp only at hSw); go_simp; (try with_reducible rfl))
    (try simp only [Act.put, List.setIfInBounds_toArray, List.set_cons_zero, List.set_cons_succ])
    obtain ⟨W5, hW5⟩ : ∃ X, X = W4.drew := ⟨_, rfl⟩
    rw [← hW5] at HL5 hHeld ⊢
    clear hW5
    refine wpAnyH_ready (rs := [1]) (by kernel_rfl) (by simp) ?_
    refine AllReadyH.cons rfl (fun K hK => ?_) AllReadyH.nil
    have d0 := cell_of HL5.out.ck 0
    have d1 := frozen_of HL5.out.ck 0
    simp at d0
    go_simp
    have HL6 := Lib.hid (HL5.out.setK (.slice none 0 0))
    clear d0 d1 hHeld HL5
    refine hK.out _ _ (cell_of HL6.out.ce 0) (fun hHeld => ?_)
    clear hK K
    (try simp only [Act.put, List.getElem_toArray, List.getElem_cons_succ, List.getElem_cons_zero, List.setIfInBounds_toArray, List.set_cons_zero, List.set_cons_succ])
    (try simp only [Act.put, List.setIfInBounds_toArray, List.set_cons_zero, List.set_cons_succ])
    refine wpAnyH_ready (rs := [2]) (by kernel_rfl) (by simp) ?_
    refine AllReadyH.cons rfl (fun K hK => ?_) AllReadyH.nil
    have d0 := cell_of HL6.out.cb 0
    have d1 := frozen_of HL6.out.cb 0
    simp at d0
    go_simp
    have HL7 := Lib.hid (HL6.out.setV (.slice none 0 0))
    clear d0 d1 hHeld HL6
    refine hK.out _ _ (cell_of HL7.out.ce 0) (fun hHeld => ?_)
    clear hK K
    (try simp only [Act.put, List.getElem_toArray, List.getElem_cons_succ, List.getElem_cons_zero, List.setIfInBounds_toArray, List.set_cons_zero, List.set_cons_succ])
    (try simp only [Act.put, List.setIfInBounds_toArray, List.set_cons_zero, List.set_cons_succ])
    refine' take_val (i := 3) (d := 4) (v := _) rfl rfl (by kernel_rfl) (by kernel_rfl) (by kernel_rfl) (fun _ _ _ h => h) (by rfl) ?_ (by assumption) ?_
    rotate_left
    · (intro w hSw; (try dsimp only at hSw); go_simp; (try with_reducible rfl))
    (try simp only [Act.put, List.setIfInBounds_toArray, List.set_cons_zero, List.set_cons_succ])
    refine wpAnyH_ready (rs := [4]) (by kernel_rfl) (by simp) ?_
    refine AllReadyH.cons rfl (fun K hK => ?_) AllReadyH.nil
    have d0 := cell_of HL7.out.ce 0
    have d1 := frozen_of HL7.out.ce 0
    simp at d0
    go_simp
    have HL8 := Lib.hid (HL7.out.setE 30)
    clear d0 d1 hHeld HL7
    refine hK.out _ _ (cell_of HL8.out.ce 0) (fun hHeld => ?_)
    clear hK K
    (try simp only [Act.put, List.getElem_toArray, List.getElem_cons_succ, List.getElem_cons_zero, List.setIfInBounds_toArray, List.set_cons_zero, List.set_cons_succ])
    (try simp only [Act.put, List.setIfInBounds_toArray, List.set_cons_zero, List.set_cons_succ])
    refine wpAnyH_done (by kernel_rfl) ?_ _

    obtain ⟨w9, hW⟩ : ∃ X, X = ((W5.setCell ⟨w.heap.size, 0, none⟩ (.slice none 0 0)).setCell ⟨w.heap.size + 1, 0, none⟩ (.slice none 0 0)).setCell ⟨w.heap.size + 2, 0, none⟩ (.int .i64 30) := ⟨_, rfl⟩
    have HW := Lib.hid hW
    rw [← hW] at HL8
    clear hW hHeld HA
    refine NoPanic.normal ?_
    rw [← HW.out]
    clear HW
    go_wp2_with fail
    have hx0 := HXX.out
    rw [if_pos (by trivial)] at hx0
    refine ⟨by simp, .inl ⟨_, _, rfl, run_takeDeferred HL8.out.dD, ?_⟩⟩
    have hk : ∀ q o, q ≠ w.heap.size + 6 → w9.heap[q]? = some o → (w9.putObj (w.heap.size + 6) (.deferred none)).heap[q]? = some o := fun q o hq ho => (World.putObj_heap_other hq).trans ho
    have hb := HL8.out.bel.grown (grownBy_putObj' w9 (w.heap.size + 6) (.deferred none)) HL8.out.bel.size (fun k e => by cases e; omega)
    have c0 := cell_of (hk _ _ (by omega) HL8.out.ck) 0
    have c1 := cell_of (hk _ _ (by omega) HL8.out.cb) 0
    have c2 := cell_of (hk _ _ (by omega) HL8.out.ce) 0
    simp at c0 c1 c2
    refine ⟨_, by simp [results, Try.results10, go_sem, c0, c1, c2]; try rfl, ?_⟩
    rw [hx0]
    exact ⟨_, _, _, rfl, EOwn.nil _ _, EOwn.nil _ _, World.ownsRow_nil _ _ _ _, hb⟩
end Go.Proofs.Ytmnabhennibddaa
