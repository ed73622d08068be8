/- The document's All of frames; lists of bytes compared: contracts. No conditions. -/
import Derived.Test.YtmnabhennibddaaGC26
import Derived.Test.YtmnabhennibddaaGC30
import Derived.Test.YtmnabhennibddaaGC31
import Derived.Test.YtmnabhennibddaaGC32
set_option linter.unusedSimpArgs false
set_option linter.unusedVariables false
namespace Go.Proofs.Ytmnabhennibddaa
open Go.RowKit

theorem ino_css {w : World} {b : Nat} {v : Value} {l : List Int} (h : EOwn inO w b v l) : w.ownsRow b 3 1 v l.length (iv l) := by
  obtain ⟨css, hv, ho, hr⟩ := h
  have e : css.flatten = iv l := by
    clear ho
    induction l generalizing css with
    | nil =>
      cases css with
      | nil => rfl
      | cons => simp at hv
    | cons x l ih =>
      cases css with
      | nil => simp at hv
      | cons y ys =>
        have h0 : y = [.int .i64 x] := hr 0 (by simp) (by simp)
        have h1 := ih ys (by simpa using hv) (fun i hi hi2 => hr (i + 1) (by simpa using hi) (by simpa using hi2))
        rw [List.flatten_cons, h1, h0]
        rfl
  rw [← e]
  exact ho
theorem ino_il {w : World} {b : Nat} {v : Value} {l : List Int} (h : EOwn inO w b v l) (hf : Fit l) (hm : l.length ≤ 17592186044416) : ∃ A c, v = .slice A l.length c ∧ IL w A l.length c l := by
  obtain ⟨A, c, e⟩ := h.len
  obtain ⟨B, n, d, e2, hI⟩ := ownsRow_il (ino_css h) hf hm
  rw [e] at e2
  injection e2 with e3 e4 e5
  subst e3 e4 e5
  exact ⟨_, _, e, hI.1⟩
def lenOf : Value → Nat
  | .slice _ n _ => n
  | _ => 0
theorem fstP_nil : (fstP []).2 = 3 := by decide
theorem nxP_yes {l : List Nat} (h : (fstP l).2 = 0) : nxP l = ((fstP l).1.1, (fstP l).1.2.1, l.drop (fstP l).1.2.2, 0) := if_pos h
theorem nxP_not {l : List Nat} (h : (fstP l).2 ≠ 0) : nxP l = (0, [], [], (fstP l).2) := if_neg h
set_option maxHeartbeats 32000000 in
set_option maxRecDepth 100000 in
theorem refAll_any {A : Option Addr} {n c : Nat} {l : List Nat} {w : World} (h : BS w A n c l) (hl : l.length ≤ 1000000000) :
    Calls Try.prog 11 #[.slice A n c] w fun r w' => AllR w w' r (alP l) := by
  have HB := Lib.hid h
  have HL := Lib.hid hl
  obtain ⟨X, hX⟩ : ∃ X, X = alP l := ⟨_, rfl⟩
  rw [← hX]
  obtain ⟨Z, hZ⟩ : ∃ Z, Z = allN (l.length + 1) l := ⟨_, rfl⟩
  have HX := Lib.hid (show X = if Z.2.2 = 30 then ([], [], 30) else (Z.1, l.drop Z.2.1, 0) by rw [hX, hZ]; rfl)
  have HZ := Lib.hid hZ
  have hbl := h.byt
  have HBL := Lib.hid hbl
  clear hX hZ h hl hbl
  go_enter Try.func11, Try.ntmps11
  go_wp2_with fail
  go_loopw [0, 6, 7] (fun bv vk vb wr => ∃ (F : List (Nat × List Nat)) (p : Nat) (r : List Nat) (B : Option Addr) (m d nf : Nat), bv = .slice B m d ∧ m = r.length ∧ Hid (BS wr B m d r) ∧ Hid (EOwn inO wr w.heap.size vk (F.map fun f => (f.1 : Int))) ∧ Hid (EOwn blO wr w.heap.size vb (F.map (·.2))) ∧ Hid (Below w.heap.size w wr) ∧ Hid (r = l.drop p ∧ r.length < nf ∧ F.length + r.length ≤ l.length) ∧ Hid (Z = (F ++ (allN nf r).1, p + (allN nf r).2.1, (allN nf r).2.2))) (fun bv _ _ _ => lenOf bv)
  case atStart => exact ⟨[], 0, l, A, n, c, l.length + 1, rfl, HB.out.len, HB, Lib.hid (EOwn.nil _ _), Lib.hid (EOwn.nil _ _), Lib.hid (bel0 w), Lib.hid ⟨rfl, Nat.lt_succ_self _, by simp⟩, Lib.hid (by rw [HZ.out]; simp)⟩
  case round =>
    clear HB HZ
    obtain ⟨F, p, r, B, m, d, nf, rfl, hm, HR, HK, HV, HW, HP, HT⟩ := hrel
    subst hm
    obtain ⟨Ak, ck, ek⟩ := HK.out.len
    obtain ⟨Ab, cb, eb⟩ := HV.out.len
    rw [List.length_map] at ek eb
    subst ek eb
    obtain ⟨nf, rfl⟩ : ∃ j, nf = j + 1 := ⟨nf - 1, by have := HP.out.2.1; omega⟩
    have hbr := HR.out.byt
    have hok := fun h => fstP_ok hbr h
    have hdr := fun h => fst_drop hbr h
    by_cases hr0 : 0 < r.length
    · have hri : (0 : Int) < (r.length : Int) := by omega
      by_cases he : (fstP r).2 = 0
      · have HNX := refNext_any HR.out
        rw [nxP_yes he] at HNX
        have HST := Lib.hid (allN_step (n := nf) he)
        obtain ⟨h1, h2, h3, h4⟩ := hok he
        obtain ⟨g1, g2, g3⟩ := hdr he
        have hbb : Byt (fstP r).1.2.1 := by
          intro x hx
          refine hbr x ?_
          rw [h1]
          refine List.mem_append_left _ ?_
          unfold Par.frame Par.hd
          simp only [List.mem_append]
          exact .inl (.inr (.inr hx))
        have HH := Lib.hid (And.intro h3 (And.intro g1 (And.intro g2 g3)))
        have HBB := Lib.hid hbb
        have HHX := Lib.hid HNX
        clear HNX h1 h2 h3 h4 g1 g2 g3 hbb hok hdr
        generalize fstP r = x at *
        obtain ⟨⟨k, b, s⟩, e⟩ := x
        simp only at he HST HHX HH HBB
        subst he
        go_wp2_with fail
        refine HHX.out.mono ?_
        rintro e w2 ⟨v, u, rfl, ho, hu, hb⟩
        simp only at ho hu ⊢
        obtain ⟨U, nu, cu, rfl, hU, _⟩ := ownsRow_bs hu (fun x hx => hbr x (List.mem_of_mem_drop hx)) (by rw [List.length_drop]; have := HR.out.lim; omega)
        obtain rfl := hU.len
        obtain ⟨V, nv, cv, rfl, hV, _⟩ := ownsRow_bs ho HBB.out (by have := HH.out.1; omega)
        have HW2 := Lib.hid (nx HW.out hb)
        have HK2 := Lib.hid (HK.out.below hb)
        have HV2 := Lib.hid (HV.out.below hb)
        have HU2 := Lib.hid (ownsRow_base hu HW.out.size)
        have HO2 := Lib.hid (ownsRow_base ho HW.out.size)
        have hfl : F.length ≤ 2000000000 := by have := HP.out.2.2; have := HL.out; omega
        clear ho hu hb hU hV HHX
        have hx1 := bel1' w2 (.cells #[.int .i64 (k : Int)] 3)
        have KA := Lib.hid (HK2.out.below hx1)
        have KN := Lib.hid (World.alloc_heap_new w2 (.cells #[.int .i64 (k : Int)] 3))
        go_wp2_with (at_builtin; refine append_el (O := inO) rfl _ _ 27 _ _ rfl Try.underlying27 infoIn rfl (by decide) w.heap.size (.slice Ak F.length ck) (F.map fun f => (f.1 : Int)) (k : Int) _ rfl KA.out rfl _ rfl _ KN.out (by rw [List.length_map]; omega) (nx HW2.out hx1).size ?_; intro v5 w3 ho5 hg5; refine hold3 ?_)
        obtain ⟨Av, dv, ev⟩ := ho5.len
        rw [List.length_append, List.length_map] at ev
        simp only [List.length_cons, List.length_nil, Nat.zero_add] at ev
        subst ev
        have HW3 := Lib.hid (grown_below (nx HW2.out hx1) hg5 (fun j hj => KA.out.block j hj))
        have HK3 := Lib.hid ho5
        have HV3 := Lib.hid (blo_type (HV2.out.below hx1) hg5 (fun j hj => ino_row KA.out hj))
        have hrow : ∀ j, (Value.slice Ak F.length ck).ownBlock = some j → ∃ c mk, (w2.alloc (.cells #[.int .i64 (k : Int)] 3)).heap[j]? = some (.cells c 3 mk) := fun j hj => by
          obtain ⟨css, hv, h1, h2⟩ := KA.out
          obtain ⟨_, c, mk, hc⟩ := own_cells h1 hj
          exact ⟨c, mk, hc⟩
        have HO3 := Lib.hid (own_keep (ownsRow_below HO2.out hx1) (fun j c mk _ _ hc => fr_keep2 hg5 hrow (by decide) hc))
        have HU3 := Lib.hid (own_keep (ownsRow_below HU2.out hx1) (fun j c mk _ _ hc => fr_keep2 hg5 hrow (by decide) hc))
        clear hrow ho5 hg5 KA KN hx1 HW2 HK2 HV2 HO2 HU2
        have hx1 := bel1' w3 (.cells #[.slice V nv cv] 22)
        have KA := Lib.hid (HV3.out.below hx1)
        have KN := Lib.hid (World.alloc_heap_new w3 (.cells #[.slice V nv cv] 22))
        have KO := Lib.hid (ownsRow_below HO3.out hx1)
        refine Lib.hid ?_
        go_wp2_with (at_builtin; refine append_el (O := blO) rfl _ _ 28 _ _ rfl Try.underlying28 infoBl rfl (by decide) w.heap.size (.slice Ab F.length cb) (F.map (·.2)) b _ rfl KA.out ⟨_, rfl, KO.out⟩ _ rfl _ KN.out (by rw [List.length_map]; omega) (nx HW3.out hx1).size ?_; intro v6 w4 ho5 hg5; refine hold3 ?_)
        obtain ⟨Aw, dw, ev⟩ := ho5.len
        rw [List.length_append, List.length_map] at ev
        simp only [List.length_cons, List.length_nil, Nat.zero_add] at ev
        subst ev
        have HW4 := Lib.hid (grown_below (nx HW3.out hx1) hg5 (fun j hj => KA.out.block j hj))
        have HV4 := Lib.hid ho5
        have HK4 := Lib.hid (ino_type (HK3.out.below hx1) hg5 (fun j hj => blo_row KA.out hj))
        have hrow : ∀ j, (Value.slice Ab F.length cb).ownBlock = some j → ∃ c mk, (w3.alloc (.cells #[.slice V nv cv] 22)).heap[j]? = some (.cells c 22 mk) := fun j hj => by
          obtain ⟨css, hv, h1, h2⟩ := KA.out
          obtain ⟨_, c, mk, hc⟩ := own_cells h1 hj
          exact ⟨c, mk, hc⟩
        have HU4 := own_keep (ownsRow_below HU3.out hx1) (fun j c mk _ _ hc => fr_keep2 hg5 hrow (by decide) hc)
        obtain ⟨U', n', c', e', hU', _⟩ := ownsRow_bs HU4 (fun x hx => hbr x (List.mem_of_mem_drop hx)) (by rw [List.length_drop]; have := HR.out.lim; omega)
        injection e' with e1 e2 e3
        subst e1 e2 e3
        have HU5 := Lib.hid hU'
        clear hrow ho5 hg5 KA KN KO hx1 HW3 HK3 HV3 HO3 HU3 HU4 hU'
        refine Lib.hid ?_
        go_wp2_with fail
        refine ⟨⟨F ++ [(k, b)], p + s, r.drop s, _, _, _, nf, rfl, by rw [List.length_drop], Lib.hid (by rw [← List.length_drop]; exact HU5.out), Lib.hid (by simpa using HK4.out), Lib.hid (by simpa using HV4.out), HW4, Lib.hid ?_, Lib.hid ?_⟩, ?_⟩
        · have h1 := HP.out
          have h2 := HH.out
          refine ⟨?_, by omega, ?_⟩
          · rw [h1.1, List.drop_drop]
          · rw [List.length_append]
            simp only [List.length_cons, List.length_nil]
            omega
        · rw [HT.out, HST.out]
          simp [Nat.add_assoc]
        · have := HH.out
          simp only [lenOf]
          omega
      · have HNX := refNext_any HR.out
        rw [nxP_not he] at HNX
        have HST := Lib.hid (allN_stop (n := nf) he)
        have hno := (fstP_no r he).2
        have HHX := Lib.hid HNX
        clear HNX hok hdr
        generalize (fstP r).2 = e at *
        go_wp2_with fail
        refine HHX.out.mono ?_
        rintro e2 w2 ⟨v, u, rfl, ho, hu, hb⟩
        simp only at ho hu ⊢
        obtain ⟨U, nu, cu, rfl, hU, _⟩ := ownsRow_bs hu (by intro x hx; cases hx) (by simp)
        obtain ⟨V, nv, cv, rfl, hV, _⟩ := ownsRow_bs ho (by intro x hx; cases hx) (by simp)
        have HW2 := Lib.hid (nx HW.out hb)
        have HK2 := Lib.hid (HK.out.below hb)
        have HV2 := Lib.hid (HV.out.below hb)
        have HR2 := Lib.hid (HR.out.below hb)
        have HZ := Lib.hid (show Z = (F, p, e) by rw [HT.out, HST.out]; simp)
        clear ho hu hb hU hV HHX HST HT he
        rcases hno with rfl | rfl
        · have HXX := Lib.hid (show X = (F, r, 0) by rw [HX.out, HZ.out, HP.out.1]; rfl)
          go_wp2_with fail
          refine (copyBytes_any B r.length d r _ HR2.out).mono ?_
          rintro e3 w3 ⟨z, rfl, hz, hb⟩
          go_wp2_with fail
          refine bodyPost_ret (by simp [results, Try.results11, go_sem]; try rfl) rfl ?_
          rw [HXX.out]
          exact ⟨_, _, _, rfl, HK2.out.below hb, HV2.out.below hb, ownsRow_base hz HW2.out.size, nx HW2.out hb⟩
        · have HXX := Lib.hid (show X = ([], [], 30) by rw [HX.out, HZ.out]; rfl)
          go_wp2_with fail
          refine bodyPost_ret (by simp [results, Try.results11, go_sem]; try rfl) rfl ?_
          rw [HXX.out]
          exact ⟨_, _, _, rfl, EOwn.nil _ _, EOwn.nil _ _, World.ownsRow_nil _ _ _ _, HW2.out⟩
    · have hri : ¬ (0 : Int) < (r.length : Int) := by omega
      obtain rfl : r = [] := List.length_eq_zero_iff.1 (by omega)
      have HST := Lib.hid (allN_stop (n := nf) (l := []) (by decide))
      have HZ := Lib.hid (show Z = (F, p, 3) by rw [HT.out, HST.out, fstP_nil]; simp)
      have HXX := Lib.hid (show X = (F, [], 0) by rw [HX.out, HZ.out, HP.out.1]; rfl)
      clear hok hdr
      go_wp2_with fail
      refine (copyBytes_any B [].length d [] _ HR.out).mono ?_
      rintro e3 w3 ⟨z, rfl, hz, hb⟩
      go_wp2_with fail
      refine bodyPost_ret (by simp [results, Try.results11, go_sem]; try rfl) rfl ?_
      rw [HXX.out]
      exact ⟨_, _, _, rfl, HK.out.below hb, HV.out.below hb, ownsRow_base hz HW.out.size, nx HW.out hb⟩
end Go.Proofs.Ytmnabhennibddaa
