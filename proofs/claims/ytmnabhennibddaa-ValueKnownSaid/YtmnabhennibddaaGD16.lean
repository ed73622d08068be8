/- The two IsName: their contracts. No conditions. -/
import Derived.Test.YtmnabhennibddaaGD05
set_option linter.unusedSimpArgs false
set_option linter.unusedVariables false
namespace Go.Proofs.Ytmnabhennibddaa
open Go.RowKit

theorem str_at (s : ByteArray) (k : Nat) (h : k < (sb s).length) (w : World) : (Instr.index 9 (.string s) (.int .i64 (k : Int))).run Try.prog w = .ok (.int .u8 ((sb s)[k] : Int)) w := by
  have hs : (sb s).length = s.size := sb_length s
  rw [run_index_string w 9 s .i64 k Try.underlying9, dif_pos (by omega)]
  congr 3
  simp [sb]
  rfl
theorem nm_no1 {l : List Nat} (h : l = []) : nm l = false := by rw [h]; rfl
theorem nm_no2 {l : List Nat} (h : 24 < l.length) : nm l = false := by
  unfold nm
  rw [show decide (1 ≤ l.length ∧ l.length ≤ 24) = false from decide_eq_false (by omega)]; rfl
theorem nm_no3 {l : List Nat} (h : ltr (l.getD 0 0) = false) : nm l = false := by
  unfold nm
  rw [h]; simp
theorem nm_no4 {l : List Nat} {k : Nat} (hk : k < l.length) (h : okc l[k] = false) : nm l = false := by
  unfold nm
  have : l.all okc = false := by
    rw [List.all_eq_false]
    exact ⟨l[k], List.getElem_mem hk, by rw [h]; simp⟩
  rw [this]; simp
theorem nm_yes {l : List Nat} (h1 : 1 ≤ l.length) (h2 : l.length ≤ 24) (h3 : ltr (l.getD 0 0) = true) (h4 : l.all okc = true) : nm l = true := by
  unfold nm
  rw [show decide (1 ≤ l.length ∧ l.length ≤ 24) = true from decide_eq_true ⟨h1, h2⟩, h3, h4]; rfl
theorem all_snoc {l : List Nat} {k : Nat} (hk : k < l.length) (h : (l.take k).all okc = true) (h2 : okc l[k] = true) : (l.take (k + 1)).all okc = true := by
  rw [take_snoc l k hk, List.all_append, h]; simp [h2]
set_option maxHeartbeats 8000000 in
set_option maxRecDepth 100000 in
theorem isName_any (s : ByteArray) (w : World) :
    Calls Try.prog 86 #[.string s] w fun e w' => e = .returned (.bool (nm (sb s))) ∧ w = w' := by
  have hsl := sb_length s
  by_cases h0 : s = ⟨#[]⟩
  · subst h0
    have HX := Lib.hid (nm_no1 (l := sb ⟨#[]⟩) rfl)
    go_enter Try.func86, Try.ntmps86
    go_wp2_with fail
    go_ret
    rw [HX.out]
    exact ⟨rfl, rfl⟩
  · have e1 := ne_empty h0
    have hpos : 0 < s.size := by
      rcases Nat.eq_zero_or_pos s.size with h | h
      · exfalso
        apply h0
        cases s with
        | mk d => exact congrArg ByteArray.mk (Array.size_eq_zero_iff.1 h)
      · exact h
    have hat := fun k (h : k < (sb s).length) => str_at s k h
    have HAT := Lib.hid hat
    obtain ⟨L, hL⟩ : ∃ L, L = sb s := ⟨_, rfl⟩
    have HX0 : Hid (∀ b, nm L = b → nm (sb s) = b) := Lib.hid (fun b h => by rw [← hL]; exact h)
    have HAT : Hid (∀ k (h : k < L.length) w, (Instr.index 9 (.string s) (.int .i64 (k : Int))).run Try.prog w = .ok (.int .u8 (L[k] : Int)) w) := Lib.hid (by subst hL; exact hat)
    rw [← hL] at hsl
    clear hat hL h0
    obtain ⟨X, hX⟩ : ∃ X, X = nm (sb s) := ⟨_, rfl⟩
    rw [← hX]
    have HX : Hid (∀ b, nm L = b → X = b) := Lib.hid (fun b h => hX.trans (HX0.out b h))
    clear HX0 hX
    by_cases h24 : 24 < s.size
    · have h24' : (24 : Int) < (s.size : Int) := by omega
      have HX1 := Lib.hid (HX.out _ (nm_no2 (by omega)))
      clear HX hsl
      go_enter Try.func86, Try.ntmps86
      go_wp2_with fail
      go_ret
      rw [HX1.out]
      exact ⟨rfl, rfl⟩
    · have h24' : ¬ (24 : Int) < (s.size : Int) := by omega
      have h00 := HAT.out 0 (by omega)
      have hg0 : L.getD 0 0 = L[0]'(by omega) := by rw [List.getD_eq_getElem?_getD, List.getElem?_eq_getElem (by omega)]; rfl
      obtain ⟨c0, hc0⟩ : ∃ c, c = L[0]'(by omega) := ⟨_, rfl⟩
      rw [← hc0] at hg0 h00
      have HG0 := Lib.hid hg0
      have HSL := Lib.hid hsl
      have hi0 : ∀ w, (Instr.index 9 (.string s) (.int .i64 0)).run Try.prog w = .ok (.int .u8 (c0 : Int)) w := h00
      clear hc0 hg0 h00 hsl
      go_enter Try.func86, Try.ntmps86
      go_wp2_with fail
      refine (letter_any c0 _).mono ?_
      rintro e w1 ⟨rfl, rfl⟩
      by_cases hl0 : ltr c0 = true
      · rw [hl0]
        have HL0 := Lib.hid hl0
        clear hl0 hi0
        go_wp2_with fail
        go_loop [22] (fun i => ∃ k : Nat, k ≤ L.length ∧ i = .int .i64 k ∧ Hid ((L.take k).all okc = true)) (fun i => L.length - (intOf i).toNat)
        case atStart => exact ⟨0, Nat.zero_le _, rfl, Lib.hid rfl⟩
        case round =>
          obtain ⟨k, hk, rfl, HA⟩ := hrel
          have hls := HSL.out
          by_cases hlt : k < L.length
          · have hix := HAT.out k hlt
            have hlt2 : (k : Int) < (s.size : Int) := by omega
            have hsn := fun h => all_snoc hlt HA.out h
            have hno := fun h => HX.out _ (nm_no4 (l := L) hlt h)
            generalize L[k] = c at *
            have HSN := Lib.hid hsn
            have HNO := Lib.hid hno
            clear hsn hno
            go_wp2_with fail
            refine (letter_any c _).mono ?_
            rintro e w1 ⟨rfl, rfl⟩
            by_cases hl : ltr c = true
            · rw [hl]
              have hk2 := HSN.out (ltr_okc hl)
              clear hl
              go_wp2_with fail
              exact ⟨⟨k + 1, by omega, by go_num, Lib.hid hk2⟩, by simp [intOf]; omega⟩
            · have hl1 : ltr c = false := by simpa using hl
              rw [hl1]
              have hoc : okc c = decide ((48 ≤ c ∧ c ≤ 57) ∨ c = 46 ∨ c = 45) := by unfold okc; rw [hl1]; rfl
              have HOC := Lib.hid hoc
              clear hl hl1 hoc
              by_cases h48 : c < 48
              · have z1 : (c : Int) < 48 := by omega
                by_cases h46 : c = 46
                · subst h46
                  have hk2 := HSN.out (by rw [HOC.out]; rfl)
                  go_wp2_with fail
                  exact ⟨⟨k + 1, by omega, by go_num, Lib.hid hk2⟩, by simp [intOf]; omega⟩
                · by_cases h45 : c = 45
                  · subst h45
                    have hk2 := HSN.out (by rw [HOC.out]; rfl)
                    go_wp2_with fail
                    exact ⟨⟨k + 1, by omega, by go_num, Lib.hid hk2⟩, by simp [intOf]; omega⟩
                  · have HX1 := Lib.hid (HNO.out (by rw [HOC.out]; exact decide_eq_false (by omega)))
                    have z2 : ((c : Int) != 46) = true := by simp; omega
                    have z3 : ((c : Int) != 45) = true := by simp; omega
                    go_wp2_with fail
                    go_ret
                    rw [HX1.out]
                    exact ⟨rfl, rfl⟩
              · have z1 : ¬ (c : Int) < 48 := by omega
                by_cases h57 : 57 < c
                · have z4 : (57 : Int) < (c : Int) := by omega
                  have HX1 := Lib.hid (HNO.out (by rw [HOC.out]; exact decide_eq_false (by omega)))
                  have z2 : ((c : Int) != 46) = true := by simp; omega
                  have z3 : ((c : Int) != 45) = true := by simp; omega
                  go_wp2_with fail
                  go_ret
                  rw [HX1.out]
                  exact ⟨rfl, rfl⟩
                · have z4 : ¬ (57 : Int) < (c : Int) := by omega
                  have hk2 := HSN.out (by rw [HOC.out]; exact decide_eq_true (by omega))
                  go_wp2_with fail
                  exact ⟨⟨k + 1, by omega, by go_num, Lib.hid hk2⟩, by simp [intOf]; omega⟩
          · obtain rfl : k = L.length := by omega
            have hlt2 : ¬ (L.length : Int) < (s.size : Int) := by omega
            have hfin := HX.out _ (nm_yes (l := L) (by omega) (by omega) (by rw [HG0.out]; exact HL0.out) (by have := HA.out; rwa [List.take_length] at this))
            have HX1 := Lib.hid hfin
            clear hfin
            go_wp2_with fail
            go_ret
            rw [HX1.out]
            exact ⟨rfl, rfl⟩
      · have hl1 : ltr c0 = false := by simpa using hl0
        rw [hl1]
        have HX1 := Lib.hid (HX.out _ (nm_no3 (by rw [HG0.out]; exact hl1)))
        clear HX hl0 hl1
        go_wp2_with fail
        go_ret
        rw [HX1.out]
        exact ⟨rfl, rfl⟩
end Go.Proofs.Ytmnabhennibddaa
