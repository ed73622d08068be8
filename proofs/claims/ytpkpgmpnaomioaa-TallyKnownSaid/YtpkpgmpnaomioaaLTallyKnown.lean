/- The walk of the law TallyKnown. No conditions. -/
import Derived.Test.YtpkpgmpnaomioaaTally
import Derived.Test.YtpkpgmpnaomioaaRow
import Derived.Maps.OwnSet
import Derived.Lib.SlBytesConst
set_option linter.unusedSimpArgs false
set_option linter.unusedVariables false
namespace Go.Proofs.Ytpkpgmpnaomioaa
open Go.RowKit Go.Maps

theorem crc_known1 : Crc.on 0 [84, 104, 101, 32, 113, 117, 105, 99, 107, 32, 98, 114, 111, 119, 110, 32, 102, 111, 120, 32, 106, 117, 109, 112, 115, 32, 111, 118, 101, 114, 32, 116, 104, 101, 32, 108, 97, 122, 121, 32, 100, 111, 103] = 1095738169 := by decide +kernel
theorem crc_known2 : Crc.on 0 (List.replicate 32 0) = 420107693 := by decide +kernel
theorem crc_one_inj {i j : Nat} (hi : i < 256) (hj : j < 256) (h : Crc.on 0 [i] = Crc.on 0 [j]) : i = j := by
  have h1 := Crc.reg_lt (r := 4294967295) (by omega) (l := [i]) (by simpa using hi)
  have h2 := Crc.reg_lt (r := 4294967295) (by omega) (l := [j]) (by simpa using hj)
  simp only [Crc.on, Nat.sub_zero] at h
  have h3 : Crc.reg 4294967295 [i] = Crc.reg 4294967295 [j] := by omega
  rw [Crc.reg_num _ _ (by simpa using hi), Crc.reg_num _ _ (by simpa using hj)] at h3
  have n1 : Crc.num [i] = i := by simp [Crc.num]
  have n2 : Crc.num [j] = j := by simp [Crc.num]
  rw [n1, n2] at h3
  have h4 := Crc.shs_inj _ (Crc.xor_lt (by omega) (by omega)) (Crc.xor_lt (by omega) (by omega)) h3
  rw [← Crc.xor_cancel 4294967295 i, h4, Crc.xor_cancel]
def kl (i : Nat) : Lit := .int .u32 (Crc.on 0 [i])
def one : DataW Unit := .lit (.int .i64 1)
def seen (k : Nat) : DataW Unit := setOf one ((List.range k).map kl)
theorem kl_inj {i j : Nat} (hi : i < 256) (hj : j < 256) (h : kl i = kl j) : i = j := by
  unfold kl at h
  injection h with _ h
  exact crc_one_inj hi hj (by exact_mod_cast h)
theorem law32 : Keyed Try.prog 22 := int_keyed Try.underlying22
theorem kl_key (i : Nat) : keyOf Try.prog 22 (.int .u32 (Crc.on 0 [i] : Int)) = some (kl i) := keyOf_int_mk Try.underlying22 (by have := Crc.on_lt 0 [i]; simp [Lit.wf, IntKind.min, IntKind.max, IntKind.signed, IntKind.bits]; omega)
theorem kl_is (i : Nat) : WideAt.IsKeyLit (kl i) := law32.key (kl_key i)
theorem kls_is (k : Nat) : ∀ x ∈ (List.range k).map kl, WideAt.IsKeyLit x := by
  intro x hx
  obtain ⟨i, _, rfl⟩ := List.mem_map.1 hx
  exact kl_is i
theorem sameKey_iff {i j : Nat} (hi : i < 256) (hj : j < 256) : (kl i).sameKey (kl j) = decide (i = j) := by
  by_cases h : i = j
  · subst h
    simp [kl, Lit.sameKey]
  · rw [sameKey_ne (fun e => h (kl_inj hi hj e))]
    simp [h]
theorem any_range (k i : Nat) (hk : k ≤ i) (hi : i < 256) : ((List.range k).map kl).any (fun x => x.sameKey (kl i)) = false := by
  rw [List.any_eq_false]
  intro x hx
  obtain ⟨j, hj, rfl⟩ := List.mem_map.1 hx
  have := List.mem_range.1 hj
  rw [sameKey_iff (by omega) hi]
  simp; omega
theorem seen_not (k : Nat) (hk : k < 256) : has (seen k) (kl k) = false := by
  unfold seen
  rw [has_setOf _ _ _ (kls_is k)]
  exact any_range k k (Nat.le_refl _) hk
theorem seen_step (k : Nat) : seen (k + 1) = (seen k).put (kl k) one := by
  unfold seen
  rw [List.range_succ, List.map_append, List.map_cons, List.map_nil, setOf_snoc]
theorem seen_size : ∀ k, k ≤ 256 → Maps.size (seen k) = k := by
  intro k
  induction k with
  | zero => intro _; rfl
  | succ k ih =>
    intro h
    rw [seen_step, size_put (show Tidy (seen k) from tidy_setOf _ _ (kls_is k)), seen_not k (by omega), if_neg (by decide), ih (by omega)]
theorem ownsMap_below {H : Type} {P : Program} {k : TypeId} {R : Value → Option (DataW H × List MemPlace)} {w w' : World} {b n : Nat} {D : DataW H} (h : w.ownsMap P k R b n D) (hb : Below w.heap.size w w') : w'.ownsMap P k R b n D := by
  obtain ⟨es, clock, h1, h2⟩ := h
  exact ⟨es, clock, by rw [hb.block b (lt_of_block h1)]; exact h1, h2⟩

theorem seen_zero {k : Nat} (hk : k < 256) {c : Int} (h : (seen k).atKey (kl k) (.lit (.int .i64 0)) = .lit (.int .i64 c)) : c = 0 := by
  rw [atKey_of_not_has (seen_not k hk)] at h
  injection h with h
  injection h with _ h
  exact h.symm

set_option maxHeartbeats 8000000 in
set_option maxRecDepth 100000 in
theorem tallyKnown_walk (w : World) :
    Calls Try.prog 8 #[] w fun e w' => e = .returned (.bool true) ∧ Below w.heap.size w w' := by
  have hmm := @run_makeMap Try.prog
  go_enter Try.func8, Try.ntmps8
  go_wp2
  go_loopw [2] (fun i wr => ∃ k : Nat, k ≤ 256 ∧ i = .int .i64 k ∧ Hid (wr.ownsMap Try.prog 22 (plainElem Try.prog 3) w.heap.size k (seen k)) ∧ Below w.heap.size w wr) (fun i _ => 256 - (intOf i).toNat)
  case atStart => exact ⟨0, by omega, rfl, Lib.hid (World.ownsMap_made _ _ _ _), (bel0 w).alloc (Nat.le_refl _) _⟩
  case round =>
    obtain ⟨k, hk, rfl, HM, hb⟩ := hrel
    by_cases hlt : k < 256
    · go_wp2_with fail
      refine (of_any _ 1 1 [k] _ (BS.alloc wr [k] _ _ (by intro x hx; simp at hx; omega) (by simp))).mono ?_
      rintro e w2 ⟨rfl, hb2⟩
      have HM2 := Lib.hid (ownsMap_below (HM.out.alloc (.cells (bv [k]).toArray 5)) hb2)
      have hb3 := nxA hb hb2
      have z0 := fun w : World => (show (zeroValue 3).run Try.prog w = .ok (.int .i64 0) w by kernel_rfl)
      go_wp2_with (first
        | (at_lookup; refine wpList_lookup_own_int _ rfl _ _ 36 rfl 22 3 .i64 law32 Try.underlying36 Try.underlying3 (z0 _) w.heap.size k _ rfl HM2.out _ (kl k) rfl (kl_key k) ?_; intro c hat hwc; obtain rfl : c = 0 := (seen_zero hlt hat); clear hat hwc)
        | (at_mapUpdate; refine wpList_mapUpdate_own _ rfl _ _ _ 36 rfl 22 3 law32 Try.underlying36 _ w.heap.size k _ rfl HM2.out (by unfold maxLen; omega) _ _ (kl k) rfl rfl (kl_key k) one [] (plainElem_int Try.underlying3 (by decide)) ?_; intro w4 hown4 hg4)
        | fail)
      exact ⟨⟨k + 1, by omega, by go_num, Lib.hid (by rw [seen_step]; exact hown4), grown_below hb3 hg4 (by intro j hj; cases hj; exact Nat.le_refl _)⟩, by simp [intOf]; omega⟩
    · obtain rfl : k = 256 := by omega
      have hcv := fun (w : World) (C : Array Value) (n c : Nat) => Lib.run_convert_bytes_const (P := Try.prog) w 23 5 C n c Try.underlying23 Try.underlying5
      have hmk : ∀ w, (Instr.makeSlice 23 (.int .i64 32) (.int .i64 32)).run Try.prog w = .ok (.slice (some ⟨w.heap.size, 0, none⟩) 32 32) (w.alloc (.cells #[.int .u8 0, .int .u8 0, .int .u8 0, .int .u8 0, .int .u8 0, .int .u8 0, .int .u8 0, .int .u8 0, .int .u8 0, .int .u8 0, .int .u8 0, .int .u8 0, .int .u8 0, .int .u8 0, .int .u8 0, .int .u8 0, .int .u8 0, .int .u8 0, .int .u8 0, .int .u8 0, .int .u8 0, .int .u8 0, .int .u8 0, .int .u8 0, .int .u8 0, .int .u8 0, .int .u8 0, .int .u8 0, .int .u8 0, .int .u8 0, .int .u8 0, .int .u8 0] 5)) := fun _ => by kernel_rfl
      go_wp2_with fail
      refine (works02_any _).mono ?_
      rintro e w1 ⟨rfl, hb1⟩
      go_wp2_with fail
      refine (of_any _ 43 43 [84, 104, 101, 32, 113, 117, 105, 99, 107, 32, 98, 114, 111, 119, 110, 32, 102, 111, 120, 32, 106, 117, 109, 112, 115, 32, 111, 118, 101, 114, 32, 116, 104, 101, 32, 108, 97, 122, 121, 32, 100, 111, 103] _ (BS.alloc _ [84, 104, 101, 32, 113, 117, 105, 99, 107, 32, 98, 114, 111, 119, 110, 32, 102, 111, 120, 32, 106, 117, 109, 112, 115, 32, 111, 118, 101, 114, 32, 116, 104, 101, 32, 108, 97, 122, 121, 32, 100, 111, 103] _ _ (by decide) (by decide))).mono ?_
      rintro e w2 ⟨rfl, hb2⟩
      rw [crc_known1]
      go_wp2_with fail
      refine (of_any _ 32 32 (List.replicate 32 0) _ (BS.alloc _ (List.replicate 32 0) _ _ (by decide) (by decide))).mono ?_
      rintro e w3 ⟨rfl, hb3⟩
      rw [crc_known2]
      have hb4 := nxA (nxA (nx hb hb1) hb2) hb3
      have HM3 : w3.ownsMap Try.prog 22 (plainElem Try.prog 3) w.heap.size 256 (seen 256) := ownsMap_below ((ownsMap_below ((ownsMap_below HM.out hb1).alloc _) hb2).alloc _) hb3
      have hlen := fun ty => HM3.len Try.underlying36 ty
      rw [seen_size 256 (by omega)] at hlen
      clear HM3
      go_wp2_with fail
      go_ret
      exact ⟨rfl, hb4⟩
end Go.Proofs.Ytpkpgmpnaomioaa
