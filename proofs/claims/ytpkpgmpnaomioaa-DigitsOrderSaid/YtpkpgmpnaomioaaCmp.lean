/- bytes.Compare: its contract. No conditions. -/
import Derived.Test.YtpkpgmpnaomioaaPre
import Derived.Lib.BytesEntry
import Derived.Laws.Externs
set_option linter.unusedSimpArgs false
set_option linter.unusedVariables false
namespace Go.Proofs.Ytpkpgmpnaomioaa
open Go.RowKit

theorem run_bytesOf {w : World} {A : Option Addr} {n c : Nat} {l : List Nat} (h : BS w A n c l) : (Extern.Bytes.bytesOf (.slice A n c)).run Try.prog w = .ok (bs l) w := by
  have hn := h.len
  subst hn
  cases A with
  | none =>
    have h1 := h.nil rfl
    have h2 := h.le
    have : l = [] := List.eq_nil_of_length_eq_zero (by omega)
    subst this
    rfl
  | some a =>
    have := Lib.run_loadBytesX (P := Try.prog) w (l.map fun x : Nat => (x : Int)) a .empty (by
      intro j x hj
      rw [List.getElem?_map] at hj
      obtain ⟨y, hy, rfl⟩ := Option.map_eq_some_iff.1 hj
      obtain ⟨hjl, rfl⟩ := List.getElem?_eq_some_iff.1 hy
      obtain ⟨ad, e, hc⟩ := h.lies.byte hjl
      cases e
      exact hc)
    rw [List.length_map, bytesOf_nat] at this
    show (Extern.Bytes.loadBytes a l.length .empty).run Try.prog w = _
    rw [this]
    simp [bs, ByteArray.empty, ByteArray.emptyWithCapacity]
    try rfl
theorem run_cmp {w : World} {A B : Option Addr} {n c m d : Nat} {l p : List Nat} (h1 : BS w A n c l) (h2 : BS w B m d p) :
    (Extern.BytealgCompare.compare #[.slice A n c, .slice B m d]).run Try.prog w = .ok (.int .i64 (Lib.compareBytes (l.map UInt8.ofNat) (p.map UInt8.ofNat))) w := by
  change Sem.run Try.prog (do pure (goInt (Extern.BytealgCompare.cmp (← Extern.Bytes.bytesOf (.slice A n c)) (← Extern.Bytes.bytesOf (.slice B m d))))) w = _
  simp only [Sem.run_bind, Sem.run_pure, run_bytesOf h1, run_bytesOf h2, Result.andThen]
  rw [Lib.cmp_eq]
  rfl

/-- Bytes against bytes: -1, 0, 1. -/
def cmpB : List Nat → List Nat → Int
  | [], [] => 0
  | [], _ :: _ => -1
  | _ :: _, [] => 1
  | a :: l, b :: p => if a < b then -1 else if b < a then 1 else cmpB l p
theorem cmpB_eq : ∀ (l p : List Nat), Byt l → Byt p → Lib.compareBytes (l.map UInt8.ofNat) (p.map UInt8.ofNat) = cmpB l p
  | [], [], _, _ => rfl
  | [], _ :: _, _, _ => rfl
  | _ :: _, [], _, _ => rfl
  | a :: l, b :: p, hl, hp => by
    have ha := hl a (by simp)
    have hb := hp b (by simp)
    have ih := cmpB_eq l p (fun x hx => hl x (by simp [hx])) (fun x hx => hp x (by simp [hx]))
    have e1 : (UInt8.ofNat a < UInt8.ofNat b) ↔ a < b := by
      rw [UInt8.lt_iff_toNat_lt, UInt8.toNat_ofNat', UInt8.toNat_ofNat']; omega
    have e2 : (UInt8.ofNat b < UInt8.ofNat a) ↔ b < a := by
      rw [UInt8.lt_iff_toNat_lt, UInt8.toNat_ofNat', UInt8.toNat_ofNat']; omega
    simp only [List.map_cons, Lib.compareBytes, cmpB, e1, e2, ih]

set_option maxHeartbeats 1000000 in
set_option maxRecDepth 100000 in
theorem compare_any {A B : Option Addr} {n c m d : Nat} {l p : List Nat} {w : World} (h1 : BS w A n c l) (h2 : BS w B m d p) :
    Calls Try.prog 49 #[.slice A n c, .slice B m d] w fun e w' => e = .returned (.int .i64 (cmpB l p)) ∧ w = w' := by
  have hr := run_cmp h1 h2
  rw [cmpB_eq l p h1.byt h2.byt] at hr
  have HR := Lib.hid hr
  clear hr h1 h2
  go_enter Try.func49, Try.ntmps49
  go_wp2
  rw [run_callFunc_extern Try.func63 (by kernel_rfl) (by kernel_rfl) (by kernel_rfl) (e := Extern.BytealgCompare.compare) (by kernel_rfl), HR.out]
  simp only [Result.andThen]
  rw [Oper.upon_value]
  go_wp2
  go_ret
  exact ⟨rfl, rfl⟩
end Go.Proofs.Ytpkpgmpnaomioaa
