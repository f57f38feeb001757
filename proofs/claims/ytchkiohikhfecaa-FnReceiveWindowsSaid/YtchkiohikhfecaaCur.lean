/-
  The drawing cursor, plain: where it reads from, and bounds of what is drawn.
-/
import Derived.Test.YtchkiohikhfecaaDeep
namespace Go.Proofs.Ytchkiohikhfecaa
open Go.RowKit

/-- A cursor that reads a code of n bytes, which lay there when the call began; i bytes are read. -/
structure CurI (w : World) (A : Option Addr) (n : Nat) (i : Int) : Prop where
  lo : 0 ≤ i
  hi : i ≤ 1048576
  hn : n ≤ 1048576
  rd : ∃ zs, okz .u8 zs ∧ Rd w w.heap.size A n (zs.map (Value.int .u8))
section
variable {w : World} {A : Option Addr} {n : Nat} {i : Int}
theorem CurI.step (h : CurI w A n i) (hl : i < (n : Int)) : CurI w A n (i + 1) := ⟨by have := h.lo; omega, by have := h.hn; omega, h.hn, h.rd⟩
theorem CurI.zero {zs : List Int} (hn : n ≤ 1048576) (ho : okz .u8 zs) (hr : Rd w w.heap.size A n (zs.map (Value.int .u8))) : CurI w A n 0 := ⟨Int.le_refl _, by omega, hn, zs, ho, hr⟩
end
theorem ibits_and_bd (a m : Int) (h1 : 0 ≤ m) (h2 : m ≤ 9223372036854775807) : 0 ≤ ibits .and .i64 a m ∧ ibits .and .i64 a m ≤ m := by
  obtain ⟨k, rfl⟩ := Int.eq_ofNat_of_zero_le h1
  have h1 : (BitVec.ofInt 64 (k : Int)).toNat = k := by rw [BitVec.ofInt_natCast, BitVec.toNat_ofNat]; exact Nat.mod_eq_of_lt (by omega)
  have h2 : ((BitVec.ofInt 64 a) &&& (BitVec.ofInt 64 (k : Int))).toNat ≤ k := by rw [BitVec.toNat_and, h1]; exact Nat.and_le_right
  have h3 : ibits .and .i64 a (k : Int) = IntKind.i64.wrap ((((BitVec.ofInt 64 a) &&& (BitVec.ofInt 64 (k : Int))).toNat : Nat) : Int) := rfl
  rw [h3, IntKind.wrap_i64]
  omega
theorem wrap_bd (x : Int) : -9223372036854775808 ≤ IntKind.wrap .i64 x ∧ IntKind.wrap .i64 x ≤ 9223372036854775807 := by
  rw [IntKind.wrap_i64]; omega
theorem emod_bd {x n : Int} (hn : 1 ≤ n) : 0 ≤ x % n ∧ x % n < n := ⟨Int.emod_nonneg _ (by omega), Int.emod_lt_of_pos _ (by omega)⟩
theorem okz_nil (κ : IntKind) : okz κ [] := fun z h => by simp at h
theorem okz_snoc8 {zs : List Int} {z : Int} (h : okz .u8 zs) (h1 : 0 ≤ z) (h2 : z ≤ 255) : okz .u8 (zs ++ [z]) := fun y hy => by
  rcases List.mem_append.1 hy with hy | hy
  · exact h y hy
  · rw [List.mem_singleton] at hy; subst hy
    simp [Lit.wf, IntKind.min, IntKind.max, IntKind.signed, IntKind.bits]; omega
theorem all_snoc {α : Type} {P : α → Prop} {zs : List α} {z : α} (h : ∀ y ∈ zs, P y) (hz : P z) : ∀ y ∈ zs ++ [z], P y := fun y hy => by
  rcases List.mem_append.1 hy with hy | hy
  · exact h y hy
  · rw [List.mem_singleton] at hy; subst hy; exact hz
theorem all_nil {α : Type} {P : α → Prop} : ∀ y ∈ ([] : List α), P y := fun y hy => by simp at hy
theorem get_int {zs : List Int} {n : Nat} {x : Int} (hl : zs.length = n) (h0 : 0 ≤ x) (h1 : x < (n : Int)) : ∃ z, zs[Int.toNat x]? = some z ∧ z ∈ zs := get_of_lt (by omega)
end Go.Proofs.Ytchkiohikhfecaa
