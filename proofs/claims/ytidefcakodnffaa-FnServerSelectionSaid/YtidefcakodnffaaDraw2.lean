/-
  Contract of l1Below: a number below n, whatever is drawn.
-/
import Derived.Test.YtidefcakodnffaaDraw
namespace Go.Proofs.Ytidefcakodnffaa
open Go.RowKit

theorem tm_bd {x n : Int} (_ : 0 ≤ x) (hn : 1 ≤ n) : 0 ≤ x % n ∧ x % n < n := ⟨Int.emod_nonneg _ (by omega), Int.emod_lt_of_pos _ (by omega)⟩
theorem far_cell {w w' : World} {g b o : Nat} (hg : w.grownBy w' (some g)) (hb : b < w.heap.size) (hne : b ≠ g) : w'.cell? ⟨b, o, none⟩ = w.cell? ⟨b, o, none⟩ := hg.cell_far ⟨b, o, none⟩ hb (fun e => hne (by injection e))
theorem far_frozen {w w' : World} {g b o : Nat} (hg : w.grownBy w' (some g)) (hb : b < w.heap.size) (hne : b ≠ g) : w'.frozen? ⟨b, o, none⟩ = w.frozen? ⟨b, o, none⟩ := hg.frozen_far ⟨b, o, none⟩ hb (fun e => hne (by injection e))
theorem cur_alloc {w : World} {g : Nat} (h : Cur w g) (o : Obj) : Cur (w.alloc o) g := h.keep fun b hb => Below.heap_alloc _ _ _ (by have := h.lt; omega)
theorem cur_store {w : World} {g b o : Nat} (h : Cur w g) (hb : g < b) (v : Value) : Cur (w.setCell ⟨b, o, none⟩ v) g := h.keep fun k hk => heap_setCell_other w ⟨b, o, none⟩ k v (by simp; omega)
theorem cur_drew {w : World} {g : Nat} (h : Cur w g) (n : Nat) : Cur (w.drewN n) g := h
/-- Only block g has turned, and what is new. -/
theorem only_alloc {a w : World} {g : Nat} (h : a.grownBy w (some g)) (o : Obj) : a.grownBy (w.alloc o) (some g) := ⟨h.os, h.tape, h.output, by have := h.size; simp; omega, fun k hk hne => (Below.heap_alloc w o k (by have := h.size; omega)).trans (h.block k hk hne)⟩
theorem only_store {a w : World} {g b o : Nat} (h : a.grownBy w (some g)) (hb : a.heap.size ≤ b) (v : Value) : a.grownBy (w.setCell ⟨b, o, none⟩ v) (some g) := ⟨h.os, h.tape, h.output, by have := h.size; simpa using this, fun k hk hne => (heap_setCell_other w ⟨b, o, none⟩ k v (by simp; omega)).trans (h.block k hk hne)⟩
theorem only_drew {a w : World} {g : Nat} (h : a.grownBy w (some g)) (n : Nat) : a.grownBy (w.drewN n) (some g) := ⟨h.os, h.tape, h.output, h.size, h.block⟩
theorem only_below {a w w' : World} {g : Nat} (h : a.grownBy w (some g)) (hb : Below w.heap.size w w') : a.grownBy w' (some g) :=
  ⟨hb.os.trans h.os, hb.tape.trans h.tape, hb.output.trans h.output, by have := h.size; have := hb.size; omega, fun k hk hne => (hb.block k (by have := h.size; omega)).trans (h.block k hk hne)⟩
theorem only_trans {a b c : World} {g : Nat} (h : a.grownBy b (some g)) (k : b.grownBy c (some g)) : a.grownBy c (some g) := h.trans k
/-- What was made since the start: nothing below has turned but g, and g lies above the start. -/
theorem only_above {a w : World} {g B : Nat} (h : a.grownBy w (some g)) (hB : B ≤ g) (hB' : B ≤ a.heap.size) : Below B a w := ⟨h.os, h.tape, h.output, h.size, fun k hk => h.block k (by omega) (fun e => by injection e with e; omega)⟩
theorem l1Below (g : Nat) (n : Int) (w : World) (hn : I64 n) (hc : Cur w g) : Calls Try.prog 48 #[.pointer (some ⟨g, 0, none⟩), .int .i64 n] w fun e w' => ∃ x : Int, e = .returned (.int .i64 x) ∧ 0 ≤ x ∧ (x < n ∨ n ≤ 0 ∧ x = 0) ∧ Cur w' g ∧ w.grownBy w' (some g) := by
  obtain ⟨hn1, hn2⟩ := hn
  by_cases h1 : n ≤ 0
  · have HC := Lib.hid hc
    clear hc
    go_enter Try.func48, Try.ntmps48
    go_wp2
    go_ret
    exact ⟨0, rfl, Int.le_refl _, Or.inr ⟨h1, rfl⟩, HC.out, World.grownBy.refl _ _⟩
  · have h1' : 1 ≤ n := by omega
    by_cases h2 : n ≤ 256
    · go_enter Try.func48, Try.ntmps48
      go_wp2_with fail
      refine (l1Byte g _ hc).mono ?_
      rintro e w1 ⟨x, rfl, hx0, hx1, hc1, g1⟩
      have hm := tm_bd hx0 h1'
      have HC := Lib.hid hc1
      have HM := Lib.hid hm
      clear hc1 hc hm
      go_wp2
      go_ret
      exact ⟨_, rfl, HM.out.1, Or.inl HM.out.2, HC.out, g1⟩
    · go_enter Try.func48, Try.ntmps48
      go_wp2_with fail
      refine (l1Byte g _ hc).mono ?_
      rintro e w1 ⟨x, rfl, hx0, hx1, hc1, g1⟩
      go_wp2_with fail
      refine (l1Byte g _ hc1).mono ?_
      rintro e w2 ⟨y, rfl, hy0, hy1, hc2, g2⟩
      go_wp2_with fail
      refine (l1Byte g _ hc2).mono ?_
      rintro e w3 ⟨z, rfl, hz0, hz1, hc3, g3⟩
      have hm := tm_bd (x := x * 65536 + y * 256 + z) (by omega) h1'
      have HC := Lib.hid hc3
      have HM := Lib.hid hm
      clear hc1 hc hc2 hc3 hm
      go_wp2
      go_ret
      exact ⟨_, rfl, HM.out.1, Or.inl HM.out.2, HC.out, (g1.trans g2).trans g3⟩
end Go.Proofs.Ytidefcakodnffaa
