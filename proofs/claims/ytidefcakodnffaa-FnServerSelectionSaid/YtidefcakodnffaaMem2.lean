/-
  More on rows of the call's own: a literal row, a cell beside a row that is appended to.
-/
import Derived.Test.YtidefcakodnffaaMem
namespace Go.Proofs.Ytidefcakodnffaa
open Go.RowKit

theorem own_lit_at {w : World} {base size e : Nat} (cs : Array Value) (n g : Nat) (hg : g = w.heap.size) (hb : base ≤ g) (hm : n ≤ maxLen) (hs : cs.size = n * size) :
    (w.alloc (.cells cs e)).ownsRow base e size (.slice (some ⟨g, 0, none⟩) n n) n cs.toList := by
  subst hg
  exact World.ownsRow_lit w cs n hb hm hs
/-- A cell below the row that an append may have written. -/
theorem grow_far {w w' : World} {o : Obj} {v : Value} {base size n b off : Nat} {e : TypeId} {xs : List Value} (hg : (w.alloc o).grownBy w' v.ownBlock) (own : w.ownsRow base e size v n xs) (hb : b < w.heap.size) (hbase : b < base := by omega) : w'.cell? ⟨b, off, none⟩ = w.cell? ⟨b, off, none⟩ := by
  have h1 := hg.cell_far ⟨b, off, none⟩ (by simp; omega) (fun h => by have := (own.lt b h.symm).1; omega)
  exact h1.trans (World.cell?_alloc_lt w o _ hb)
theorem own_slice {w : World} {base size n : Nat} {e : TypeId} {v : Value} {xs : List Value} (h : w.ownsRow base e size v n xs) : ∃ A c, v = .slice A n c ∧ n ≤ c ∧ c ≤ maxLen := by
  obtain ⟨A, c, hv, h1, h2, _⟩ := Rd.of_own h
  exact ⟨A, c, hv, h1, h2⟩
theorem rd_own {w : World} {base n c : Nat} {e : TypeId} {A : Option Addr} {xs : List Value} (h : w.ownsRow base e 1 (.slice A n c) n xs) : Rd w w.heap.size A n xs := by
  obtain ⟨A', c', hv, _, _, h3, _⟩ := Rd.of_own h
  injection hv with h1
  subst h1
  simpa using h3
theorem own_block {w : World} {base size n m : Nat} {e : TypeId} {v : Value} {xs : List Value} (h : w.ownsRow base e size v n xs) (hm : m < base) : v.ownBlock ≠ some m := fun e => by have := (h.lt m e).1; omega
theorem rd_below {w w' : World} {B n : Nat} {A : Option Addr} {xs : List Value} (h : Rd w B A n xs) (hb : Below w.heap.size w w') (hB : B ≤ w.heap.size) : Rd w' B A n xs := h.below (hb.mono hB)
theorem cell_below {w w' : World} {b o : Nat} {v : Value} (h : w.cell? ⟨b, o, none⟩ = some v) (hb : Below w.heap.size w w') : w'.cell? ⟨b, o, none⟩ = some v :=
  (hb.cell (p := ⟨b, o, none⟩) (block_lt_of_cell h)).trans h
/-- Behind a write to one row: what lies in other blocks. -/
theorem rd_grown {w w' : World} {B n : Nat} {A : Option Addr} {xs : List Value} {row : Option Nat} (h : Rd w B A n xs) (hg : w.grownBy w' row) (hB : B ≤ w.heap.size) (hr : ∀ k, row = some k → B ≤ k) : Rd w' B A n xs :=
  h.keep fun b hb => hg.block b (by omega) (fun e => by have := hr b e.symm; omega)
theorem cell_grown {w w' : World} {b o : Nat} {v : Value} {row : Option Nat} (h : w.cell? ⟨b, o, none⟩ = some v) (hg : w.grownBy w' row) (hr : row ≠ some b) : w'.cell? ⟨b, o, none⟩ = some v :=
  hg.cell h (fun e => hr e.symm)
end Go.Proofs.Ytidefcakodnffaa
