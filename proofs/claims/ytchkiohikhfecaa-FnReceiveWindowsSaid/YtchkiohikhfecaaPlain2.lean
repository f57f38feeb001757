/-
  Small plain facts that the printed walks use.
-/
import Derived.Test.YtchkiohikhfecaaQ5
import Derived.Test.YtchkiohikhfecaaPlain
namespace Go.Proofs.Ytchkiohikhfecaa
open Go.RowKit

theorem i64 {n : Int} (h1 : -9223372036854775808 ≤ n) (h2 : n ≤ 9223372036854775807) : I64 n := ⟨h1, h2⟩
theorem gmod_M (v : Int) : gmod v 2147483647 = v % 2147483647 := if_pos (by decide)
theorem gmod_bd (v : Int) : 0 ≤ gmod v 2147483647 ∧ gmod v 2147483647 < 2147483647 := by
  rw [gmod_M]; exact ⟨Int.emod_nonneg _ (by decide), Int.emod_lt_of_pos _ (by decide)⟩
theorem hfold_get {l : List Int} {k : Nat} {z : Int} (h : l[k]? = some z) (acc : Int) : hfold (l.take (k + 1)) acc = hstep (hfold (l.take k) acc) z := by
  obtain ⟨hk, rfl⟩ := List.getElem?_eq_some_iff.1 h
  exact hfold_take l k hk acc
theorem get_of_lt {α : Type} {l : List α} {k : Nat} (h : k < l.length) : ∃ z, l[k]? = some z ∧ z ∈ l := ⟨l[k], List.getElem?_eq_getElem h, List.getElem_mem h⟩
theorem take_get {α : Type} {l : List α} {k : Nat} {z : α} (h : l[k]? = some z) : l.take (k + 1) = l.take k ++ [z] := by
  obtain ⟨hk, rfl⟩ := List.getElem?_eq_some_iff.1 h
  exact List.take_succ_eq_append_getElem hk
theorem take_all {α : Type} {l : List α} {k : Nat} (h : l.length ≤ k) : l.take k = l := List.take_of_length_le h
/-- A cell of a slice that came in. -/
theorem Rd.get {w : World} {B n : Nat} {A : Option Addr} {xs : List Value} (h : Rd w B A n xs) (hn : 0 < n) : ∃ b off, A = some ⟨b, off, none⟩ ∧ b < B ∧ ∀ j u, xs[j]? = some u → w.cell? ⟨b, off + j, none⟩ = some u := h.2 hn
theorem Rd.len {w : World} {B n : Nat} {A : Option Addr} {α : Type} {zs : List α} {f : α → Value} (h : Rd w B A n (zs.map f)) : zs.length = n := by simpa using h.1
theorem nat_lt_of {k n : Nat} (h : ((k : Nat) : Int) < ((n : Nat) : Int)) : k < n := by omega
theorem int_lit_ok {k : IntKind} {z : Int} : (Value.int k z).oneCell' = true := rfl
theorem ink_div {a b : Int} (h1 : 0 ≤ a) (h2 : 0 < b) (h3 : a ≤ 9223372036854775807) : IntKind.wrap .i64 (a / b) = a / b := by
  have h4 := Int.ediv_nonneg h1 (Int.le_of_lt h2)
  have h5 := Int.ediv_le_self b h1
  exact in64 (by omega) (by omega)
theorem Rd.m1 {w : World} {B n : Nat} {A : Option Addr} {xs : List Value} (h : Rd w B A n xs) : Rd w B A (n * 1) xs := by rw [Nat.mul_one]; exact h
theorem Rd.u1 {w : World} {B n : Nat} {A : Option Addr} {xs : List Value} (h : Rd w B A (n * 1) xs) : Rd w B A n xs := by rw [Nat.mul_one] at h; exact h
theorem Rd.eqn {w : World} {B n m : Nat} {A : Option Addr} {xs ys : List Value} (h : Rd w B A n xs) (hn : n = m) (hx : xs = ys) : Rd w B A m ys := by subst hn; subst hx; exact h
theorem all64_nil : ∀ z ∈ ([] : List Int), I64 z := by simp
theorem all64_cons {z : Int} {l : List Int} (h : I64 z) (hl : ∀ z ∈ l, I64 z) : ∀ y ∈ z :: l, I64 y := by
  intro y hy
  rcases List.mem_cons.1 hy with rfl | hy
  · exact h
  · exact hl y hy
theorem all64_snoc {z : Int} {l : List Int} (h : I64 z) (hl : ∀ z ∈ l, I64 z) : ∀ y ∈ l ++ [z], I64 y := by
  intro y hy
  rcases List.mem_append.1 hy with hy | hy
  · exact hl y hy
  · rw [List.mem_singleton] at hy; subst hy; exact h
theorem ints_one' (k : IntKind) (zs : List Int) : ∀ u ∈ zs.map (Value.int k), u.oneCell' = true := ints_one k zs
theorem inR_neg {n a b : Int} (h : inR n a b = false) : ¬ (a ≤ n ∧ n ≤ b) := fun hh => by rw [inR_true hh.1 hh.2] at h; cases h
/-- A key that is derived. -/
def dkey (k x : Int) : Int := if khash k [9, x] = 0 then 1 else khash k [9, x]
theorem dkey_bd (k x : Int) : 0 ≤ dkey k x ∧ dkey k x < 2147483647 := by
  have := khash_bd k [9, x]; unfold dkey; split <;> omega
def dsteps (k : Int) (l : List Int) : Int := l.foldl dkey k
theorem dsteps_get {l : List Int} {k : Nat} {z : Int} (h : l[k]? = some z) (a : Int) : dsteps a (l.take (k + 1)) = dkey (dsteps a (l.take k)) z := by
  rw [take_get h]; simp [dsteps]
theorem dsteps_I64 {a : Int} (ha : I64 a) : ∀ l : List Int, I64 (dsteps a l) := by
  intro l
  induction l generalizing a with
  | nil => exact ha
  | cons x l ih => exact ih (i64 (by have := dkey_bd a x; omega) (by have := dkey_bd a x; omega))
/-- Ceiling division of the program, plain. -/
def cdiv (a b : Int) : Int := if 0 ≤ a ∧ a ≤ 1000000000000 ∧ 1 ≤ b ∧ b ≤ 1000000000000 then (a + b - 1) / b else 0
end Go.Proofs.Ytchkiohikhfecaa
