/-
  Slices of structs of ints: an element is a list of m ints, the slice's cells are those of the flat list.
-/
import Derived.Test.YtihecjcbgnpakaaDeep
namespace Go.Proofs.Ytihecjcbgnpakaa
open Go.RowKit

theorem flatten_len {m : Nat} : ∀ {ys : List (List Int)}, (∀ y ∈ ys, y.length = m) → ys.flatten.length = ys.length * m
  | [], _ => by simp
  | y :: l, h => by
    rw [List.flatten_cons, List.length_append, h y (by simp), flatten_len (fun z hz => h z (by simp [hz])), List.length_cons, Nat.add_mul, Nat.one_mul]; omega
theorem flatten_get {m : Nat} : ∀ {ys : List (List Int)} {k j : Nat} {y : List Int} {u : Int}, (∀ y ∈ ys, y.length = m) → ys[k]? = some y → y[j]? = some u → ys.flatten[k * m + j]? = some u
  | [], _, _, _, _, _, h, _ => by simp at h
  | x :: l, 0, j, y, u, hl, h, hu => by
    simp only [List.getElem?_cons_zero, Option.some.injEq] at h; subst h
    rw [List.flatten_cons, Nat.zero_mul, Nat.zero_add, List.getElem?_append_left (List.getElem?_eq_some_iff.1 hu).1]
    exact hu
  | x :: l, k + 1, j, y, u, hl, h, hu => by
    simp only [List.getElem?_cons_succ] at h
    have ih := flatten_get (m := m) (fun z hz => hl z (by simp [hz])) h hu
    have hx := hl x (by simp)
    rw [List.flatten_cons, List.getElem?_append_right (by rw [hx, Nat.add_mul, Nat.one_mul]; omega), hx, show (k + 1) * m + j - m = k * m + j by rw [Nat.add_mul, Nat.one_mul]; omega]
    exact ih
/-- A slice of structs of m ints that came in. -/
def IsRec (m : Nat) (w : World) (B : Nat) (A : Option Addr) (n c : Nat) (ys : List (List Int)) : Prop :=
  n ≤ c ∧ c ≤ maxLen ∧ ys.length = n ∧ (∀ y ∈ ys, y.length = m ∧ ∀ x ∈ y, I64 x) ∧ Rd w B A (n * m) (ys.flatten.map (Value.int .i64))
open Go.ChangeShapes Go.WideShapes Go.Deep in
theorem recs_of {H : Type} {enc : TypeId × Value → H} {P : Program} {w : World} {base : Nat} {spare : Nat → Bool} {held : Bool} {t e : TypeId} {fuel m : Nat} {cs : List Value} {x : DataW H × List MemPlace}
    (ht : P.underlying t = some (.slice e)) (hc : P.cellsOf e = m) (hpos : 0 < m) (h : DataW.trod enc P w base spare held fuel t cs = some x)
    (hel : ∀ n cs' x', DataW.trod enc P w base spare held n e cs' = some x' → ∃ y : List Int, cs' = y.map (Value.int .i64) ∧ y.length = m ∧ ∀ z ∈ y, I64 z) :
    ∃ (A : Option Addr) (n c : Nat) (ys : List (List Int)), cs = [.slice A n c] ∧ IsRec m w w.heap.size A n c ys := by
  rcases open_slice ht h with ⟨rfl, _⟩ | ⟨a, len, cap, mm, n, D, Pl, rfl, hb, hl, hm, hmm, hx, hi⟩
  · exact ⟨none, 0, 0, [], rfl, Nat.le_refl _, Nat.zero_le _, rfl, fun y hy => by simp at hy, by simpa using (Rd.nil_ : Rd w w.heap.size none 0 [])⟩
  have hlm : len ≤ mm := by rw [hmm]; split <;> omega
  rw [hc] at hi
  obtain ⟨f, hf⟩ := @choose_lt (List Int) ⟨[]⟩ len (fun i y => w.cells? base (a.add (i * m)) m = some (y.map (Value.int .i64)) ∧ y.length = m ∧ ∀ z ∈ y, I64 z) (fun i hil => by
    obtain ⟨cs', h1, h2⟩ := hi i (by omega)
    obtain ⟨y, rfl, hy⟩ := hel _ _ _ h2
    exact ⟨y, h1, hy⟩)
  have hlen : ((List.range len).map f).length = len := by simp
  have hall : ∀ y ∈ (List.range len).map f, y.length = m ∧ ∀ x ∈ y, I64 x := by
    intro y hy
    obtain ⟨i, hi1, rfl⟩ := List.mem_map.1 hy
    exact (hf i (by simpa using hi1)).2
  have hfl : (((List.range len).map f).flatten.map (Value.int .i64)).length = len * m := by rw [List.length_map, flatten_len (fun y hy => (hall y hy).1), hlen]
  have hcell : ∀ j, j < len * m → w.cell? (a.add j) = some ((((List.range len).map f).flatten.map (Value.int .i64)).getD j undef) := by
    intro j hj
    have hk : j / m < len := Nat.div_lt_of_lt_mul (by rw [Nat.mul_comm]; exact hj)
    have hr : j % m < m := Nat.mod_lt _ hpos
    obtain ⟨h1, h2l, _⟩ := hf _ hk
    obtain ⟨_, h2, h3⟩ := World.cells?_some h1
    have h4 := h3 _ hr
    rw [Go.Deep.add_add, show j / m * m + j % m = j by rw [Nat.mul_comm]; exact Nat.div_add_mod _ _] at h4
    have hu : (f (j / m))[j % m]? = some ((f (j / m))[j % m]'(by rw [h2l]; exact hr)) := List.getElem?_eq_getElem _
    have h5 := flatten_get (m := m) (ys := (List.range len).map f) (k := j / m) (y := f (j / m)) (fun y hy => (hall y hy).1) (by simp [hk]) hu
    rw [show j / m * m + j % m = j by rw [Nat.mul_comm]; exact Nat.div_add_mod _ _] at h5
    rw [h4, List.getElem?_map, hu, List.getD, List.getElem?_map, h5]
    rfl
  refine ⟨some a, len, cap, (List.range len).map f, rfl, hl, hm, hlen, hall, hfl, fun hn => ?_⟩
  obtain ⟨b, off, rfl, hbb, hcc⟩ := ints_at' hcell hn
  refine ⟨b, off, rfl, hbb, fun j u hu => ?_⟩
  have hj := (List.getElem?_eq_some_iff.1 hu).1
  rw [hfl] at hj
  rw [hcc j hj, List.getD, hu]
  rfl
end Go.Proofs.Ytihecjcbgnpakaa
