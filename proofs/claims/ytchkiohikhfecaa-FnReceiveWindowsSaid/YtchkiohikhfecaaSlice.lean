/-
  Plain facts on rows that are filled, marked and held element by element.
-/
import Derived.Test.YtchkiohikhfecaaPlain2
namespace Go.Proofs.Ytchkiohikhfecaa
open Go.RowKit

theorem St.row_at {w0 w : World} {own : List Res} {A : Option Addr} {n c e sz : Nat} {xs : List Value} (h : St w0 w own) (hm : Res.row (.slice A n c) e sz n xs ∈ own) (hn : 0 < n) : ∃ g, A = some ⟨g, 0, none⟩ := by
  obtain ⟨g, cap, hv, _⟩ := h.row_form hm hn
  injection hv with h1
  exact ⟨g, h1⟩
theorem St.row_len {w0 w : World} {own : List Res} {v : Value} {n e sz : Nat} {xs : List Value} (h : St w0 w own) (hm : Res.row v e sz n xs ∈ own) : xs.length = n * sz := (h.row_slice hm).1
theorem off1 (k : Nat) : 0 + Int.toNat ((k : Nat) : Int) * 1 = k := by omega
theorem fill_step {α : Type} {f : α → Value} {zs : List α} {k n : Nat} {z : α} {y : Value} (hz : zs[k]? = some z) (hk : k < n) :
    (((zs.take k).map f ++ List.replicate (n - k) y).take (0 + Int.toNat ((k : Nat) : Int) * 1) ++ [f z] ++ ((zs.take k).map f ++ List.replicate (n - k) y).drop (0 + Int.toNat ((k : Nat) : Int) * 1 + [f z].length)) = (zs.take (k + 1)).map f ++ List.replicate (n - (k + 1)) y := by
  obtain ⟨hl, rfl⟩ := List.getElem?_eq_some_iff.1 hz
  have h1 : ((zs.take k).map f).length = k := by simp; omega
  rw [off1, List.take_append_of_le_length (by omega), List.take_of_length_le (by omega)]
  rw [List.take_succ_eq_append_getElem hl, List.map_append, List.map_cons, List.map_nil]
  congr 1
  rw [List.drop_append, List.drop_of_length_le (by simp; omega), List.nil_append, h1, List.length_singleton, List.drop_replicate]
  congr 1
  omega
/-- The numbers that a marking writes. -/
def marks (f : Int → Int) (k0 : Int) (n : Nat) : List Int := (List.range n).map fun (i : Nat) => f (k0 + (i : Int))
theorem marks_length (f : Int → Int) (k0 : Int) (n : Nat) : (marks f k0 n).length = n := by simp [marks]
theorem marks_succ (f : Int → Int) (k0 : Int) (n : Nat) : marks f k0 (n + 1) = marks f k0 n ++ [f (k0 + (n : Int))] := by simp [marks, List.range_succ]
theorem marks_get {f : Int → Int} {k0 : Int} {n i : Nat} (h : i < n) : (marks f k0 n)[i]? = some (f (k0 + (i : Int))) := by simp [marks, h]
theorem mark_step {f : Int → Int} {g : Int → Value} {xs : List Value} {k0 : Int} {j n : Nat} (hl : xs.length = n) (hj : j < n) :
    (((marks f k0 j).map g ++ xs.drop j).take (0 + Int.toNat ((j : Nat) : Int) * 1) ++ [g (f (k0 + (j : Int)))] ++ ((marks f k0 j).map g ++ xs.drop j).drop (0 + Int.toNat ((j : Nat) : Int) * 1 + [g (f (k0 + (j : Int)))].length)) = (marks f k0 (j + 1)).map g ++ xs.drop (j + 1) := by
  have h1 : ((marks f k0 j).map g).length = j := by simp [marks_length]
  rw [off1, List.take_append_of_le_length (by omega), List.take_of_length_le (by omega)]
  rw [marks_succ, List.map_append, List.map_cons, List.map_nil, List.append_assoc, List.append_assoc]
  congr 2
  rw [List.drop_append, List.drop_of_length_le (by simp [marks_length]), List.nil_append, h1, List.length_singleton, List.drop_drop]
  congr 1
  omega
theorem mark_stepI {g : Int → Value} {xs : List Value} {k0 : Int} {j n : Nat} (hl : xs.length = n) (hj : j < n) :
    (((marks id k0 j).map g ++ xs.drop j).take (0 + Int.toNat ((j : Nat) : Int) * 1) ++ [g (k0 + (j : Int))] ++ ((marks id k0 j).map g ++ xs.drop j).drop (0 + Int.toNat ((j : Nat) : Int) * 1 + [g (k0 + (j : Int))].length)) = (marks id k0 (j + 1)).map g ++ xs.drop (j + 1) := mark_step (f := id) hl hj
/-- What is left of a size. -/
def szl (lf : Int) (n : Nat) : Int := if lf - (n : Int) < 0 then -1 else lf - (n : Int)
theorem drop_all {α : Type} {l : List α} {n : Nat} (h : l.length ≤ n) : l.drop n = [] := List.drop_of_length_le h
theorem map_get {α β : Type} {f : α → β} {l : List α} {k : Nat} {z : α} (h : l[k]? = some z) : (l.map f)[k]? = some (f z) := by simp [h]
theorem beq_list {α : Type} [BEq α] [LawfulBEq α] (a : α) : (a == a) = true := by simp
end Go.Proofs.Ytchkiohikhfecaa
