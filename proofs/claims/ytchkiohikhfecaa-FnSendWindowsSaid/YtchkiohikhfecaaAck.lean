/-
  Plain facts on what is left of a send window behind an acknowledgment; a spine of the call's own whose bodies came in.
-/
import Derived.Test.YtchkiohikhfecaaWin
namespace Go.Proofs.Ytchkiohikhfecaa
open Go.RowKit

def fL (nx : Int) (L : List (Int × List Int)) : List (Int × List Int) := L.filter fun q => decide (nx ≤ q.1)
def fI (nx : Int) (ys : List It) : List It := ys.filter fun y => decide (nx ≤ y.s)
def ackL (nx a : Int) (L : List (Int × List Int)) : List (Int × List Int) := if a < nx then L else fL nx L
theorem fI_con (nx : Int) (ys : List It) : (fI nx ys).map (con true) = fL nx (ys.map (con true)) := by
  unfold fI fL
  rw [List.filter_map]
  rfl
theorem fL_ok {κ : IntKind} {L : List (Int × List Int)} (h : okL κ L) (nx : Int) : okL κ (fL nx L) := fun q hq => h q (List.mem_filter.1 hq).1
theorem okL_take {κ : IntKind} {p : Bool} {ys : List It} (h : okL κ (ys.map (con p))) (k : Nat) : okL κ ((ys.take k).map (con p)) := by
  rw [List.map_take]; exact okL.take h k
theorem fL_wt (nx : Int) (L : List (Int × List Int)) : wt (fL nx L) ≤ wt L := by
  induction L with
  | nil => exact Nat.le_refl _
  | cons q l ih =>
    unfold fL at ih ⊢
    rw [List.filter_cons]
    split <;> simp only [wt] <;> omega
theorem wt_takeI {p : Bool} (ys : List It) (k : Nat) : wt ((ys.take k).map (con p)) ≤ wt (ys.map (con p)) := by
  rw [List.map_take]
  have := wt_take (ys.map (con p)) k
  omega
theorem ackL_ok {κ : IntKind} {L : List (Int × List Int)} (h : okL κ L) (nx a : Int) : okL κ (ackL nx a L) := by
  unfold ackL; split
  · exact h
  · exact fL_ok h nx
theorem ackL_wt (nx a : Int) (L : List (Int × List Int)) : wt (ackL nx a L) ≤ wt L := by
  unfold ackL; split
  · exact Nat.le_refl _
  · exact fL_wt nx L
theorem fI_t {nx : Int} {ys : List It} {k : Nat} {y : It} (h : ys[k]? = some y) (hn : nx ≤ y.s) : fI nx (ys.take (k + 1)) = fI nx (ys.take k) ++ [y] := by
  unfold fI; rw [take_get h, List.filter_append, List.filter_cons, if_pos (by simpa using hn)]; rfl
theorem fI_f {nx : Int} {ys : List It} {k : Nat} {y : It} (h : ys[k]? = some y) (hn : ¬ nx ≤ y.s) : fI nx (ys.take (k + 1)) = fI nx (ys.take k) := by
  unfold fI; rw [take_get h, List.filter_append, List.filter_cons, if_neg (by simpa using hn)]; simp
theorem fL_t {nx : Int} {ys : List It} {k : Nat} {y : It} (h : ys[k]? = some y) (hn : nx ≤ y.s) : fL nx ((ys.take (k + 1)).map (con true)) = fL nx ((ys.take k).map (con true)) ++ [(y.s, y.zs)] := by
  rw [← fI_con, fI_t h hn, List.map_append, fI_con]; rfl
theorem fL_f {nx : Int} {ys : List It} {k : Nat} {y : It} (h : ys[k]? = some y) (hn : ¬ nx ≤ y.s) : fL nx ((ys.take (k + 1)).map (con true)) = fL nx ((ys.take k).map (con true)) := by
  rw [← fI_con, fI_f h hn, fI_con]
theorem fI_len (nx : Int) (ys : List It) : (fI nx ys).length = (fL nx (ys.map (con true))).length := by rw [← fI_con, List.length_map]
/-- A spine of the call's own, whose bodies came in, reads. -/
theorem St.rdmix {w0 w : World} {own : List Res} {κ : IntKind} {A : Option Addr} {n c t : Nat} {nx : Int} {ys : List It} {B : Option Addr} {m : Nat} {k : Nat} (h : St w0 w own) (hm : Res.row (.slice A n c) t 2 n (flat true (fI nx (ys.take k))) ∈ own) (hr : RdI κ true w0 w0.heap.size B m ys) (hok : okL κ (ys.map (con true))) (hn : (fI nx (ys.take k)).length = n) :
    RdL κ true w w.heap.size A n (fL nx ((ys.take k).map (con true))) := by
  refine ⟨fL_ok (okL_take hok k) nx, fI nx (ys.take k), ⟨hn, ?_, ?_⟩, fI_con nx _⟩
  · have h1 := h.rd hm
    exact h1
  · intro y hy
    have hy' := hr.el y (List.mem_of_mem_take (List.mem_filter.1 hy).1)
    exact ⟨h.rdlow hy'.1, hy'.2⟩
end Go.Proofs.Ytchkiohikhfecaa
