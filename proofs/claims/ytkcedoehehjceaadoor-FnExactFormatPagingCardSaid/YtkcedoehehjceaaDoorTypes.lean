/-
  What each argument of this seat's laws reads as. Written by wip/tools/frame.py.
-/
import Derived.Test.YtkcedoehehjceaaDoorBase
namespace Go.Proofs.YtkcedoehehjceaaDoor
open Go.RowKit Go.ChangeShapes Go.WideShapes Go.ChangeAt
set_option linter.unusedVariables false
set_option maxRecDepth 100000

section
variable {H : Type} {enc : TypeId × Value → H} {w : World} {spare : Nat → Bool} {held : Bool} {fuel : Nat} {cs : List Value} {x : DataW H × List MemPlace}

def RdInt3 (w : World) (B : Nat) (cs : List Value) : Prop := ∃ (a0 : Int), cs = [.int .i64 a0] ∧ I64 a0
theorem rdInt3 (h : DataW.trod enc Tryd.prog w 0 spare held fuel 3 cs = some x) : RdInt3 w w.heap.size cs := by
  obtain ⟨n, rfl, _, hw⟩ := DataW.trod_int Tryd.underlying3 h
  exact ⟨n, rfl, bounds_i64 hw⟩

def RdPagingState23 (w : World) (B : Nat) (cs : List Value) : Prop := ∃ (a0 : Int) (a1 : Int) (a2 : Int), cs = [.int .i64 a0, .int .i64 a1, .int .i64 a2] ∧ I64 a0 ∧ I64 a1 ∧ I64 a2
theorem rdPagingState23 (h : DataW.trod enc Tryd.prog w 0 spare held fuel 23 cs = some x) : RdPagingState23 w w.heap.size cs := by
  obtain ⟨xs, n, _, _, hlen, hxl, hg⟩ := DataW.trod_struct Tryd.underlying23 h
  have hlen' : cs.length = 3 := hlen.trans (by kernel_rfl)
  obtain ⟨c0, c1, c2, rfl⟩ := list3 hlen'
  have g0 : DataW.trod enc Tryd.prog w 0 spare held n 3 (List.take (Tryd.prog.cellsOf 3) (List.drop 0 [c0, c1, c2])) = some (xs[0]'(by rw [hxl]; decide)) := (hg 0 _ rfl).trans (List.getElem?_eq_getElem (by rw [hxl]; decide))
  have g1 : DataW.trod enc Tryd.prog w 0 spare held n 3 (List.take (Tryd.prog.cellsOf 3) (List.drop 1 [c0, c1, c2])) = some (xs[1]'(by rw [hxl]; decide)) := (hg 1 _ rfl).trans (List.getElem?_eq_getElem (by rw [hxl]; decide))
  have g2 : DataW.trod enc Tryd.prog w 0 spare held n 3 (List.take (Tryd.prog.cellsOf 3) (List.drop 2 [c0, c1, c2])) = some (xs[2]'(by rw [hxl]; decide)) := (hg 2 _ rfl).trans (List.getElem?_eq_getElem (by rw [hxl]; decide))
  rw [show Tryd.prog.cellsOf 3 = 1 by kernel_rfl] at g0
  obtain ⟨f0_0, e0, w0_0⟩ := rdInt3 g0
  simp only [List.drop, List.take, List.cons.injEq, and_true] at e0
  subst e0
  rw [show Tryd.prog.cellsOf 3 = 1 by kernel_rfl] at g1
  obtain ⟨f1_0, e1, w1_0⟩ := rdInt3 g1
  simp only [List.drop, List.take, List.cons.injEq, and_true] at e1
  subst e1
  rw [show Tryd.prog.cellsOf 3 = 1 by kernel_rfl] at g2
  obtain ⟨f2_0, e2, w2_0⟩ := rdInt3 g2
  simp only [List.drop, List.take, List.cons.injEq, and_true] at e2
  subst e2
  exact ⟨f0_0, f1_0, f2_0, rfl, w0_0, w1_0, w2_0⟩

end

def InInt3 (w : World) (B : Nat) (v : Value) : Prop := ∃ (a0 : Int), v = .int .i64 a0 ∧ I64 a0
theorem inInt3 {H : Type} {enc : TypeId × Value → H} {w : World} {r : Reach} {b0 : Nat} {spare : Nat → Bool} {held : Bool} {v : Value} {d : DataW H} {p : List MemPlace} (hv : Value.okWide Tryd.prog w r b0 3 v) (h : DataW.Trod enc Tryd.prog w 0 spare held 3 v d p) : InInt3 w w.heap.size v := by
  obtain ⟨fuel, hf⟩ := h
  obtain ⟨n, rfl⟩ := okWide_int Tryd.underlying3 hv
  obtain ⟨a0, e, w0⟩ := rdInt3 (by simpa [Value.cells] using hf)
  simp only [List.cons.injEq, and_true] at e
  exact ⟨a0, e, w0⟩

def InPagingState23 (w : World) (B : Nat) (v : Value) : Prop := ∃ (a0 : Int) (a1 : Int) (a2 : Int), v = .agg #[.int .i64 a0, .int .i64 a1, .int .i64 a2] ∧ I64 a0 ∧ I64 a1 ∧ I64 a2
theorem inPagingState23 {H : Type} {enc : TypeId × Value → H} {w : World} {r : Reach} {b0 : Nat} {spare : Nat → Bool} {held : Bool} {v : Value} {d : DataW H} {p : List MemPlace} (hv : Value.okWide Tryd.prog w r b0 23 v) (h : DataW.Trod enc Tryd.prog w 0 spare held 23 v d p) : InPagingState23 w w.heap.size v := by
  obtain ⟨fuel, hf⟩ := h
  obtain ⟨cs, rfl, _⟩ := okWide_struct Tryd.underlying23 hv
  obtain ⟨a0, a1, a2, e, w0, w1, w2⟩ := rdPagingState23 (cs := cs.toList) (by simpa [Value.cells] using hf)
  obtain ⟨l⟩ := cs
  simp only at e
  subst e
  exact ⟨a0, a1, a2, rfl, w0, w1, w2⟩

end Go.Proofs.YtkcedoehehjceaaDoor
