/-
  What each argument of this seat's laws reads as. Written by wip/tools/frame.py.
-/
import Derived.Test.YtidefcakodnffaaBase
namespace Go.Proofs.Ytidefcakodnffaa
open Go.RowKit Go.ChangeShapes Go.WideShapes Go.ChangeAt
set_option linter.unusedVariables false
set_option maxRecDepth 100000

section
variable {H : Type} {enc : TypeId × Value → H} {w : World} {spare : Nat → Bool} {held : Bool} {fuel : Nat} {cs : List Value} {x : DataW H × List MemPlace}

def RdInt3 (w : World) (B : Nat) (cs : List Value) : Prop := ∃ (a0 : Int), cs = [.int .i64 a0] ∧ I64 a0
theorem rdInt3 (h : DataW.trod enc Try.prog w 0 spare held fuel 3 cs = some x) : RdInt3 w w.heap.size cs := by
  obtain ⟨n, rfl, _, hw⟩ := DataW.trod_int Try.underlying3 h
  exact ⟨n, rfl, bounds_i64 hw⟩

def RdServerPool23 (w : World) (B : Nat) (cs : List Value) : Prop := ∃ (a0 : Int) (a1 : Int), cs = [.int .i64 a0, .int .i64 a1] ∧ I64 a0 ∧ I64 a1
theorem rdServerPool23 (h : DataW.trod enc Try.prog w 0 spare held fuel 23 cs = some x) : RdServerPool23 w w.heap.size cs := by
  obtain ⟨xs, n, _, _, hlen, hxl, hg⟩ := DataW.trod_struct Try.underlying23 h
  have hlen' : cs.length = 2 := hlen.trans (by kernel_rfl)
  obtain ⟨c0, c1, rfl⟩ := list2 hlen'
  have g0 : DataW.trod enc Try.prog w 0 spare held n 3 (List.take (Try.prog.cellsOf 3) (List.drop 0 [c0, c1])) = some (xs[0]'(by rw [hxl]; decide)) := (hg 0 _ rfl).trans (List.getElem?_eq_getElem (by rw [hxl]; decide))
  have g1 : DataW.trod enc Try.prog w 0 spare held n 3 (List.take (Try.prog.cellsOf 3) (List.drop 1 [c0, c1])) = some (xs[1]'(by rw [hxl]; decide)) := (hg 1 _ rfl).trans (List.getElem?_eq_getElem (by rw [hxl]; decide))
  rw [show Try.prog.cellsOf 3 = 1 by kernel_rfl] at g0
  obtain ⟨f0_0, e0, w0_0⟩ := rdInt3 g0
  simp only [List.drop, List.take, List.cons.injEq, and_true] at e0
  subst e0
  rw [show Try.prog.cellsOf 3 = 1 by kernel_rfl] at g1
  obtain ⟨f1_0, e1, w1_0⟩ := rdInt3 g1
  simp only [List.drop, List.take, List.cons.injEq, and_true] at e1
  subst e1
  exact ⟨f0_0, f1_0, rfl, w0_0, w1_0⟩

def RdBool4 (w : World) (B : Nat) (cs : List Value) : Prop := ∃ (a0 : Bool), cs = [.bool a0]
theorem rdBool4 (h : DataW.trod enc Try.prog w 0 spare held fuel 4 cs = some x) : RdBool4 w w.heap.size cs := by
  obtain ⟨b, rfl, _⟩ := DataW.trod_bool Try.underlying4 h
  exact ⟨b, rfl⟩

def RdBytes37 (w : World) (B : Nat) (cs : List Value) : Prop := ∃ (a0A : Option Addr) (a0n a0c : Nat) (a0z : List Int), cs = [.slice a0A a0n a0c] ∧ IsSl .u8 w B a0A a0n a0c a0z
theorem rdBytes37 (h : DataW.trod enc Try.prog w 0 spare held fuel 37 cs = some x) : RdBytes37 w w.heap.size cs := by
  rcases open_ints Try.underlying37 Try.underlying5 (by kernel_rfl) h with ⟨hcs, _⟩ | ⟨a, len, cap, zs, hcs, _, hl, hm, hz, _, hcell, hwz⟩
  · subst hcs
    exact ⟨none, 0, 0, [], rfl, Nat.le_refl _, Nat.zero_le _, Rd.nil_, by simp⟩
  · subst hcs
    have hlz : len ≤ zs.length := by rw [hz]; split <;> omega
    refine ⟨some a, len, cap, zs.take len, rfl, hl, hm, ⟨by simp; omega, fun hn => ?_⟩, fun z h => hwz z (List.mem_of_mem_take h)⟩
    obtain ⟨b, off, hab, hbb, hc⟩ := ints_at' hcell (by omega)
    subst hab
    refine ⟨b, off, rfl, hbb, fun j u hj => ?_⟩
    obtain ⟨hj1, hj2⟩ := List.getElem?_eq_some_iff.1 hj
    simp at hj1 hj2
    rw [hc j (by omega), ← hj2]
    simp [List.getD, List.getElem?_eq_getElem (show j < zs.length by omega)]

def RdInts39 (w : World) (B : Nat) (cs : List Value) : Prop := ∃ (a0A : Option Addr) (a0n a0c : Nat) (a0z : List Int), cs = [.slice a0A a0n a0c] ∧ IsSl .i64 w B a0A a0n a0c a0z
theorem rdInts39 (h : DataW.trod enc Try.prog w 0 spare held fuel 39 cs = some x) : RdInts39 w w.heap.size cs := by
  rcases open_ints Try.underlying39 Try.underlying3 (by kernel_rfl) h with ⟨hcs, _⟩ | ⟨a, len, cap, zs, hcs, _, hl, hm, hz, _, hcell, hwz⟩
  · subst hcs
    exact ⟨none, 0, 0, [], rfl, Nat.le_refl _, Nat.zero_le _, Rd.nil_, by simp⟩
  · subst hcs
    have hlz : len ≤ zs.length := by rw [hz]; split <;> omega
    refine ⟨some a, len, cap, zs.take len, rfl, hl, hm, ⟨by simp; omega, fun hn => ?_⟩, fun z h => hwz z (List.mem_of_mem_take h)⟩
    obtain ⟨b, off, hab, hbb, hc⟩ := ints_at' hcell (by omega)
    subst hab
    refine ⟨b, off, rfl, hbb, fun j u hj => ?_⟩
    obtain ⟨hj1, hj2⟩ := List.getElem?_eq_some_iff.1 hj
    simp at hj1 hj2
    rw [hc j (by omega), ← hj2]
    simp [List.getD, List.getElem?_eq_getElem (show j < zs.length by omega)]

end

def InInt3 (w : World) (B : Nat) (v : Value) : Prop := ∃ (a0 : Int), v = .int .i64 a0 ∧ I64 a0
theorem inInt3 {H : Type} {enc : TypeId × Value → H} {w : World} {r : Reach} {b0 : Nat} {spare : Nat → Bool} {held : Bool} {v : Value} {d : DataW H} {p : List MemPlace} (hv : Value.okWide Try.prog w r b0 3 v) (h : DataW.Trod enc Try.prog w 0 spare held 3 v d p) : InInt3 w w.heap.size v := by
  obtain ⟨fuel, hf⟩ := h
  obtain ⟨n, rfl⟩ := okWide_int Try.underlying3 hv
  obtain ⟨a0, e, w0⟩ := rdInt3 (by simpa [Value.cells] using hf)
  simp only [List.cons.injEq, and_true] at e
  exact ⟨a0, e, w0⟩

def InServerPool23 (w : World) (B : Nat) (v : Value) : Prop := ∃ (a0 : Int) (a1 : Int), v = .agg #[.int .i64 a0, .int .i64 a1] ∧ I64 a0 ∧ I64 a1
theorem inServerPool23 {H : Type} {enc : TypeId × Value → H} {w : World} {r : Reach} {b0 : Nat} {spare : Nat → Bool} {held : Bool} {v : Value} {d : DataW H} {p : List MemPlace} (hv : Value.okWide Try.prog w r b0 23 v) (h : DataW.Trod enc Try.prog w 0 spare held 23 v d p) : InServerPool23 w w.heap.size v := by
  obtain ⟨fuel, hf⟩ := h
  obtain ⟨cs, rfl, _⟩ := okWide_struct Try.underlying23 hv
  obtain ⟨a0, a1, e, w0, w1⟩ := rdServerPool23 (cs := cs.toList) (by simpa [Value.cells] using hf)
  obtain ⟨l⟩ := cs
  simp only at e
  subst e
  exact ⟨a0, a1, rfl, w0, w1⟩

def InBool4 (w : World) (B : Nat) (v : Value) : Prop := ∃ (a0 : Bool), v = .bool a0
theorem inBool4 {H : Type} {enc : TypeId × Value → H} {w : World} {r : Reach} {b0 : Nat} {spare : Nat → Bool} {held : Bool} {v : Value} {d : DataW H} {p : List MemPlace} (hv : Value.okWide Try.prog w r b0 4 v) (h : DataW.Trod enc Try.prog w 0 spare held 4 v d p) : InBool4 w w.heap.size v := by
  obtain ⟨fuel, hf⟩ := h
  obtain ⟨n, rfl⟩ := okWide_bool Try.underlying4 hv
  obtain ⟨a0, e⟩ := rdBool4 (by simpa [Value.cells] using hf)
  simp only [List.cons.injEq, and_true] at e
  exact ⟨a0, e⟩

def InBytes37 (w : World) (B : Nat) (v : Value) : Prop := ∃ (a0A : Option Addr) (a0n a0c : Nat) (a0z : List Int), v = .slice a0A a0n a0c ∧ IsSl .u8 w B a0A a0n a0c a0z
theorem inBytes37 {H : Type} {enc : TypeId × Value → H} {w : World} {r : Reach} {b0 : Nat} {spare : Nat → Bool} {held : Bool} {v : Value} {d : DataW H} {p : List MemPlace} (hv : Value.okWide Try.prog w r b0 37 v) (h : DataW.Trod enc Try.prog w 0 spare held 37 v d p) : InBytes37 w w.heap.size v := by
  obtain ⟨fuel, hf⟩ := h
  obtain ⟨A, n, c, rfl⟩ := okWide_slice Try.underlying37 hv
  obtain ⟨a0A, a0n, a0c, a0z, e, w0⟩ := rdBytes37 (by simpa [Value.cells] using hf)
  simp only [List.cons.injEq, and_true] at e
  exact ⟨a0A, a0n, a0c, a0z, e, w0⟩

def InInts39 (w : World) (B : Nat) (v : Value) : Prop := ∃ (a0A : Option Addr) (a0n a0c : Nat) (a0z : List Int), v = .slice a0A a0n a0c ∧ IsSl .i64 w B a0A a0n a0c a0z
theorem inInts39 {H : Type} {enc : TypeId × Value → H} {w : World} {r : Reach} {b0 : Nat} {spare : Nat → Bool} {held : Bool} {v : Value} {d : DataW H} {p : List MemPlace} (hv : Value.okWide Try.prog w r b0 39 v) (h : DataW.Trod enc Try.prog w 0 spare held 39 v d p) : InInts39 w w.heap.size v := by
  obtain ⟨fuel, hf⟩ := h
  obtain ⟨A, n, c, rfl⟩ := okWide_slice Try.underlying39 hv
  obtain ⟨a0A, a0n, a0c, a0z, e, w0⟩ := rdInts39 (by simpa [Value.cells] using hf)
  simp only [List.cons.injEq, and_true] at e
  exact ⟨a0A, a0n, a0c, a0z, e, w0⟩

end Go.Proofs.Ytidefcakodnffaa
