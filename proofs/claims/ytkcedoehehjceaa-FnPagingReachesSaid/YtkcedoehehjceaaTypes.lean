/-
  What each argument of this seat's laws reads as. Written by wip/tools/frame.py.
-/
import Derived.Test.YtkcedoehehjceaaDeep
namespace Go.Proofs.Ytkcedoehehjceaa
open Go.RowKit Go.ChangeShapes Go.WideShapes Go.ChangeAt
set_option linter.unusedVariables false
set_option maxRecDepth 100000

section
variable {H : Type} {enc : TypeId × Value → H} {w : World} {spare : Nat → Bool} {held : Bool} {fuel : Nat} {cs : List Value} {x : DataW H × List MemPlace}

def RdInt3 (w : World) (B : Nat) (cs : List Value) : Prop := ∃ (a0 : Int), cs = [.int .i64 a0] ∧ I64 a0
theorem rdInt3 (h : DataW.trod enc Try.prog w 0 spare held fuel 3 cs = some x) : RdInt3 w w.heap.size cs := by
  obtain ⟨n, rfl, _, hw⟩ := DataW.trod_int Try.underlying3 h
  exact ⟨n, rfl, bounds_i64 hw⟩

def RdPagingState23 (w : World) (B : Nat) (cs : List Value) : Prop := ∃ (a0 : Int) (a1 : Int) (a2 : Int), cs = [.int .i64 a0, .int .i64 a1, .int .i64 a2] ∧ I64 a0 ∧ I64 a1 ∧ I64 a2
theorem rdPagingState23 (h : DataW.trod enc Try.prog w 0 spare held fuel 23 cs = some x) : RdPagingState23 w w.heap.size cs := by
  obtain ⟨xs, n, _, _, hlen, hxl, hg⟩ := DataW.trod_struct Try.underlying23 h
  have hlen' : cs.length = 3 := hlen.trans (by kernel_rfl)
  obtain ⟨c0, c1, c2, rfl⟩ := list3 hlen'
  have g0 : DataW.trod enc Try.prog w 0 spare held n 3 (List.take (Try.prog.cellsOf 3) (List.drop 0 [c0, c1, c2])) = some (xs[0]'(by rw [hxl]; decide)) := (hg 0 _ rfl).trans (List.getElem?_eq_getElem (by rw [hxl]; decide))
  have g1 : DataW.trod enc Try.prog w 0 spare held n 3 (List.take (Try.prog.cellsOf 3) (List.drop 1 [c0, c1, c2])) = some (xs[1]'(by rw [hxl]; decide)) := (hg 1 _ rfl).trans (List.getElem?_eq_getElem (by rw [hxl]; decide))
  have g2 : DataW.trod enc Try.prog w 0 spare held n 3 (List.take (Try.prog.cellsOf 3) (List.drop 2 [c0, c1, c2])) = some (xs[2]'(by rw [hxl]; decide)) := (hg 2 _ rfl).trans (List.getElem?_eq_getElem (by rw [hxl]; decide))
  rw [show Try.prog.cellsOf 3 = 1 by kernel_rfl] at g0
  obtain ⟨f0_0, e0, w0_0⟩ := rdInt3 g0
  simp only [List.drop, List.take, List.cons.injEq, and_true] at e0
  subst e0
  rw [show Try.prog.cellsOf 3 = 1 by kernel_rfl] at g1
  obtain ⟨f1_0, e1, w1_0⟩ := rdInt3 g1
  simp only [List.drop, List.take, List.cons.injEq, and_true] at e1
  subst e1
  rw [show Try.prog.cellsOf 3 = 1 by kernel_rfl] at g2
  obtain ⟨f2_0, e2, w2_0⟩ := rdInt3 g2
  simp only [List.drop, List.take, List.cons.injEq, and_true] at e2
  subst e2
  exact ⟨f0_0, f1_0, f2_0, rfl, w0_0, w1_0, w2_0⟩

def RdBytes28 (w : World) (B : Nat) (cs : List Value) : Prop := ∃ (a0A : Option Addr) (a0n a0c : Nat) (a0z : List Int), cs = [.slice a0A a0n a0c] ∧ IsSl .u8 w B a0A a0n a0c a0z
theorem rdBytes28 (h : DataW.trod enc Try.prog w 0 spare held fuel 28 cs = some x) : RdBytes28 w w.heap.size cs := by
  rcases open_ints Try.underlying28 Try.underlying5 (by kernel_rfl) h with ⟨hcs, _⟩ | ⟨a, len, cap, zs, hcs, _, hl, hm, hz, _, hcell, hwz⟩
  · subst hcs
    exact ⟨none, 0, 0, [], rfl, Nat.le_refl _, Nat.zero_le _, Rd.nil_, by simp⟩
  · subst hcs
    have hlz : len ≤ zs.length := by rw [hz]; split <;> omega
    refine ⟨some a, len, cap, zs.take len, rfl, hl, hm, ⟨by simp; omega, fun hn => ?_⟩, fun z h => hwz z (List.mem_of_mem_take h)⟩
    obtain ⟨b, off, hab, hbb, hc⟩ := ints_at' hcell (by omega)
    subst hab
    refine ⟨b, off, rfl, hbb, fun j u hj => ?_⟩
    obtain ⟨hj1, hj2⟩ := List.getElem?_eq_some_iff.1 hj
    simp at hj1 hj2
    rw [hc j (by omega), ← hj2]
    simp [List.getD, List.getElem?_eq_getElem (show j < zs.length by omega)]

def RdInts35 (w : World) (B : Nat) (cs : List Value) : Prop := ∃ (a0A : Option Addr) (a0n a0c : Nat) (a0z : List Int), cs = [.slice a0A a0n a0c] ∧ IsSl .i64 w B a0A a0n a0c a0z
theorem rdInts35 (h : DataW.trod enc Try.prog w 0 spare held fuel 35 cs = some x) : RdInts35 w w.heap.size cs := by
  rcases open_ints Try.underlying35 Try.underlying3 (by kernel_rfl) h with ⟨hcs, _⟩ | ⟨a, len, cap, zs, hcs, _, hl, hm, hz, _, hcell, hwz⟩
  · subst hcs
    exact ⟨none, 0, 0, [], rfl, Nat.le_refl _, Nat.zero_le _, Rd.nil_, by simp⟩
  · subst hcs
    have hlz : len ≤ zs.length := by rw [hz]; split <;> omega
    refine ⟨some a, len, cap, zs.take len, rfl, hl, hm, ⟨by simp; omega, fun hn => ?_⟩, fun z h => hwz z (List.mem_of_mem_take h)⟩
    obtain ⟨b, off, hab, hbb, hc⟩ := ints_at' hcell (by omega)
    subst hab
    refine ⟨b, off, rfl, hbb, fun j u hj => ?_⟩
    obtain ⟨hj1, hj2⟩ := List.getElem?_eq_some_iff.1 hj
    simp at hj1 hj2
    rw [hc j (by omega), ← hj2]
    simp [List.getD, List.getElem?_eq_getElem (show j < zs.length by omega)]

def RdCell74 (w : World) (B : Nat) (cs : List Value) : Prop := ∃ (a0 : Int) (a1A : Option Addr) (a1n a1c : Nat) (a1z : List Int), cs = [.int .i64 a0, .slice a1A a1n a1c] ∧ I64 a0 ∧ IsSl .i64 w B a1A a1n a1c a1z
theorem rdCell74 (h : DataW.trod enc Try.prog w 0 spare held fuel 74 cs = some x) : RdCell74 w w.heap.size cs := by
  obtain ⟨xs, n, _, _, hlen, hxl, hg⟩ := DataW.trod_struct Try.underlying74 h
  have hlen' : cs.length = 2 := hlen.trans (by kernel_rfl)
  obtain ⟨c0, c1, rfl⟩ := list2 hlen'
  have g0 : DataW.trod enc Try.prog w 0 spare held n 3 (List.take (Try.prog.cellsOf 3) (List.drop 0 [c0, c1])) = some (xs[0]'(by rw [hxl]; decide)) := (hg 0 _ rfl).trans (List.getElem?_eq_getElem (by rw [hxl]; decide))
  have g1 : DataW.trod enc Try.prog w 0 spare held n 35 (List.take (Try.prog.cellsOf 35) (List.drop 1 [c0, c1])) = some (xs[1]'(by rw [hxl]; decide)) := (hg 1 _ rfl).trans (List.getElem?_eq_getElem (by rw [hxl]; decide))
  rw [show Try.prog.cellsOf 3 = 1 by kernel_rfl] at g0
  obtain ⟨f0_0, e0, w0_0⟩ := rdInt3 g0
  simp only [List.drop, List.take, List.cons.injEq, and_true] at e0
  subst e0
  rw [show Try.prog.cellsOf 35 = 1 by kernel_rfl] at g1
  obtain ⟨f1_0A, f1_0n, f1_0c, f1_0z, e1, w1_0⟩ := rdInts35 g1
  simp only [List.drop, List.take, List.cons.injEq, and_true] at e1
  subst e1
  exact ⟨f0_0, f1_0A, f1_0n, f1_0c, f1_0z, rfl, w0_0, w1_0⟩

def RdCellS47 (w : World) (B : Nat) (cs : List Value) : Prop := ∃ (a0A : Option Addr) (a0n a0c : Nat) (a0y : List It), cs = [.slice a0A a0n a0c] ∧ IsIt .i64 true w B a0A a0n a0c a0y
theorem rdCellS47 (h : DataW.trod enc Try.prog w 0 spare held fuel 47 cs = some x) : RdCellS47 w w.heap.size cs := by
  obtain ⟨A, n, c, ys, hcs, hi⟩ := its_of (κ := .i64) (p := true) Try.underlying47 (by kernel_rfl) h (fun n cs x h => el_true (rdCell74 h))
  exact ⟨A, n, c, ys, hcs, hi⟩

def RdCellMap49 (w : World) (B : Nat) (cs : List Value) : Prop := ∃ (a0A : Option Addr) (a0n a0c : Nat) (a0y : List It), cs = [.slice a0A a0n a0c] ∧ IsIt .i64 true w B a0A a0n a0c a0y
theorem rdCellMap49 (h : DataW.trod enc Try.prog w 0 spare held fuel 49 cs = some x) : RdCellMap49 w w.heap.size cs := by
  obtain ⟨xs, n, _, _, hlen, hxl, hg⟩ := DataW.trod_struct Try.underlying49 h
  have hlen' : cs.length = 1 := hlen.trans (by kernel_rfl)
  obtain ⟨c0, rfl⟩ := list1 hlen'
  have g0 : DataW.trod enc Try.prog w 0 spare held n 47 (List.take (Try.prog.cellsOf 47) (List.drop 0 [c0])) = some (xs[0]'(by rw [hxl]; decide)) := (hg 0 _ rfl).trans (List.getElem?_eq_getElem (by rw [hxl]; decide))
  rw [show Try.prog.cellsOf 47 = 1 by kernel_rfl] at g0
  obtain ⟨f0_0A, f0_0n, f0_0c, f0_0y, e0, w0_0⟩ := rdCellS47 g0
  simp only [List.drop, List.take, List.cons.injEq, and_true] at e0
  subst e0
  exact ⟨f0_0A, f0_0n, f0_0c, f0_0y, rfl, w0_0⟩

end

def InInt3 (w : World) (B : Nat) (v : Value) : Prop := ∃ (a0 : Int), v = .int .i64 a0 ∧ I64 a0
theorem inInt3 {H : Type} {enc : TypeId × Value → H} {w : World} {r : Reach} {b0 : Nat} {spare : Nat → Bool} {held : Bool} {v : Value} {d : DataW H} {p : List MemPlace} (hv : Value.okWide Try.prog w r b0 3 v) (h : DataW.Trod enc Try.prog w 0 spare held 3 v d p) : InInt3 w w.heap.size v := by
  obtain ⟨fuel, hf⟩ := h
  obtain ⟨n, rfl⟩ := okWide_int Try.underlying3 hv
  obtain ⟨a0, e, w0⟩ := rdInt3 (by simpa [Value.cells] using hf)
  simp only [List.cons.injEq, and_true] at e
  exact ⟨a0, e, w0⟩

def InPagingState23 (w : World) (B : Nat) (v : Value) : Prop := ∃ (a0 : Int) (a1 : Int) (a2 : Int), v = .agg #[.int .i64 a0, .int .i64 a1, .int .i64 a2] ∧ I64 a0 ∧ I64 a1 ∧ I64 a2
theorem inPagingState23 {H : Type} {enc : TypeId × Value → H} {w : World} {r : Reach} {b0 : Nat} {spare : Nat → Bool} {held : Bool} {v : Value} {d : DataW H} {p : List MemPlace} (hv : Value.okWide Try.prog w r b0 23 v) (h : DataW.Trod enc Try.prog w 0 spare held 23 v d p) : InPagingState23 w w.heap.size v := by
  obtain ⟨fuel, hf⟩ := h
  obtain ⟨cs, rfl, _⟩ := okWide_struct Try.underlying23 hv
  obtain ⟨a0, a1, a2, e, w0, w1, w2⟩ := rdPagingState23 (cs := cs.toList) (by simpa [Value.cells] using hf)
  obtain ⟨l⟩ := cs
  simp only at e
  subst e
  exact ⟨a0, a1, a2, rfl, w0, w1, w2⟩

def InBytes28 (w : World) (B : Nat) (v : Value) : Prop := ∃ (a0A : Option Addr) (a0n a0c : Nat) (a0z : List Int), v = .slice a0A a0n a0c ∧ IsSl .u8 w B a0A a0n a0c a0z
theorem inBytes28 {H : Type} {enc : TypeId × Value → H} {w : World} {r : Reach} {b0 : Nat} {spare : Nat → Bool} {held : Bool} {v : Value} {d : DataW H} {p : List MemPlace} (hv : Value.okWide Try.prog w r b0 28 v) (h : DataW.Trod enc Try.prog w 0 spare held 28 v d p) : InBytes28 w w.heap.size v := by
  obtain ⟨fuel, hf⟩ := h
  obtain ⟨A, n, c, rfl⟩ := okWide_slice Try.underlying28 hv
  obtain ⟨a0A, a0n, a0c, a0z, e, w0⟩ := rdBytes28 (by simpa [Value.cells] using hf)
  simp only [List.cons.injEq, and_true] at e
  exact ⟨a0A, a0n, a0c, a0z, e, w0⟩

def InInts35 (w : World) (B : Nat) (v : Value) : Prop := ∃ (a0A : Option Addr) (a0n a0c : Nat) (a0z : List Int), v = .slice a0A a0n a0c ∧ IsSl .i64 w B a0A a0n a0c a0z
theorem inInts35 {H : Type} {enc : TypeId × Value → H} {w : World} {r : Reach} {b0 : Nat} {spare : Nat → Bool} {held : Bool} {v : Value} {d : DataW H} {p : List MemPlace} (hv : Value.okWide Try.prog w r b0 35 v) (h : DataW.Trod enc Try.prog w 0 spare held 35 v d p) : InInts35 w w.heap.size v := by
  obtain ⟨fuel, hf⟩ := h
  obtain ⟨A, n, c, rfl⟩ := okWide_slice Try.underlying35 hv
  obtain ⟨a0A, a0n, a0c, a0z, e, w0⟩ := rdInts35 (by simpa [Value.cells] using hf)
  simp only [List.cons.injEq, and_true] at e
  exact ⟨a0A, a0n, a0c, a0z, e, w0⟩

def InCell74 (w : World) (B : Nat) (v : Value) : Prop := ∃ (a0 : Int) (a1A : Option Addr) (a1n a1c : Nat) (a1z : List Int), v = .agg #[.int .i64 a0, .slice a1A a1n a1c] ∧ I64 a0 ∧ IsSl .i64 w B a1A a1n a1c a1z
theorem inCell74 {H : Type} {enc : TypeId × Value → H} {w : World} {r : Reach} {b0 : Nat} {spare : Nat → Bool} {held : Bool} {v : Value} {d : DataW H} {p : List MemPlace} (hv : Value.okWide Try.prog w r b0 74 v) (h : DataW.Trod enc Try.prog w 0 spare held 74 v d p) : InCell74 w w.heap.size v := by
  obtain ⟨fuel, hf⟩ := h
  obtain ⟨cs, rfl, _⟩ := okWide_struct Try.underlying74 hv
  obtain ⟨a0, a1A, a1n, a1c, a1z, e, w0, w1⟩ := rdCell74 (cs := cs.toList) (by simpa [Value.cells] using hf)
  obtain ⟨l⟩ := cs
  simp only at e
  subst e
  exact ⟨a0, a1A, a1n, a1c, a1z, rfl, w0, w1⟩

def InCellS47 (w : World) (B : Nat) (v : Value) : Prop := ∃ (a0A : Option Addr) (a0n a0c : Nat) (a0y : List It), v = .slice a0A a0n a0c ∧ IsIt .i64 true w B a0A a0n a0c a0y
theorem inCellS47 {H : Type} {enc : TypeId × Value → H} {w : World} {r : Reach} {b0 : Nat} {spare : Nat → Bool} {held : Bool} {v : Value} {d : DataW H} {p : List MemPlace} (hv : Value.okWide Try.prog w r b0 47 v) (h : DataW.Trod enc Try.prog w 0 spare held 47 v d p) : InCellS47 w w.heap.size v := by
  obtain ⟨fuel, hf⟩ := h
  obtain ⟨A, n, c, rfl⟩ := okWide_slice Try.underlying47 hv
  obtain ⟨a0A, a0n, a0c, a0y, e, w0⟩ := rdCellS47 (by simpa [Value.cells] using hf)
  simp only [List.cons.injEq, and_true] at e
  exact ⟨a0A, a0n, a0c, a0y, e, w0⟩

def InCellMap49 (w : World) (B : Nat) (v : Value) : Prop := ∃ (a0A : Option Addr) (a0n a0c : Nat) (a0y : List It), v = .agg #[.slice a0A a0n a0c] ∧ IsIt .i64 true w B a0A a0n a0c a0y
theorem inCellMap49 {H : Type} {enc : TypeId × Value → H} {w : World} {r : Reach} {b0 : Nat} {spare : Nat → Bool} {held : Bool} {v : Value} {d : DataW H} {p : List MemPlace} (hv : Value.okWide Try.prog w r b0 49 v) (h : DataW.Trod enc Try.prog w 0 spare held 49 v d p) : InCellMap49 w w.heap.size v := by
  obtain ⟨fuel, hf⟩ := h
  obtain ⟨cs, rfl, _⟩ := okWide_struct Try.underlying49 hv
  obtain ⟨a0A, a0n, a0c, a0y, e, w0⟩ := rdCellMap49 (cs := cs.toList) (by simpa [Value.cells] using hf)
  obtain ⟨l⟩ := cs
  simp only at e
  subst e
  exact ⟨a0A, a0n, a0c, a0y, rfl, w0⟩

end Go.Proofs.Ytkcedoehehjceaa
