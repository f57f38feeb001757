/-
  What each argument of this seat's laws reads as. Written by wip/tools/frame.py.
-/
import Derived.Test.YtihecjcbgnpakaaRec
namespace Go.Proofs.Ytihecjcbgnpakaa
open Go.RowKit Go.ChangeShapes Go.WideShapes Go.ChangeAt
set_option linter.unusedVariables false
set_option maxRecDepth 100000

section
variable {H : Type} {enc : TypeId × Value → H} {w : World} {spare : Nat → Bool} {held : Bool} {fuel : Nat} {cs : List Value} {x : DataW H × List MemPlace}

def RdInt3 (w : World) (B : Nat) (cs : List Value) : Prop := ∃ (a0 : Int), cs = [.int .i64 a0] ∧ I64 a0
theorem rdInt3 (h : DataW.trod enc Try.prog w 0 spare held fuel 3 cs = some x) : RdInt3 w w.heap.size cs := by
  obtain ⟨n, rfl, _, hw⟩ := DataW.trod_int Try.underlying3 h
  exact ⟨n, rfl, bounds_i64 hw⟩

def RdSubscriberID24 (w : World) (B : Nat) (cs : List Value) : Prop := ∃ (a0 : Int) (a1 : Int), cs = [.int .i64 a0, .int .i64 a1] ∧ I64 a0 ∧ I64 a1
theorem rdSubscriberID24 (h : DataW.trod enc Try.prog w 0 spare held fuel 24 cs = some x) : RdSubscriberID24 w w.heap.size cs := by
  obtain ⟨xs, n, _, _, hlen, hxl, hg⟩ := DataW.trod_struct Try.underlying24 h
  have hlen' : cs.length = 2 := hlen.trans (by kernel_rfl)
  obtain ⟨c0, c1, rfl⟩ := list2 hlen'
  have g0 : DataW.trod enc Try.prog w 0 spare held n 3 (List.take (Try.prog.cellsOf 3) (List.drop 0 [c0, c1])) = some (xs[0]'(by rw [hxl]; decide)) := (hg 0 _ rfl).trans (List.getElem?_eq_getElem (by rw [hxl]; decide))
  have g1 : DataW.trod enc Try.prog w 0 spare held n 3 (List.take (Try.prog.cellsOf 3) (List.drop 1 [c0, c1])) = some (xs[1]'(by rw [hxl]; decide)) := (hg 1 _ rfl).trans (List.getElem?_eq_getElem (by rw [hxl]; decide))
  rw [show Try.prog.cellsOf 3 = 1 by kernel_rfl] at g0
  obtain ⟨f0_0, e0, w0_0⟩ := rdInt3 g0
  simp only [List.drop, List.take, List.cons.injEq, and_true] at e0
  subst e0
  rw [show Try.prog.cellsOf 3 = 1 by kernel_rfl] at g1
  obtain ⟨f1_0, e1, w1_0⟩ := rdInt3 g1
  simp only [List.drop, List.take, List.cons.injEq, and_true] at e1
  subst e1
  exact ⟨f0_0, f1_0, rfl, w0_0, w1_0⟩

def RdTempID26 (w : World) (B : Nat) (cs : List Value) : Prop := ∃ (a0 : Int) (a1 : Int), cs = [.int .i64 a0, .int .i64 a1] ∧ I64 a0 ∧ I64 a1
theorem rdTempID26 (h : DataW.trod enc Try.prog w 0 spare held fuel 26 cs = some x) : RdTempID26 w w.heap.size cs := by
  obtain ⟨xs, n, _, _, hlen, hxl, hg⟩ := DataW.trod_struct Try.underlying26 h
  have hlen' : cs.length = 2 := hlen.trans (by kernel_rfl)
  obtain ⟨c0, c1, rfl⟩ := list2 hlen'
  have g0 : DataW.trod enc Try.prog w 0 spare held n 3 (List.take (Try.prog.cellsOf 3) (List.drop 0 [c0, c1])) = some (xs[0]'(by rw [hxl]; decide)) := (hg 0 _ rfl).trans (List.getElem?_eq_getElem (by rw [hxl]; decide))
  have g1 : DataW.trod enc Try.prog w 0 spare held n 3 (List.take (Try.prog.cellsOf 3) (List.drop 1 [c0, c1])) = some (xs[1]'(by rw [hxl]; decide)) := (hg 1 _ rfl).trans (List.getElem?_eq_getElem (by rw [hxl]; decide))
  rw [show Try.prog.cellsOf 3 = 1 by kernel_rfl] at g0
  obtain ⟨f0_0, e0, w0_0⟩ := rdInt3 g0
  simp only [List.drop, List.take, List.cons.injEq, and_true] at e0
  subst e0
  rw [show Try.prog.cellsOf 3 = 1 by kernel_rfl] at g1
  obtain ⟨f1_0, e1, w1_0⟩ := rdInt3 g1
  simp only [List.drop, List.take, List.cons.injEq, and_true] at e1
  subst e1
  exact ⟨f0_0, f1_0, rfl, w0_0, w1_0⟩

def RdRegistration28 (w : World) (B : Nat) (cs : List Value) : Prop := ∃ (a0 : Int) (a1 : Int) (a2 : Int) (a3 : Int) (a4 : Int) (a5 : Int), cs = [.int .i64 a0, .int .i64 a1, .int .i64 a2, .int .i64 a3, .int .i64 a4, .int .i64 a5] ∧ I64 a0 ∧ I64 a1 ∧ I64 a2 ∧ I64 a3 ∧ I64 a4 ∧ I64 a5
theorem rdRegistration28 (h : DataW.trod enc Try.prog w 0 spare held fuel 28 cs = some x) : RdRegistration28 w w.heap.size cs := by
  obtain ⟨xs, n, _, _, hlen, hxl, hg⟩ := DataW.trod_struct Try.underlying28 h
  have hlen' : cs.length = 6 := hlen.trans (by kernel_rfl)
  obtain ⟨c0, c1, c2, c3, c4, c5, rfl⟩ := list6 hlen'
  have g0 : DataW.trod enc Try.prog w 0 spare held n 24 (List.take (Try.prog.cellsOf 24) (List.drop 0 [c0, c1, c2, c3, c4, c5])) = some (xs[0]'(by rw [hxl]; decide)) := (hg 0 _ rfl).trans (List.getElem?_eq_getElem (by rw [hxl]; decide))
  have g1 : DataW.trod enc Try.prog w 0 spare held n 3 (List.take (Try.prog.cellsOf 3) (List.drop 2 [c0, c1, c2, c3, c4, c5])) = some (xs[1]'(by rw [hxl]; decide)) := (hg 1 _ rfl).trans (List.getElem?_eq_getElem (by rw [hxl]; decide))
  have g2 : DataW.trod enc Try.prog w 0 spare held n 3 (List.take (Try.prog.cellsOf 3) (List.drop 3 [c0, c1, c2, c3, c4, c5])) = some (xs[2]'(by rw [hxl]; decide)) := (hg 2 _ rfl).trans (List.getElem?_eq_getElem (by rw [hxl]; decide))
  have g3 : DataW.trod enc Try.prog w 0 spare held n 26 (List.take (Try.prog.cellsOf 26) (List.drop 4 [c0, c1, c2, c3, c4, c5])) = some (xs[3]'(by rw [hxl]; decide)) := (hg 3 _ rfl).trans (List.getElem?_eq_getElem (by rw [hxl]; decide))
  rw [show Try.prog.cellsOf 24 = 2 by kernel_rfl] at g0
  obtain ⟨f0_0, f0_1, e0, w0_0, w0_1⟩ := rdSubscriberID24 g0
  simp only [List.drop, List.take, List.cons.injEq, and_true] at e0
  obtain ⟨rfl, rfl⟩ := e0
  rw [show Try.prog.cellsOf 3 = 1 by kernel_rfl] at g1
  obtain ⟨f1_0, e1, w1_0⟩ := rdInt3 g1
  simp only [List.drop, List.take, List.cons.injEq, and_true] at e1
  subst e1
  rw [show Try.prog.cellsOf 3 = 1 by kernel_rfl] at g2
  obtain ⟨f2_0, e2, w2_0⟩ := rdInt3 g2
  simp only [List.drop, List.take, List.cons.injEq, and_true] at e2
  subst e2
  rw [show Try.prog.cellsOf 26 = 2 by kernel_rfl] at g3
  obtain ⟨f3_0, f3_1, e3, w3_0, w3_1⟩ := rdTempID26 g3
  simp only [List.drop, List.take, List.cons.injEq, and_true] at e3
  obtain ⟨rfl, rfl⟩ := e3
  exact ⟨f0_0, f0_1, f1_0, f2_0, f3_0, f3_1, rfl, w0_0, w0_1, w1_0, w2_0, w3_0, w3_1⟩

def RdRegistrationS22 (w : World) (B : Nat) (cs : List Value) : Prop := ∃ (a0A : Option Addr) (a0n a0c : Nat) (a0y : List (List Int)), cs = [.slice a0A a0n a0c] ∧ IsRec 6 w B a0A a0n a0c a0y
theorem rdRegistrationS22 (h : DataW.trod enc Try.prog w 0 spare held fuel 22 cs = some x) : RdRegistrationS22 w w.heap.size cs := by
  obtain ⟨A, n, c, ys, hcs, hi⟩ := recs_of (m := 6) Try.underlying22 (by kernel_rfl) (by decide) h (fun n cs x h => by obtain ⟨z0, z1, z2, z3, z4, z5, e0, h0, h1, h2, h3, h4, h5⟩ := rdRegistration28 h; exact ⟨[z0, z1, z2, z3, z4, z5], e0, rfl, by simp only [List.forall_mem_cons]; exact ⟨h0, h1, h2, h3, h4, h5, by simp⟩⟩)
  exact ⟨A, n, c, ys, hcs, hi⟩

def RdBytes42 (w : World) (B : Nat) (cs : List Value) : Prop := ∃ (a0A : Option Addr) (a0n a0c : Nat) (a0z : List Int), cs = [.slice a0A a0n a0c] ∧ IsSl .u8 w B a0A a0n a0c a0z
theorem rdBytes42 (h : DataW.trod enc Try.prog w 0 spare held fuel 42 cs = some x) : RdBytes42 w w.heap.size cs := by
  rcases open_ints Try.underlying42 Try.underlying5 (by kernel_rfl) h with ⟨hcs, _⟩ | ⟨a, len, cap, zs, hcs, _, hl, hm, hz, _, hcell, hwz⟩
  · subst hcs
    exact ⟨none, 0, 0, [], rfl, Nat.le_refl _, Nat.zero_le _, Rd.nil_, by simp⟩
  · subst hcs
    have hlz : len ≤ zs.length := by rw [hz]; split <;> omega
    refine ⟨some a, len, cap, zs.take len, rfl, hl, hm, ⟨by simp; omega, fun hn => ?_⟩, fun z h => hwz z (List.mem_of_mem_take h)⟩
    obtain ⟨b, off, hab, hbb, hc⟩ := ints_at' hcell (by omega)
    subst hab
    refine ⟨b, off, rfl, hbb, fun j u hj => ?_⟩
    obtain ⟨hj1, hj2⟩ := List.getElem?_eq_some_iff.1 hj
    simp at hj1 hj2
    rw [hc j (by omega), ← hj2]
    simp [List.getD, List.getElem?_eq_getElem (show j < zs.length by omega)]

end

def InInt3 (w : World) (B : Nat) (v : Value) : Prop := ∃ (a0 : Int), v = .int .i64 a0 ∧ I64 a0
theorem inInt3 {H : Type} {enc : TypeId × Value → H} {w : World} {r : Reach} {b0 : Nat} {spare : Nat → Bool} {held : Bool} {v : Value} {d : DataW H} {p : List MemPlace} (hv : Value.okWide Try.prog w r b0 3 v) (h : DataW.Trod enc Try.prog w 0 spare held 3 v d p) : InInt3 w w.heap.size v := by
  obtain ⟨fuel, hf⟩ := h
  obtain ⟨n, rfl⟩ := okWide_int Try.underlying3 hv
  obtain ⟨a0, e, w0⟩ := rdInt3 (by simpa [Value.cells] using hf)
  simp only [List.cons.injEq, and_true] at e
  exact ⟨a0, e, w0⟩

def InSubscriberID24 (w : World) (B : Nat) (v : Value) : Prop := ∃ (a0 : Int) (a1 : Int), v = .agg #[.int .i64 a0, .int .i64 a1] ∧ I64 a0 ∧ I64 a1
theorem inSubscriberID24 {H : Type} {enc : TypeId × Value → H} {w : World} {r : Reach} {b0 : Nat} {spare : Nat → Bool} {held : Bool} {v : Value} {d : DataW H} {p : List MemPlace} (hv : Value.okWide Try.prog w r b0 24 v) (h : DataW.Trod enc Try.prog w 0 spare held 24 v d p) : InSubscriberID24 w w.heap.size v := by
  obtain ⟨fuel, hf⟩ := h
  obtain ⟨cs, rfl, _⟩ := okWide_struct Try.underlying24 hv
  obtain ⟨a0, a1, e, w0, w1⟩ := rdSubscriberID24 (cs := cs.toList) (by simpa [Value.cells] using hf)
  obtain ⟨l⟩ := cs
  simp only at e
  subst e
  exact ⟨a0, a1, rfl, w0, w1⟩

def InTempID26 (w : World) (B : Nat) (v : Value) : Prop := ∃ (a0 : Int) (a1 : Int), v = .agg #[.int .i64 a0, .int .i64 a1] ∧ I64 a0 ∧ I64 a1
theorem inTempID26 {H : Type} {enc : TypeId × Value → H} {w : World} {r : Reach} {b0 : Nat} {spare : Nat → Bool} {held : Bool} {v : Value} {d : DataW H} {p : List MemPlace} (hv : Value.okWide Try.prog w r b0 26 v) (h : DataW.Trod enc Try.prog w 0 spare held 26 v d p) : InTempID26 w w.heap.size v := by
  obtain ⟨fuel, hf⟩ := h
  obtain ⟨cs, rfl, _⟩ := okWide_struct Try.underlying26 hv
  obtain ⟨a0, a1, e, w0, w1⟩ := rdTempID26 (cs := cs.toList) (by simpa [Value.cells] using hf)
  obtain ⟨l⟩ := cs
  simp only at e
  subst e
  exact ⟨a0, a1, rfl, w0, w1⟩

def InRegistration28 (w : World) (B : Nat) (v : Value) : Prop := ∃ (a0 : Int) (a1 : Int) (a2 : Int) (a3 : Int) (a4 : Int) (a5 : Int), v = .agg #[.int .i64 a0, .int .i64 a1, .int .i64 a2, .int .i64 a3, .int .i64 a4, .int .i64 a5] ∧ I64 a0 ∧ I64 a1 ∧ I64 a2 ∧ I64 a3 ∧ I64 a4 ∧ I64 a5
theorem inRegistration28 {H : Type} {enc : TypeId × Value → H} {w : World} {r : Reach} {b0 : Nat} {spare : Nat → Bool} {held : Bool} {v : Value} {d : DataW H} {p : List MemPlace} (hv : Value.okWide Try.prog w r b0 28 v) (h : DataW.Trod enc Try.prog w 0 spare held 28 v d p) : InRegistration28 w w.heap.size v := by
  obtain ⟨fuel, hf⟩ := h
  obtain ⟨cs, rfl, _⟩ := okWide_struct Try.underlying28 hv
  obtain ⟨a0, a1, a2, a3, a4, a5, e, w0, w1, w2, w3, w4, w5⟩ := rdRegistration28 (cs := cs.toList) (by simpa [Value.cells] using hf)
  obtain ⟨l⟩ := cs
  simp only at e
  subst e
  exact ⟨a0, a1, a2, a3, a4, a5, rfl, w0, w1, w2, w3, w4, w5⟩

def InRegistrationS22 (w : World) (B : Nat) (v : Value) : Prop := ∃ (a0A : Option Addr) (a0n a0c : Nat) (a0y : List (List Int)), v = .slice a0A a0n a0c ∧ IsRec 6 w B a0A a0n a0c a0y
theorem inRegistrationS22 {H : Type} {enc : TypeId × Value → H} {w : World} {r : Reach} {b0 : Nat} {spare : Nat → Bool} {held : Bool} {v : Value} {d : DataW H} {p : List MemPlace} (hv : Value.okWide Try.prog w r b0 22 v) (h : DataW.Trod enc Try.prog w 0 spare held 22 v d p) : InRegistrationS22 w w.heap.size v := by
  obtain ⟨fuel, hf⟩ := h
  obtain ⟨A, n, c, rfl⟩ := okWide_slice Try.underlying22 hv
  obtain ⟨a0A, a0n, a0c, a0y, e, w0⟩ := rdRegistrationS22 (by simpa [Value.cells] using hf)
  simp only [List.cons.injEq, and_true] at e
  exact ⟨a0A, a0n, a0c, a0y, e, w0⟩

def InBytes42 (w : World) (B : Nat) (v : Value) : Prop := ∃ (a0A : Option Addr) (a0n a0c : Nat) (a0z : List Int), v = .slice a0A a0n a0c ∧ IsSl .u8 w B a0A a0n a0c a0z
theorem inBytes42 {H : Type} {enc : TypeId × Value → H} {w : World} {r : Reach} {b0 : Nat} {spare : Nat → Bool} {held : Bool} {v : Value} {d : DataW H} {p : List MemPlace} (hv : Value.okWide Try.prog w r b0 42 v) (h : DataW.Trod enc Try.prog w 0 spare held 42 v d p) : InBytes42 w w.heap.size v := by
  obtain ⟨fuel, hf⟩ := h
  obtain ⟨A, n, c, rfl⟩ := okWide_slice Try.underlying42 hv
  obtain ⟨a0A, a0n, a0c, a0z, e, w0⟩ := rdBytes42 (by simpa [Value.cells] using hf)
  simp only [List.cons.injEq, and_true] at e
  exact ⟨a0A, a0n, a0c, a0z, e, w0⟩

end Go.Proofs.Ytihecjcbgnpakaa
