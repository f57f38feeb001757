/-
  What each argument of this seat's laws reads as. Written by wip/tools/frame.py.
-/
import Derived.Test.YtpbempcbodoajaaBase
namespace Go.Proofs.Ytpbempcbodoajaa
open Go.RowKit Go.ChangeShapes Go.WideShapes Go.ChangeAt
set_option linter.unusedVariables false
set_option maxRecDepth 100000

section
variable {H : Type} {enc : TypeId × Value → H} {w : World} {spare : Nat → Bool} {held : Bool} {fuel : Nat} {cs : List Value} {x : DataW H × List MemPlace}

def RdInt3 (w : World) (B : Nat) (cs : List Value) : Prop := ∃ (a0 : Int), cs = [.int .i64 a0] ∧ I64 a0
theorem rdInt3 (h : DataW.trod enc Try.prog w 0 spare held fuel 3 cs = some x) : RdInt3 w w.heap.size cs := by
  obtain ⟨n, rfl, _, hw⟩ := DataW.trod_int Try.underlying3 h
  exact ⟨n, rfl, bounds_i64 hw⟩

def RdAuthVector23 (w : World) (B : Nat) (cs : List Value) : Prop := ∃ (a0 : Int) (a1 : Int) (a2 : Int) (a3 : Int) (a4 : Int), cs = [.int .i64 a0, .int .i64 a1, .int .i64 a2, .int .i64 a3, .int .i64 a4] ∧ I64 a0 ∧ I64 a1 ∧ I64 a2 ∧ I64 a3 ∧ I64 a4
theorem rdAuthVector23 (h : DataW.trod enc Try.prog w 0 spare held fuel 23 cs = some x) : RdAuthVector23 w w.heap.size cs := by
  obtain ⟨xs, n, _, _, hlen, hxl, hg⟩ := DataW.trod_struct Try.underlying23 h
  have hlen' : cs.length = 5 := hlen.trans (by kernel_rfl)
  obtain ⟨c0, c1, c2, c3, c4, rfl⟩ := list5 hlen'
  have g0 : DataW.trod enc Try.prog w 0 spare held n 3 (List.take (Try.prog.cellsOf 3) (List.drop 0 [c0, c1, c2, c3, c4])) = some (xs[0]'(by rw [hxl]; decide)) := (hg 0 _ rfl).trans (List.getElem?_eq_getElem (by rw [hxl]; decide))
  have g1 : DataW.trod enc Try.prog w 0 spare held n 3 (List.take (Try.prog.cellsOf 3) (List.drop 1 [c0, c1, c2, c3, c4])) = some (xs[1]'(by rw [hxl]; decide)) := (hg 1 _ rfl).trans (List.getElem?_eq_getElem (by rw [hxl]; decide))
  have g2 : DataW.trod enc Try.prog w 0 spare held n 3 (List.take (Try.prog.cellsOf 3) (List.drop 2 [c0, c1, c2, c3, c4])) = some (xs[2]'(by rw [hxl]; decide)) := (hg 2 _ rfl).trans (List.getElem?_eq_getElem (by rw [hxl]; decide))
  have g3 : DataW.trod enc Try.prog w 0 spare held n 3 (List.take (Try.prog.cellsOf 3) (List.drop 3 [c0, c1, c2, c3, c4])) = some (xs[3]'(by rw [hxl]; decide)) := (hg 3 _ rfl).trans (List.getElem?_eq_getElem (by rw [hxl]; decide))
  have g4 : DataW.trod enc Try.prog w 0 spare held n 3 (List.take (Try.prog.cellsOf 3) (List.drop 4 [c0, c1, c2, c3, c4])) = some (xs[4]'(by rw [hxl]; decide)) := (hg 4 _ rfl).trans (List.getElem?_eq_getElem (by rw [hxl]; decide))
  rw [show Try.prog.cellsOf 3 = 1 by kernel_rfl] at g0
  obtain ⟨f0_0, e0, w0_0⟩ := rdInt3 g0
  simp only [List.drop, List.take, List.cons.injEq, and_true] at e0
  subst e0
  rw [show Try.prog.cellsOf 3 = 1 by kernel_rfl] at g1
  obtain ⟨f1_0, e1, w1_0⟩ := rdInt3 g1
  simp only [List.drop, List.take, List.cons.injEq, and_true] at e1
  subst e1
  rw [show Try.prog.cellsOf 3 = 1 by kernel_rfl] at g2
  obtain ⟨f2_0, e2, w2_0⟩ := rdInt3 g2
  simp only [List.drop, List.take, List.cons.injEq, and_true] at e2
  subst e2
  rw [show Try.prog.cellsOf 3 = 1 by kernel_rfl] at g3
  obtain ⟨f3_0, e3, w3_0⟩ := rdInt3 g3
  simp only [List.drop, List.take, List.cons.injEq, and_true] at e3
  subst e3
  rw [show Try.prog.cellsOf 3 = 1 by kernel_rfl] at g4
  obtain ⟨f4_0, e4, w4_0⟩ := rdInt3 g4
  simp only [List.drop, List.take, List.cons.injEq, and_true] at e4
  subst e4
  exact ⟨f0_0, f1_0, f2_0, f3_0, f4_0, rfl, w0_0, w1_0, w2_0, w3_0, w4_0⟩

def RdSignal25 (w : World) (B : Nat) (cs : List Value) : Prop := ∃ (a0 : Int) (a1 : Int) (a2 : Int) (a3 : Int) (a4 : Int) (a5 : Int) (a6 : Int) (a7 : Int) (a8 : Int) (a9 : Int) (a10 : Int), cs = [.int .i64 a0, .int .i64 a1, .int .i64 a2, .int .i64 a3, .int .i64 a4, .int .i64 a5, .int .i64 a6, .int .i64 a7, .int .i64 a8, .int .i64 a9, .int .i64 a10] ∧ I64 a0 ∧ I64 a1 ∧ I64 a2 ∧ I64 a3 ∧ I64 a4 ∧ I64 a5 ∧ I64 a6 ∧ I64 a7 ∧ I64 a8 ∧ I64 a9 ∧ I64 a10
theorem rdSignal25 (h : DataW.trod enc Try.prog w 0 spare held fuel 25 cs = some x) : RdSignal25 w w.heap.size cs := by
  obtain ⟨xs, n, _, _, hlen, hxl, hg⟩ := DataW.trod_struct Try.underlying25 h
  have hlen' : cs.length = 11 := hlen.trans (by kernel_rfl)
  obtain ⟨c0, c1, c2, c3, c4, c5, c6, c7, c8, c9, c10, rfl⟩ := list11 hlen'
  have g0 : DataW.trod enc Try.prog w 0 spare held n 3 (List.take (Try.prog.cellsOf 3) (List.drop 0 [c0, c1, c2, c3, c4, c5, c6, c7, c8, c9, c10])) = some (xs[0]'(by rw [hxl]; decide)) := (hg 0 _ rfl).trans (List.getElem?_eq_getElem (by rw [hxl]; decide))
  have g1 : DataW.trod enc Try.prog w 0 spare held n 3 (List.take (Try.prog.cellsOf 3) (List.drop 1 [c0, c1, c2, c3, c4, c5, c6, c7, c8, c9, c10])) = some (xs[1]'(by rw [hxl]; decide)) := (hg 1 _ rfl).trans (List.getElem?_eq_getElem (by rw [hxl]; decide))
  have g2 : DataW.trod enc Try.prog w 0 spare held n 3 (List.take (Try.prog.cellsOf 3) (List.drop 2 [c0, c1, c2, c3, c4, c5, c6, c7, c8, c9, c10])) = some (xs[2]'(by rw [hxl]; decide)) := (hg 2 _ rfl).trans (List.getElem?_eq_getElem (by rw [hxl]; decide))
  have g3 : DataW.trod enc Try.prog w 0 spare held n 3 (List.take (Try.prog.cellsOf 3) (List.drop 3 [c0, c1, c2, c3, c4, c5, c6, c7, c8, c9, c10])) = some (xs[3]'(by rw [hxl]; decide)) := (hg 3 _ rfl).trans (List.getElem?_eq_getElem (by rw [hxl]; decide))
  have g4 : DataW.trod enc Try.prog w 0 spare held n 3 (List.take (Try.prog.cellsOf 3) (List.drop 4 [c0, c1, c2, c3, c4, c5, c6, c7, c8, c9, c10])) = some (xs[4]'(by rw [hxl]; decide)) := (hg 4 _ rfl).trans (List.getElem?_eq_getElem (by rw [hxl]; decide))
  have g5 : DataW.trod enc Try.prog w 0 spare held n 23 (List.take (Try.prog.cellsOf 23) (List.drop 5 [c0, c1, c2, c3, c4, c5, c6, c7, c8, c9, c10])) = some (xs[5]'(by rw [hxl]; decide)) := (hg 5 _ rfl).trans (List.getElem?_eq_getElem (by rw [hxl]; decide))
  have g6 : DataW.trod enc Try.prog w 0 spare held n 3 (List.take (Try.prog.cellsOf 3) (List.drop 10 [c0, c1, c2, c3, c4, c5, c6, c7, c8, c9, c10])) = some (xs[6]'(by rw [hxl]; decide)) := (hg 6 _ rfl).trans (List.getElem?_eq_getElem (by rw [hxl]; decide))
  rw [show Try.prog.cellsOf 3 = 1 by kernel_rfl] at g0
  obtain ⟨f0_0, e0, w0_0⟩ := rdInt3 g0
  simp only [List.drop, List.take, List.cons.injEq, and_true] at e0
  subst e0
  rw [show Try.prog.cellsOf 3 = 1 by kernel_rfl] at g1
  obtain ⟨f1_0, e1, w1_0⟩ := rdInt3 g1
  simp only [List.drop, List.take, List.cons.injEq, and_true] at e1
  subst e1
  rw [show Try.prog.cellsOf 3 = 1 by kernel_rfl] at g2
  obtain ⟨f2_0, e2, w2_0⟩ := rdInt3 g2
  simp only [List.drop, List.take, List.cons.injEq, and_true] at e2
  subst e2
  rw [show Try.prog.cellsOf 3 = 1 by kernel_rfl] at g3
  obtain ⟨f3_0, e3, w3_0⟩ := rdInt3 g3
  simp only [List.drop, List.take, List.cons.injEq, and_true] at e3
  subst e3
  rw [show Try.prog.cellsOf 3 = 1 by kernel_rfl] at g4
  obtain ⟨f4_0, e4, w4_0⟩ := rdInt3 g4
  simp only [List.drop, List.take, List.cons.injEq, and_true] at e4
  subst e4
  rw [show Try.prog.cellsOf 23 = 5 by kernel_rfl] at g5
  obtain ⟨f5_0, f5_1, f5_2, f5_3, f5_4, e5, w5_0, w5_1, w5_2, w5_3, w5_4⟩ := rdAuthVector23 g5
  simp only [List.drop, List.take, List.cons.injEq, and_true] at e5
  obtain ⟨rfl, rfl, rfl, rfl, rfl⟩ := e5
  rw [show Try.prog.cellsOf 3 = 1 by kernel_rfl] at g6
  obtain ⟨f6_0, e6, w6_0⟩ := rdInt3 g6
  simp only [List.drop, List.take, List.cons.injEq, and_true] at e6
  subst e6
  exact ⟨f0_0, f1_0, f2_0, f3_0, f4_0, f5_0, f5_1, f5_2, f5_3, f5_4, f6_0, rfl, w0_0, w1_0, w2_0, w3_0, w4_0, w5_0, w5_1, w5_2, w5_3, w5_4, w6_0⟩

def RdSubscriberID33 (w : World) (B : Nat) (cs : List Value) : Prop := ∃ (a0 : Int) (a1 : Int), cs = [.int .i64 a0, .int .i64 a1] ∧ I64 a0 ∧ I64 a1
theorem rdSubscriberID33 (h : DataW.trod enc Try.prog w 0 spare held fuel 33 cs = some x) : RdSubscriberID33 w w.heap.size cs := by
  obtain ⟨xs, n, _, _, hlen, hxl, hg⟩ := DataW.trod_struct Try.underlying33 h
  have hlen' : cs.length = 2 := hlen.trans (by kernel_rfl)
  obtain ⟨c0, c1, rfl⟩ := list2 hlen'
  have g0 : DataW.trod enc Try.prog w 0 spare held n 3 (List.take (Try.prog.cellsOf 3) (List.drop 0 [c0, c1])) = some (xs[0]'(by rw [hxl]; decide)) := (hg 0 _ rfl).trans (List.getElem?_eq_getElem (by rw [hxl]; decide))
  have g1 : DataW.trod enc Try.prog w 0 spare held n 3 (List.take (Try.prog.cellsOf 3) (List.drop 1 [c0, c1])) = some (xs[1]'(by rw [hxl]; decide)) := (hg 1 _ rfl).trans (List.getElem?_eq_getElem (by rw [hxl]; decide))
  rw [show Try.prog.cellsOf 3 = 1 by kernel_rfl] at g0
  obtain ⟨f0_0, e0, w0_0⟩ := rdInt3 g0
  simp only [List.drop, List.take, List.cons.injEq, and_true] at e0
  subst e0
  rw [show Try.prog.cellsOf 3 = 1 by kernel_rfl] at g1
  obtain ⟨f1_0, e1, w1_0⟩ := rdInt3 g1
  simp only [List.drop, List.take, List.cons.injEq, and_true] at e1
  subst e1
  exact ⟨f0_0, f1_0, rfl, w0_0, w1_0⟩

def RdBytes43 (w : World) (B : Nat) (cs : List Value) : Prop := ∃ (a0A : Option Addr) (a0n a0c : Nat) (a0z : List Int), cs = [.slice a0A a0n a0c] ∧ IsSl .u8 w B a0A a0n a0c a0z
theorem rdBytes43 (h : DataW.trod enc Try.prog w 0 spare held fuel 43 cs = some x) : RdBytes43 w w.heap.size cs := by
  rcases open_ints Try.underlying43 Try.underlying5 (by kernel_rfl) h with ⟨hcs, _⟩ | ⟨a, len, cap, zs, hcs, _, hl, hm, hz, _, hcell, hwz⟩
  · subst hcs
    exact ⟨none, 0, 0, [], rfl, Nat.le_refl _, Nat.zero_le _, Rd.nil_, by simp⟩
  · subst hcs
    have hlz : len ≤ zs.length := by rw [hz]; split <;> omega
    refine ⟨some a, len, cap, zs.take len, rfl, hl, hm, ⟨by simp; omega, fun hn => ?_⟩, fun z h => hwz z (List.mem_of_mem_take h)⟩
    obtain ⟨b, off, hab, hbb, hc⟩ := ints_at' hcell (by omega)
    subst hab
    refine ⟨b, off, rfl, hbb, fun j u hj => ?_⟩
    obtain ⟨hj1, hj2⟩ := List.getElem?_eq_some_iff.1 hj
    simp at hj1 hj2
    rw [hc j (by omega), ← hj2]
    simp [List.getD, List.getElem?_eq_getElem (show j < zs.length by omega)]

end

def InInt3 (w : World) (B : Nat) (v : Value) : Prop := ∃ (a0 : Int), v = .int .i64 a0 ∧ I64 a0
theorem inInt3 {H : Type} {enc : TypeId × Value → H} {w : World} {r : Reach} {b0 : Nat} {spare : Nat → Bool} {held : Bool} {v : Value} {d : DataW H} {p : List MemPlace} (hv : Value.okWide Try.prog w r b0 3 v) (h : DataW.Trod enc Try.prog w 0 spare held 3 v d p) : InInt3 w w.heap.size v := by
  obtain ⟨fuel, hf⟩ := h
  obtain ⟨n, rfl⟩ := okWide_int Try.underlying3 hv
  obtain ⟨a0, e, w0⟩ := rdInt3 (by simpa [Value.cells] using hf)
  simp only [List.cons.injEq, and_true] at e
  exact ⟨a0, e, w0⟩

def InAuthVector23 (w : World) (B : Nat) (v : Value) : Prop := ∃ (a0 : Int) (a1 : Int) (a2 : Int) (a3 : Int) (a4 : Int), v = .agg #[.int .i64 a0, .int .i64 a1, .int .i64 a2, .int .i64 a3, .int .i64 a4] ∧ I64 a0 ∧ I64 a1 ∧ I64 a2 ∧ I64 a3 ∧ I64 a4
theorem inAuthVector23 {H : Type} {enc : TypeId × Value → H} {w : World} {r : Reach} {b0 : Nat} {spare : Nat → Bool} {held : Bool} {v : Value} {d : DataW H} {p : List MemPlace} (hv : Value.okWide Try.prog w r b0 23 v) (h : DataW.Trod enc Try.prog w 0 spare held 23 v d p) : InAuthVector23 w w.heap.size v := by
  obtain ⟨fuel, hf⟩ := h
  obtain ⟨cs, rfl, _⟩ := okWide_struct Try.underlying23 hv
  obtain ⟨a0, a1, a2, a3, a4, e, w0, w1, w2, w3, w4⟩ := rdAuthVector23 (cs := cs.toList) (by simpa [Value.cells] using hf)
  obtain ⟨l⟩ := cs
  simp only at e
  subst e
  exact ⟨a0, a1, a2, a3, a4, rfl, w0, w1, w2, w3, w4⟩

def InSignal25 (w : World) (B : Nat) (v : Value) : Prop := ∃ (a0 : Int) (a1 : Int) (a2 : Int) (a3 : Int) (a4 : Int) (a5 : Int) (a6 : Int) (a7 : Int) (a8 : Int) (a9 : Int) (a10 : Int), v = .agg #[.int .i64 a0, .int .i64 a1, .int .i64 a2, .int .i64 a3, .int .i64 a4, .int .i64 a5, .int .i64 a6, .int .i64 a7, .int .i64 a8, .int .i64 a9, .int .i64 a10] ∧ I64 a0 ∧ I64 a1 ∧ I64 a2 ∧ I64 a3 ∧ I64 a4 ∧ I64 a5 ∧ I64 a6 ∧ I64 a7 ∧ I64 a8 ∧ I64 a9 ∧ I64 a10
theorem inSignal25 {H : Type} {enc : TypeId × Value → H} {w : World} {r : Reach} {b0 : Nat} {spare : Nat → Bool} {held : Bool} {v : Value} {d : DataW H} {p : List MemPlace} (hv : Value.okWide Try.prog w r b0 25 v) (h : DataW.Trod enc Try.prog w 0 spare held 25 v d p) : InSignal25 w w.heap.size v := by
  obtain ⟨fuel, hf⟩ := h
  obtain ⟨cs, rfl, _⟩ := okWide_struct Try.underlying25 hv
  obtain ⟨a0, a1, a2, a3, a4, a5, a6, a7, a8, a9, a10, e, w0, w1, w2, w3, w4, w5, w6, w7, w8, w9, w10⟩ := rdSignal25 (cs := cs.toList) (by simpa [Value.cells] using hf)
  obtain ⟨l⟩ := cs
  simp only at e
  subst e
  exact ⟨a0, a1, a2, a3, a4, a5, a6, a7, a8, a9, a10, rfl, w0, w1, w2, w3, w4, w5, w6, w7, w8, w9, w10⟩

def InSubscriberID33 (w : World) (B : Nat) (v : Value) : Prop := ∃ (a0 : Int) (a1 : Int), v = .agg #[.int .i64 a0, .int .i64 a1] ∧ I64 a0 ∧ I64 a1
theorem inSubscriberID33 {H : Type} {enc : TypeId × Value → H} {w : World} {r : Reach} {b0 : Nat} {spare : Nat → Bool} {held : Bool} {v : Value} {d : DataW H} {p : List MemPlace} (hv : Value.okWide Try.prog w r b0 33 v) (h : DataW.Trod enc Try.prog w 0 spare held 33 v d p) : InSubscriberID33 w w.heap.size v := by
  obtain ⟨fuel, hf⟩ := h
  obtain ⟨cs, rfl, _⟩ := okWide_struct Try.underlying33 hv
  obtain ⟨a0, a1, e, w0, w1⟩ := rdSubscriberID33 (cs := cs.toList) (by simpa [Value.cells] using hf)
  obtain ⟨l⟩ := cs
  simp only at e
  subst e
  exact ⟨a0, a1, rfl, w0, w1⟩

def InBytes43 (w : World) (B : Nat) (v : Value) : Prop := ∃ (a0A : Option Addr) (a0n a0c : Nat) (a0z : List Int), v = .slice a0A a0n a0c ∧ IsSl .u8 w B a0A a0n a0c a0z
theorem inBytes43 {H : Type} {enc : TypeId × Value → H} {w : World} {r : Reach} {b0 : Nat} {spare : Nat → Bool} {held : Bool} {v : Value} {d : DataW H} {p : List MemPlace} (hv : Value.okWide Try.prog w r b0 43 v) (h : DataW.Trod enc Try.prog w 0 spare held 43 v d p) : InBytes43 w w.heap.size v := by
  obtain ⟨fuel, hf⟩ := h
  obtain ⟨A, n, c, rfl⟩ := okWide_slice Try.underlying43 hv
  obtain ⟨a0A, a0n, a0c, a0z, e, w0⟩ := rdBytes43 (by simpa [Value.cells] using hf)
  simp only [List.cons.injEq, and_true] at e
  exact ⟨a0A, a0n, a0c, a0z, e, w0⟩

end Go.Proofs.Ytpbempcbodoajaa
