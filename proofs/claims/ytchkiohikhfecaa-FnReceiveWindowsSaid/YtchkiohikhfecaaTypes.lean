/-
  What each argument of this seat's laws reads as. Written by wip/tools/frame.py.
-/
import Derived.Test.YtchkiohikhfecaaDeep
namespace Go.Proofs.Ytchkiohikhfecaa
open Go.RowKit Go.ChangeShapes Go.WideShapes Go.ChangeAt
set_option linter.unusedVariables false
set_option maxRecDepth 100000

section
variable {H : Type} {enc : TypeId × Value → H} {w : World} {spare : Nat → Bool} {held : Bool} {fuel : Nat} {cs : List Value} {x : DataW H × List MemPlace}

def RdInt3 (w : World) (B : Nat) (cs : List Value) : Prop := ∃ (a0 : Int), cs = [.int .i64 a0] ∧ I64 a0
theorem rdInt3 (h : DataW.trod enc Try.prog w 0 spare held fuel 3 cs = some x) : RdInt3 w w.heap.size cs := by
  obtain ⟨n, rfl, _, hw⟩ := DataW.trod_int Try.underlying3 h
  exact ⟨n, rfl, bounds_i64 hw⟩

def RdBytes26 (w : World) (B : Nat) (cs : List Value) : Prop := ∃ (a0A : Option Addr) (a0n a0c : Nat) (a0z : List Int), cs = [.slice a0A a0n a0c] ∧ IsSl .u8 w B a0A a0n a0c a0z
theorem rdBytes26 (h : DataW.trod enc Try.prog w 0 spare held fuel 26 cs = some x) : RdBytes26 w w.heap.size cs := by
  rcases open_ints Try.underlying26 Try.underlying5 (by kernel_rfl) h with ⟨hcs, _⟩ | ⟨a, len, cap, zs, hcs, _, hl, hm, hz, _, hcell, hwz⟩
  · subst hcs
    exact ⟨none, 0, 0, [], rfl, Nat.le_refl _, Nat.zero_le _, Rd.nil_, by simp⟩
  · subst hcs
    have hlz : len ≤ zs.length := by rw [hz]; split <;> omega
    refine ⟨some a, len, cap, zs.take len, rfl, hl, hm, ⟨by simp; omega, fun hn => ?_⟩, fun z h => hwz z (List.mem_of_mem_take h)⟩
    obtain ⟨b, off, hab, hbb, hc⟩ := ints_at' hcell (by omega)
    subst hab
    refine ⟨b, off, rfl, hbb, fun j u hj => ?_⟩
    obtain ⟨hj1, hj2⟩ := List.getElem?_eq_some_iff.1 hj
    simp at hj1 hj2
    rw [hc j (by omega), ← hj2]
    simp [List.getD, List.getElem?_eq_getElem (show j < zs.length by omega)]

def RdNumberedPacket28 (w : World) (B : Nat) (cs : List Value) : Prop := ∃ (a0 : Int) (a1A : Option Addr) (a1n a1c : Nat) (a1z : List Int), cs = [.int .i64 a0, .slice a1A a1n a1c] ∧ I64 a0 ∧ IsSl .u8 w B a1A a1n a1c a1z
theorem rdNumberedPacket28 (h : DataW.trod enc Try.prog w 0 spare held fuel 28 cs = some x) : RdNumberedPacket28 w w.heap.size cs := by
  obtain ⟨xs, n, _, _, hlen, hxl, hg⟩ := DataW.trod_struct Try.underlying28 h
  have hlen' : cs.length = 2 := hlen.trans (by kernel_rfl)
  obtain ⟨c0, c1, rfl⟩ := list2 hlen'
  have g0 : DataW.trod enc Try.prog w 0 spare held n 3 (List.take (Try.prog.cellsOf 3) (List.drop 0 [c0, c1])) = some (xs[0]'(by rw [hxl]; decide)) := (hg 0 _ rfl).trans (List.getElem?_eq_getElem (by rw [hxl]; decide))
  have g1 : DataW.trod enc Try.prog w 0 spare held n 26 (List.take (Try.prog.cellsOf 26) (List.drop 1 [c0, c1])) = some (xs[1]'(by rw [hxl]; decide)) := (hg 1 _ rfl).trans (List.getElem?_eq_getElem (by rw [hxl]; decide))
  rw [show Try.prog.cellsOf 3 = 1 by kernel_rfl] at g0
  obtain ⟨f0_0, e0, w0_0⟩ := rdInt3 g0
  simp only [List.drop, List.take, List.cons.injEq, and_true] at e0
  subst e0
  rw [show Try.prog.cellsOf 26 = 1 by kernel_rfl] at g1
  obtain ⟨f1_0A, f1_0n, f1_0c, f1_0z, e1, w1_0⟩ := rdBytes26 g1
  simp only [List.drop, List.take, List.cons.injEq, and_true] at e1
  subst e1
  exact ⟨f0_0, f1_0A, f1_0n, f1_0c, f1_0z, rfl, w0_0, w1_0⟩

def RdNumberedPacketS22 (w : World) (B : Nat) (cs : List Value) : Prop := ∃ (a0A : Option Addr) (a0n a0c : Nat) (a0y : List It), cs = [.slice a0A a0n a0c] ∧ IsIt .u8 true w B a0A a0n a0c a0y
theorem rdNumberedPacketS22 (h : DataW.trod enc Try.prog w 0 spare held fuel 22 cs = some x) : RdNumberedPacketS22 w w.heap.size cs := by
  obtain ⟨A, n, c, ys, hcs, hi⟩ := its_of (κ := .u8) (p := true) Try.underlying22 (by kernel_rfl) h (fun n cs x h => el_true (rdNumberedPacket28 h))
  exact ⟨A, n, c, ys, hcs, hi⟩

def RdPayload105 (w : World) (B : Nat) (cs : List Value) : Prop := ∃ (a0A : Option Addr) (a0n a0c : Nat) (a0z : List Int), cs = [.slice a0A a0n a0c] ∧ IsSl .u8 w B a0A a0n a0c a0z
theorem rdPayload105 (h : DataW.trod enc Try.prog w 0 spare held fuel 105 cs = some x) : RdPayload105 w w.heap.size cs := by
  obtain ⟨xs, n, _, _, hlen, hxl, hg⟩ := DataW.trod_struct Try.underlying105 h
  have hlen' : cs.length = 1 := hlen.trans (by kernel_rfl)
  obtain ⟨c0, rfl⟩ := list1 hlen'
  have g0 : DataW.trod enc Try.prog w 0 spare held n 26 (List.take (Try.prog.cellsOf 26) (List.drop 0 [c0])) = some (xs[0]'(by rw [hxl]; decide)) := (hg 0 _ rfl).trans (List.getElem?_eq_getElem (by rw [hxl]; decide))
  rw [show Try.prog.cellsOf 26 = 1 by kernel_rfl] at g0
  obtain ⟨f0_0A, f0_0n, f0_0c, f0_0z, e0, w0_0⟩ := rdBytes26 g0
  simp only [List.drop, List.take, List.cons.injEq, and_true] at e0
  subst e0
  exact ⟨f0_0A, f0_0n, f0_0c, f0_0z, rfl, w0_0⟩

def RdPayloadS23 (w : World) (B : Nat) (cs : List Value) : Prop := ∃ (a0A : Option Addr) (a0n a0c : Nat) (a0y : List It), cs = [.slice a0A a0n a0c] ∧ IsIt .u8 false w B a0A a0n a0c a0y
theorem rdPayloadS23 (h : DataW.trod enc Try.prog w 0 spare held fuel 23 cs = some x) : RdPayloadS23 w w.heap.size cs := by
  obtain ⟨A, n, c, ys, hcs, hi⟩ := its_of (κ := .u8) (p := false) Try.underlying23 (by kernel_rfl) h (fun n cs x h => el_false (rdPayload105 h))
  exact ⟨A, n, c, ys, hcs, hi⟩

def RdReceiveWindow25 (w : World) (B : Nat) (cs : List Value) : Prop := ∃ (a0 : Int) (a1A : Option Addr) (a1n a1c : Nat) (a1y : List It) (a2A : Option Addr) (a2n a2c : Nat) (a2y : List It), cs = [.int .i64 a0, .slice a1A a1n a1c, .slice a2A a2n a2c] ∧ I64 a0 ∧ IsIt .u8 true w B a1A a1n a1c a1y ∧ IsIt .u8 false w B a2A a2n a2c a2y
theorem rdReceiveWindow25 (h : DataW.trod enc Try.prog w 0 spare held fuel 25 cs = some x) : RdReceiveWindow25 w w.heap.size cs := by
  obtain ⟨xs, n, _, _, hlen, hxl, hg⟩ := DataW.trod_struct Try.underlying25 h
  have hlen' : cs.length = 3 := hlen.trans (by kernel_rfl)
  obtain ⟨c0, c1, c2, rfl⟩ := list3 hlen'
  have g0 : DataW.trod enc Try.prog w 0 spare held n 3 (List.take (Try.prog.cellsOf 3) (List.drop 0 [c0, c1, c2])) = some (xs[0]'(by rw [hxl]; decide)) := (hg 0 _ rfl).trans (List.getElem?_eq_getElem (by rw [hxl]; decide))
  have g1 : DataW.trod enc Try.prog w 0 spare held n 22 (List.take (Try.prog.cellsOf 22) (List.drop 1 [c0, c1, c2])) = some (xs[1]'(by rw [hxl]; decide)) := (hg 1 _ rfl).trans (List.getElem?_eq_getElem (by rw [hxl]; decide))
  have g2 : DataW.trod enc Try.prog w 0 spare held n 23 (List.take (Try.prog.cellsOf 23) (List.drop 2 [c0, c1, c2])) = some (xs[2]'(by rw [hxl]; decide)) := (hg 2 _ rfl).trans (List.getElem?_eq_getElem (by rw [hxl]; decide))
  rw [show Try.prog.cellsOf 3 = 1 by kernel_rfl] at g0
  obtain ⟨f0_0, e0, w0_0⟩ := rdInt3 g0
  simp only [List.drop, List.take, List.cons.injEq, and_true] at e0
  subst e0
  rw [show Try.prog.cellsOf 22 = 1 by kernel_rfl] at g1
  obtain ⟨f1_0A, f1_0n, f1_0c, f1_0y, e1, w1_0⟩ := rdNumberedPacketS22 g1
  simp only [List.drop, List.take, List.cons.injEq, and_true] at e1
  subst e1
  rw [show Try.prog.cellsOf 23 = 1 by kernel_rfl] at g2
  obtain ⟨f2_0A, f2_0n, f2_0c, f2_0y, e2, w2_0⟩ := rdPayloadS23 g2
  simp only [List.drop, List.take, List.cons.injEq, and_true] at e2
  subst e2
  exact ⟨f0_0, f1_0A, f1_0n, f1_0c, f1_0y, f2_0A, f2_0n, f2_0c, f2_0y, rfl, w0_0, w1_0, w2_0⟩

def RdSendWindow51 (w : World) (B : Nat) (cs : List Value) : Prop := ∃ (a0 : Int) (a1A : Option Addr) (a1n a1c : Nat) (a1y : List It), cs = [.int .i64 a0, .slice a1A a1n a1c] ∧ I64 a0 ∧ IsIt .u8 true w B a1A a1n a1c a1y
theorem rdSendWindow51 (h : DataW.trod enc Try.prog w 0 spare held fuel 51 cs = some x) : RdSendWindow51 w w.heap.size cs := by
  obtain ⟨xs, n, _, _, hlen, hxl, hg⟩ := DataW.trod_struct Try.underlying51 h
  have hlen' : cs.length = 2 := hlen.trans (by kernel_rfl)
  obtain ⟨c0, c1, rfl⟩ := list2 hlen'
  have g0 : DataW.trod enc Try.prog w 0 spare held n 3 (List.take (Try.prog.cellsOf 3) (List.drop 0 [c0, c1])) = some (xs[0]'(by rw [hxl]; decide)) := (hg 0 _ rfl).trans (List.getElem?_eq_getElem (by rw [hxl]; decide))
  have g1 : DataW.trod enc Try.prog w 0 spare held n 22 (List.take (Try.prog.cellsOf 22) (List.drop 1 [c0, c1])) = some (xs[1]'(by rw [hxl]; decide)) := (hg 1 _ rfl).trans (List.getElem?_eq_getElem (by rw [hxl]; decide))
  rw [show Try.prog.cellsOf 3 = 1 by kernel_rfl] at g0
  obtain ⟨f0_0, e0, w0_0⟩ := rdInt3 g0
  simp only [List.drop, List.take, List.cons.injEq, and_true] at e0
  subst e0
  rw [show Try.prog.cellsOf 22 = 1 by kernel_rfl] at g1
  obtain ⟨f1_0A, f1_0n, f1_0c, f1_0y, e1, w1_0⟩ := rdNumberedPacketS22 g1
  simp only [List.drop, List.take, List.cons.injEq, and_true] at e1
  subst e1
  exact ⟨f0_0, f1_0A, f1_0n, f1_0c, f1_0y, rfl, w0_0, w1_0⟩

def RdPagingBuffer61 (w : World) (B : Nat) (cs : List Value) : Prop := ∃ (a0 : Int) (a1A : Option Addr) (a1n a1c : Nat) (a1y : List It) (a2 : Int), cs = [.int .i64 a0, .slice a1A a1n a1c, .int .i64 a2] ∧ I64 a0 ∧ IsIt .u8 false w B a1A a1n a1c a1y ∧ I64 a2
theorem rdPagingBuffer61 (h : DataW.trod enc Try.prog w 0 spare held fuel 61 cs = some x) : RdPagingBuffer61 w w.heap.size cs := by
  obtain ⟨xs, n, _, _, hlen, hxl, hg⟩ := DataW.trod_struct Try.underlying61 h
  have hlen' : cs.length = 3 := hlen.trans (by kernel_rfl)
  obtain ⟨c0, c1, c2, rfl⟩ := list3 hlen'
  have g0 : DataW.trod enc Try.prog w 0 spare held n 3 (List.take (Try.prog.cellsOf 3) (List.drop 0 [c0, c1, c2])) = some (xs[0]'(by rw [hxl]; decide)) := (hg 0 _ rfl).trans (List.getElem?_eq_getElem (by rw [hxl]; decide))
  have g1 : DataW.trod enc Try.prog w 0 spare held n 23 (List.take (Try.prog.cellsOf 23) (List.drop 1 [c0, c1, c2])) = some (xs[1]'(by rw [hxl]; decide)) := (hg 1 _ rfl).trans (List.getElem?_eq_getElem (by rw [hxl]; decide))
  have g2 : DataW.trod enc Try.prog w 0 spare held n 3 (List.take (Try.prog.cellsOf 3) (List.drop 2 [c0, c1, c2])) = some (xs[2]'(by rw [hxl]; decide)) := (hg 2 _ rfl).trans (List.getElem?_eq_getElem (by rw [hxl]; decide))
  rw [show Try.prog.cellsOf 3 = 1 by kernel_rfl] at g0
  obtain ⟨f0_0, e0, w0_0⟩ := rdInt3 g0
  simp only [List.drop, List.take, List.cons.injEq, and_true] at e0
  subst e0
  rw [show Try.prog.cellsOf 23 = 1 by kernel_rfl] at g1
  obtain ⟨f1_0A, f1_0n, f1_0c, f1_0y, e1, w1_0⟩ := rdPayloadS23 g1
  simp only [List.drop, List.take, List.cons.injEq, and_true] at e1
  subst e1
  rw [show Try.prog.cellsOf 3 = 1 by kernel_rfl] at g2
  obtain ⟨f2_0, e2, w2_0⟩ := rdInt3 g2
  simp only [List.drop, List.take, List.cons.injEq, and_true] at e2
  subst e2
  exact ⟨f0_0, f1_0A, f1_0n, f1_0c, f1_0y, f2_0, rfl, w0_0, w1_0, w2_0⟩

end

def InInt3 (w : World) (B : Nat) (v : Value) : Prop := ∃ (a0 : Int), v = .int .i64 a0 ∧ I64 a0
theorem inInt3 {H : Type} {enc : TypeId × Value → H} {w : World} {r : Reach} {b0 : Nat} {spare : Nat → Bool} {held : Bool} {v : Value} {d : DataW H} {p : List MemPlace} (hv : Value.okWide Try.prog w r b0 3 v) (h : DataW.Trod enc Try.prog w 0 spare held 3 v d p) : InInt3 w w.heap.size v := by
  obtain ⟨fuel, hf⟩ := h
  obtain ⟨n, rfl⟩ := okWide_int Try.underlying3 hv
  obtain ⟨a0, e, w0⟩ := rdInt3 (by simpa [Value.cells] using hf)
  simp only [List.cons.injEq, and_true] at e
  exact ⟨a0, e, w0⟩

def InBytes26 (w : World) (B : Nat) (v : Value) : Prop := ∃ (a0A : Option Addr) (a0n a0c : Nat) (a0z : List Int), v = .slice a0A a0n a0c ∧ IsSl .u8 w B a0A a0n a0c a0z
theorem inBytes26 {H : Type} {enc : TypeId × Value → H} {w : World} {r : Reach} {b0 : Nat} {spare : Nat → Bool} {held : Bool} {v : Value} {d : DataW H} {p : List MemPlace} (hv : Value.okWide Try.prog w r b0 26 v) (h : DataW.Trod enc Try.prog w 0 spare held 26 v d p) : InBytes26 w w.heap.size v := by
  obtain ⟨fuel, hf⟩ := h
  obtain ⟨A, n, c, rfl⟩ := okWide_slice Try.underlying26 hv
  obtain ⟨a0A, a0n, a0c, a0z, e, w0⟩ := rdBytes26 (by simpa [Value.cells] using hf)
  simp only [List.cons.injEq, and_true] at e
  exact ⟨a0A, a0n, a0c, a0z, e, w0⟩

def InNumberedPacket28 (w : World) (B : Nat) (v : Value) : Prop := ∃ (a0 : Int) (a1A : Option Addr) (a1n a1c : Nat) (a1z : List Int), v = .agg #[.int .i64 a0, .slice a1A a1n a1c] ∧ I64 a0 ∧ IsSl .u8 w B a1A a1n a1c a1z
theorem inNumberedPacket28 {H : Type} {enc : TypeId × Value → H} {w : World} {r : Reach} {b0 : Nat} {spare : Nat → Bool} {held : Bool} {v : Value} {d : DataW H} {p : List MemPlace} (hv : Value.okWide Try.prog w r b0 28 v) (h : DataW.Trod enc Try.prog w 0 spare held 28 v d p) : InNumberedPacket28 w w.heap.size v := by
  obtain ⟨fuel, hf⟩ := h
  obtain ⟨cs, rfl, _⟩ := okWide_struct Try.underlying28 hv
  obtain ⟨a0, a1A, a1n, a1c, a1z, e, w0, w1⟩ := rdNumberedPacket28 (cs := cs.toList) (by simpa [Value.cells] using hf)
  obtain ⟨l⟩ := cs
  simp only at e
  subst e
  exact ⟨a0, a1A, a1n, a1c, a1z, rfl, w0, w1⟩

def InNumberedPacketS22 (w : World) (B : Nat) (v : Value) : Prop := ∃ (a0A : Option Addr) (a0n a0c : Nat) (a0y : List It), v = .slice a0A a0n a0c ∧ IsIt .u8 true w B a0A a0n a0c a0y
theorem inNumberedPacketS22 {H : Type} {enc : TypeId × Value → H} {w : World} {r : Reach} {b0 : Nat} {spare : Nat → Bool} {held : Bool} {v : Value} {d : DataW H} {p : List MemPlace} (hv : Value.okWide Try.prog w r b0 22 v) (h : DataW.Trod enc Try.prog w 0 spare held 22 v d p) : InNumberedPacketS22 w w.heap.size v := by
  obtain ⟨fuel, hf⟩ := h
  obtain ⟨A, n, c, rfl⟩ := okWide_slice Try.underlying22 hv
  obtain ⟨a0A, a0n, a0c, a0y, e, w0⟩ := rdNumberedPacketS22 (by simpa [Value.cells] using hf)
  simp only [List.cons.injEq, and_true] at e
  exact ⟨a0A, a0n, a0c, a0y, e, w0⟩

def InPayload105 (w : World) (B : Nat) (v : Value) : Prop := ∃ (a0A : Option Addr) (a0n a0c : Nat) (a0z : List Int), v = .agg #[.slice a0A a0n a0c] ∧ IsSl .u8 w B a0A a0n a0c a0z
theorem inPayload105 {H : Type} {enc : TypeId × Value → H} {w : World} {r : Reach} {b0 : Nat} {spare : Nat → Bool} {held : Bool} {v : Value} {d : DataW H} {p : List MemPlace} (hv : Value.okWide Try.prog w r b0 105 v) (h : DataW.Trod enc Try.prog w 0 spare held 105 v d p) : InPayload105 w w.heap.size v := by
  obtain ⟨fuel, hf⟩ := h
  obtain ⟨cs, rfl, _⟩ := okWide_struct Try.underlying105 hv
  obtain ⟨a0A, a0n, a0c, a0z, e, w0⟩ := rdPayload105 (cs := cs.toList) (by simpa [Value.cells] using hf)
  obtain ⟨l⟩ := cs
  simp only at e
  subst e
  exact ⟨a0A, a0n, a0c, a0z, rfl, w0⟩

def InPayloadS23 (w : World) (B : Nat) (v : Value) : Prop := ∃ (a0A : Option Addr) (a0n a0c : Nat) (a0y : List It), v = .slice a0A a0n a0c ∧ IsIt .u8 false w B a0A a0n a0c a0y
theorem inPayloadS23 {H : Type} {enc : TypeId × Value → H} {w : World} {r : Reach} {b0 : Nat} {spare : Nat → Bool} {held : Bool} {v : Value} {d : DataW H} {p : List MemPlace} (hv : Value.okWide Try.prog w r b0 23 v) (h : DataW.Trod enc Try.prog w 0 spare held 23 v d p) : InPayloadS23 w w.heap.size v := by
  obtain ⟨fuel, hf⟩ := h
  obtain ⟨A, n, c, rfl⟩ := okWide_slice Try.underlying23 hv
  obtain ⟨a0A, a0n, a0c, a0y, e, w0⟩ := rdPayloadS23 (by simpa [Value.cells] using hf)
  simp only [List.cons.injEq, and_true] at e
  exact ⟨a0A, a0n, a0c, a0y, e, w0⟩

def InReceiveWindow25 (w : World) (B : Nat) (v : Value) : Prop := ∃ (a0 : Int) (a1A : Option Addr) (a1n a1c : Nat) (a1y : List It) (a2A : Option Addr) (a2n a2c : Nat) (a2y : List It), v = .agg #[.int .i64 a0, .slice a1A a1n a1c, .slice a2A a2n a2c] ∧ I64 a0 ∧ IsIt .u8 true w B a1A a1n a1c a1y ∧ IsIt .u8 false w B a2A a2n a2c a2y
theorem inReceiveWindow25 {H : Type} {enc : TypeId × Value → H} {w : World} {r : Reach} {b0 : Nat} {spare : Nat → Bool} {held : Bool} {v : Value} {d : DataW H} {p : List MemPlace} (hv : Value.okWide Try.prog w r b0 25 v) (h : DataW.Trod enc Try.prog w 0 spare held 25 v d p) : InReceiveWindow25 w w.heap.size v := by
  obtain ⟨fuel, hf⟩ := h
  obtain ⟨cs, rfl, _⟩ := okWide_struct Try.underlying25 hv
  obtain ⟨a0, a1A, a1n, a1c, a1y, a2A, a2n, a2c, a2y, e, w0, w1, w2⟩ := rdReceiveWindow25 (cs := cs.toList) (by simpa [Value.cells] using hf)
  obtain ⟨l⟩ := cs
  simp only at e
  subst e
  exact ⟨a0, a1A, a1n, a1c, a1y, a2A, a2n, a2c, a2y, rfl, w0, w1, w2⟩

def InSendWindow51 (w : World) (B : Nat) (v : Value) : Prop := ∃ (a0 : Int) (a1A : Option Addr) (a1n a1c : Nat) (a1y : List It), v = .agg #[.int .i64 a0, .slice a1A a1n a1c] ∧ I64 a0 ∧ IsIt .u8 true w B a1A a1n a1c a1y
theorem inSendWindow51 {H : Type} {enc : TypeId × Value → H} {w : World} {r : Reach} {b0 : Nat} {spare : Nat → Bool} {held : Bool} {v : Value} {d : DataW H} {p : List MemPlace} (hv : Value.okWide Try.prog w r b0 51 v) (h : DataW.Trod enc Try.prog w 0 spare held 51 v d p) : InSendWindow51 w w.heap.size v := by
  obtain ⟨fuel, hf⟩ := h
  obtain ⟨cs, rfl, _⟩ := okWide_struct Try.underlying51 hv
  obtain ⟨a0, a1A, a1n, a1c, a1y, e, w0, w1⟩ := rdSendWindow51 (cs := cs.toList) (by simpa [Value.cells] using hf)
  obtain ⟨l⟩ := cs
  simp only at e
  subst e
  exact ⟨a0, a1A, a1n, a1c, a1y, rfl, w0, w1⟩

def InPagingBuffer61 (w : World) (B : Nat) (v : Value) : Prop := ∃ (a0 : Int) (a1A : Option Addr) (a1n a1c : Nat) (a1y : List It) (a2 : Int), v = .agg #[.int .i64 a0, .slice a1A a1n a1c, .int .i64 a2] ∧ I64 a0 ∧ IsIt .u8 false w B a1A a1n a1c a1y ∧ I64 a2
theorem inPagingBuffer61 {H : Type} {enc : TypeId × Value → H} {w : World} {r : Reach} {b0 : Nat} {spare : Nat → Bool} {held : Bool} {v : Value} {d : DataW H} {p : List MemPlace} (hv : Value.okWide Try.prog w r b0 61 v) (h : DataW.Trod enc Try.prog w 0 spare held 61 v d p) : InPagingBuffer61 w w.heap.size v := by
  obtain ⟨fuel, hf⟩ := h
  obtain ⟨cs, rfl, _⟩ := okWide_struct Try.underlying61 hv
  obtain ⟨a0, a1A, a1n, a1c, a1y, a2, e, w0, w1, w2⟩ := rdPagingBuffer61 (cs := cs.toList) (by simpa [Value.cells] using hf)
  obtain ⟨l⟩ := cs
  simp only at e
  subst e
  exact ⟨a0, a1A, a1n, a1c, a1y, a2, rfl, w0, w1, w2⟩

end Go.Proofs.Ytchkiohikhfecaa
