/-
  What each argument of this seat's laws reads as. Written by wip/tools/frame.py.
-/
import Derived.Test.YtepfcnpojhlpdaaDeep
namespace Go.Proofs.Ytepfcnpojhlpdaa
open Go.RowKit Go.ChangeShapes Go.WideShapes Go.ChangeAt
set_option linter.unusedVariables false
set_option maxRecDepth 100000

section
variable {H : Type} {enc : TypeId × Value → H} {w : World} {spare : Nat → Bool} {held : Bool} {fuel : Nat} {cs : List Value} {x : DataW H × List MemPlace}

def RdBytes38 (w : World) (B : Nat) (cs : List Value) : Prop := ∃ (a0A : Option Addr) (a0n a0c : Nat) (a0z : List Int), cs = [.slice a0A a0n a0c] ∧ IsSl .u8 w B a0A a0n a0c a0z
theorem rdBytes38 (h : DataW.trod enc Try.prog w 0 spare held fuel 38 cs = some x) : RdBytes38 w w.heap.size cs := by
  rcases open_ints Try.underlying38 Try.underlying5 (by kernel_rfl) h with ⟨hcs, _⟩ | ⟨a, len, cap, zs, hcs, _, hl, hm, hz, _, hcell, hwz⟩
  · subst hcs
    exact ⟨none, 0, 0, [], rfl, Nat.le_refl _, Nat.zero_le _, Rd.nil_, by simp⟩
  · subst hcs
    have hlz : len ≤ zs.length := by rw [hz]; split <;> omega
    refine ⟨some a, len, cap, zs.take len, rfl, hl, hm, ⟨by simp; omega, fun hn => ?_⟩, fun z h => hwz z (List.mem_of_mem_take h)⟩
    obtain ⟨b, off, hab, hbb, hc⟩ := ints_at' hcell (by omega)
    subst hab
    refine ⟨b, off, rfl, hbb, fun j u hj => ?_⟩
    obtain ⟨hj1, hj2⟩ := List.getElem?_eq_some_iff.1 hj
    simp at hj1 hj2
    rw [hc j (by omega), ← hj2]
    simp [List.getD, List.getElem?_eq_getElem (show j < zs.length by omega)]

def RdPayload60 (w : World) (B : Nat) (cs : List Value) : Prop := ∃ (a0A : Option Addr) (a0n a0c : Nat) (a0z : List Int), cs = [.slice a0A a0n a0c] ∧ IsSl .u8 w B a0A a0n a0c a0z
theorem rdPayload60 (h : DataW.trod enc Try.prog w 0 spare held fuel 60 cs = some x) : RdPayload60 w w.heap.size cs := by
  obtain ⟨xs, n, _, _, hlen, hxl, hg⟩ := DataW.trod_struct Try.underlying60 h
  have hlen' : cs.length = 1 := hlen.trans (by kernel_rfl)
  obtain ⟨c0, rfl⟩ := list1 hlen'
  have g0 : DataW.trod enc Try.prog w 0 spare held n 38 (List.take (Try.prog.cellsOf 38) (List.drop 0 [c0])) = some (xs[0]'(by rw [hxl]; decide)) := (hg 0 _ rfl).trans (List.getElem?_eq_getElem (by rw [hxl]; decide))
  rw [show Try.prog.cellsOf 38 = 1 by kernel_rfl] at g0
  obtain ⟨f0_0A, f0_0n, f0_0c, f0_0z, e0, w0_0⟩ := rdBytes38 g0
  simp only [List.drop, List.take, List.cons.injEq, and_true] at e0
  subst e0
  exact ⟨f0_0A, f0_0n, f0_0c, f0_0z, rfl, w0_0⟩

def RdPayloadS22 (w : World) (B : Nat) (cs : List Value) : Prop := ∃ (a0A : Option Addr) (a0n a0c : Nat) (a0y : List It), cs = [.slice a0A a0n a0c] ∧ IsIt .u8 false w B a0A a0n a0c a0y
theorem rdPayloadS22 (h : DataW.trod enc Try.prog w 0 spare held fuel 22 cs = some x) : RdPayloadS22 w w.heap.size cs := by
  obtain ⟨A, n, c, ys, hcs, hi⟩ := its_of (κ := .u8) (p := false) Try.underlying22 (by kernel_rfl) h (fun n cs x h => el_false (rdPayload60 h))
  exact ⟨A, n, c, ys, hcs, hi⟩

def RdBool4 (w : World) (B : Nat) (cs : List Value) : Prop := ∃ (a0 : Bool), cs = [.bool a0]
theorem rdBool4 (h : DataW.trod enc Try.prog w 0 spare held fuel 4 cs = some x) : RdBool4 w w.heap.size cs := by
  obtain ⟨b, rfl, _⟩ := DataW.trod_bool Try.underlying4 h
  exact ⟨b, rfl⟩

def RdHandoverQueue31 (w : World) (B : Nat) (cs : List Value) : Prop := ∃ (a0A : Option Addr) (a0n a0c : Nat) (a0y : List It) (a1 : Bool) (a2A : Option Addr) (a2n a2c : Nat) (a2y : List It), cs = [.slice a0A a0n a0c, .bool a1, .slice a2A a2n a2c] ∧ IsIt .u8 false w B a0A a0n a0c a0y ∧ IsIt .u8 false w B a2A a2n a2c a2y
theorem rdHandoverQueue31 (h : DataW.trod enc Try.prog w 0 spare held fuel 31 cs = some x) : RdHandoverQueue31 w w.heap.size cs := by
  obtain ⟨xs, n, _, _, hlen, hxl, hg⟩ := DataW.trod_struct Try.underlying31 h
  have hlen' : cs.length = 3 := hlen.trans (by kernel_rfl)
  obtain ⟨c0, c1, c2, rfl⟩ := list3 hlen'
  have g0 : DataW.trod enc Try.prog w 0 spare held n 22 (List.take (Try.prog.cellsOf 22) (List.drop 0 [c0, c1, c2])) = some (xs[0]'(by rw [hxl]; decide)) := (hg 0 _ rfl).trans (List.getElem?_eq_getElem (by rw [hxl]; decide))
  have g1 : DataW.trod enc Try.prog w 0 spare held n 4 (List.take (Try.prog.cellsOf 4) (List.drop 1 [c0, c1, c2])) = some (xs[1]'(by rw [hxl]; decide)) := (hg 1 _ rfl).trans (List.getElem?_eq_getElem (by rw [hxl]; decide))
  have g2 : DataW.trod enc Try.prog w 0 spare held n 22 (List.take (Try.prog.cellsOf 22) (List.drop 2 [c0, c1, c2])) = some (xs[2]'(by rw [hxl]; decide)) := (hg 2 _ rfl).trans (List.getElem?_eq_getElem (by rw [hxl]; decide))
  rw [show Try.prog.cellsOf 22 = 1 by kernel_rfl] at g0
  obtain ⟨f0_0A, f0_0n, f0_0c, f0_0y, e0, w0_0⟩ := rdPayloadS22 g0
  simp only [List.drop, List.take, List.cons.injEq, and_true] at e0
  subst e0
  rw [show Try.prog.cellsOf 4 = 1 by kernel_rfl] at g1
  obtain ⟨f1_0, e1⟩ := rdBool4 g1
  simp only [List.drop, List.take, List.cons.injEq, and_true] at e1
  subst e1
  rw [show Try.prog.cellsOf 22 = 1 by kernel_rfl] at g2
  obtain ⟨f2_0A, f2_0n, f2_0c, f2_0y, e2, w2_0⟩ := rdPayloadS22 g2
  simp only [List.drop, List.take, List.cons.injEq, and_true] at e2
  subst e2
  exact ⟨f0_0A, f0_0n, f0_0c, f0_0y, f1_0, f2_0A, f2_0n, f2_0c, f2_0y, rfl, w0_0, w2_0⟩

def RdInts40 (w : World) (B : Nat) (cs : List Value) : Prop := ∃ (a0A : Option Addr) (a0n a0c : Nat) (a0z : List Int), cs = [.slice a0A a0n a0c] ∧ IsSl .i64 w B a0A a0n a0c a0z
theorem rdInts40 (h : DataW.trod enc Try.prog w 0 spare held fuel 40 cs = some x) : RdInts40 w w.heap.size cs := by
  rcases open_ints Try.underlying40 Try.underlying3 (by kernel_rfl) h with ⟨hcs, _⟩ | ⟨a, len, cap, zs, hcs, _, hl, hm, hz, _, hcell, hwz⟩
  · subst hcs
    exact ⟨none, 0, 0, [], rfl, Nat.le_refl _, Nat.zero_le _, Rd.nil_, by simp⟩
  · subst hcs
    have hlz : len ≤ zs.length := by rw [hz]; split <;> omega
    refine ⟨some a, len, cap, zs.take len, rfl, hl, hm, ⟨by simp; omega, fun hn => ?_⟩, fun z h => hwz z (List.mem_of_mem_take h)⟩
    obtain ⟨b, off, hab, hbb, hc⟩ := ints_at' hcell (by omega)
    subst hab
    refine ⟨b, off, rfl, hbb, fun j u hj => ?_⟩
    obtain ⟨hj1, hj2⟩ := List.getElem?_eq_some_iff.1 hj
    simp at hj1 hj2
    rw [hc j (by omega), ← hj2]
    simp [List.getD, List.getElem?_eq_getElem (show j < zs.length by omega)]

end

def InBytes38 (w : World) (B : Nat) (v : Value) : Prop := ∃ (a0A : Option Addr) (a0n a0c : Nat) (a0z : List Int), v = .slice a0A a0n a0c ∧ IsSl .u8 w B a0A a0n a0c a0z
theorem inBytes38 {H : Type} {enc : TypeId × Value → H} {w : World} {r : Reach} {b0 : Nat} {spare : Nat → Bool} {held : Bool} {v : Value} {d : DataW H} {p : List MemPlace} (hv : Value.okWide Try.prog w r b0 38 v) (h : DataW.Trod enc Try.prog w 0 spare held 38 v d p) : InBytes38 w w.heap.size v := by
  obtain ⟨fuel, hf⟩ := h
  obtain ⟨A, n, c, rfl⟩ := okWide_slice Try.underlying38 hv
  obtain ⟨a0A, a0n, a0c, a0z, e, w0⟩ := rdBytes38 (by simpa [Value.cells] using hf)
  simp only [List.cons.injEq, and_true] at e
  exact ⟨a0A, a0n, a0c, a0z, e, w0⟩

def InPayload60 (w : World) (B : Nat) (v : Value) : Prop := ∃ (a0A : Option Addr) (a0n a0c : Nat) (a0z : List Int), v = .agg #[.slice a0A a0n a0c] ∧ IsSl .u8 w B a0A a0n a0c a0z
theorem inPayload60 {H : Type} {enc : TypeId × Value → H} {w : World} {r : Reach} {b0 : Nat} {spare : Nat → Bool} {held : Bool} {v : Value} {d : DataW H} {p : List MemPlace} (hv : Value.okWide Try.prog w r b0 60 v) (h : DataW.Trod enc Try.prog w 0 spare held 60 v d p) : InPayload60 w w.heap.size v := by
  obtain ⟨fuel, hf⟩ := h
  obtain ⟨cs, rfl, _⟩ := okWide_struct Try.underlying60 hv
  obtain ⟨a0A, a0n, a0c, a0z, e, w0⟩ := rdPayload60 (cs := cs.toList) (by simpa [Value.cells] using hf)
  obtain ⟨l⟩ := cs
  simp only at e
  subst e
  exact ⟨a0A, a0n, a0c, a0z, rfl, w0⟩

def InPayloadS22 (w : World) (B : Nat) (v : Value) : Prop := ∃ (a0A : Option Addr) (a0n a0c : Nat) (a0y : List It), v = .slice a0A a0n a0c ∧ IsIt .u8 false w B a0A a0n a0c a0y
theorem inPayloadS22 {H : Type} {enc : TypeId × Value → H} {w : World} {r : Reach} {b0 : Nat} {spare : Nat → Bool} {held : Bool} {v : Value} {d : DataW H} {p : List MemPlace} (hv : Value.okWide Try.prog w r b0 22 v) (h : DataW.Trod enc Try.prog w 0 spare held 22 v d p) : InPayloadS22 w w.heap.size v := by
  obtain ⟨fuel, hf⟩ := h
  obtain ⟨A, n, c, rfl⟩ := okWide_slice Try.underlying22 hv
  obtain ⟨a0A, a0n, a0c, a0y, e, w0⟩ := rdPayloadS22 (by simpa [Value.cells] using hf)
  simp only [List.cons.injEq, and_true] at e
  exact ⟨a0A, a0n, a0c, a0y, e, w0⟩

def InBool4 (w : World) (B : Nat) (v : Value) : Prop := ∃ (a0 : Bool), v = .bool a0
theorem inBool4 {H : Type} {enc : TypeId × Value → H} {w : World} {r : Reach} {b0 : Nat} {spare : Nat → Bool} {held : Bool} {v : Value} {d : DataW H} {p : List MemPlace} (hv : Value.okWide Try.prog w r b0 4 v) (h : DataW.Trod enc Try.prog w 0 spare held 4 v d p) : InBool4 w w.heap.size v := by
  obtain ⟨fuel, hf⟩ := h
  obtain ⟨n, rfl⟩ := okWide_bool Try.underlying4 hv
  obtain ⟨a0, e⟩ := rdBool4 (by simpa [Value.cells] using hf)
  simp only [List.cons.injEq, and_true] at e
  exact ⟨a0, e⟩

def InHandoverQueue31 (w : World) (B : Nat) (v : Value) : Prop := ∃ (a0A : Option Addr) (a0n a0c : Nat) (a0y : List It) (a1 : Bool) (a2A : Option Addr) (a2n a2c : Nat) (a2y : List It), v = .agg #[.slice a0A a0n a0c, .bool a1, .slice a2A a2n a2c] ∧ IsIt .u8 false w B a0A a0n a0c a0y ∧ IsIt .u8 false w B a2A a2n a2c a2y
theorem inHandoverQueue31 {H : Type} {enc : TypeId × Value → H} {w : World} {r : Reach} {b0 : Nat} {spare : Nat → Bool} {held : Bool} {v : Value} {d : DataW H} {p : List MemPlace} (hv : Value.okWide Try.prog w r b0 31 v) (h : DataW.Trod enc Try.prog w 0 spare held 31 v d p) : InHandoverQueue31 w w.heap.size v := by
  obtain ⟨fuel, hf⟩ := h
  obtain ⟨cs, rfl, _⟩ := okWide_struct Try.underlying31 hv
  obtain ⟨a0A, a0n, a0c, a0y, a1, a2A, a2n, a2c, a2y, e, w0, w1⟩ := rdHandoverQueue31 (cs := cs.toList) (by simpa [Value.cells] using hf)
  obtain ⟨l⟩ := cs
  simp only at e
  subst e
  exact ⟨a0A, a0n, a0c, a0y, a1, a2A, a2n, a2c, a2y, rfl, w0, w1⟩

def InInts40 (w : World) (B : Nat) (v : Value) : Prop := ∃ (a0A : Option Addr) (a0n a0c : Nat) (a0z : List Int), v = .slice a0A a0n a0c ∧ IsSl .i64 w B a0A a0n a0c a0z
theorem inInts40 {H : Type} {enc : TypeId × Value → H} {w : World} {r : Reach} {b0 : Nat} {spare : Nat → Bool} {held : Bool} {v : Value} {d : DataW H} {p : List MemPlace} (hv : Value.okWide Try.prog w r b0 40 v) (h : DataW.Trod enc Try.prog w 0 spare held 40 v d p) : InInts40 w w.heap.size v := by
  obtain ⟨fuel, hf⟩ := h
  obtain ⟨A, n, c, rfl⟩ := okWide_slice Try.underlying40 hv
  obtain ⟨a0A, a0n, a0c, a0z, e, w0⟩ := rdInts40 (by simpa [Value.cells] using hf)
  simp only [List.cons.injEq, and_true] at e
  exact ⟨a0A, a0n, a0c, a0z, e, w0⟩

end Go.Proofs.Ytepfcnpojhlpdaa
