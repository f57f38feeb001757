/-
  Bytes of a string that was made: the new row is read only; numbers as texts.
-/
import Derived.Test.YtchkiohikhfecaaCur
import Derived.Lib.ConvBytes
namespace Go.Proofs.Ytchkiohikhfecaa
open Go.RowKit

/-- The bytes of a string, as numbers. -/
def bytesZ (s : ByteArray) : List Int := s.data.toList.map fun b => (b.toNat : Int)
theorem bytesZ_len (s : ByteArray) : (bytesZ s).length = s.size := by simp [bytesZ]
theorem bytesZ_ok (s : ByteArray) : okz .u8 (bytesZ s) := fun z hz => by
  obtain ⟨b, _, rfl⟩ := List.mem_map.1 hz
  have := b.toNat_lt
  simp [Lit.wf, IntKind.min, IntKind.max, IntKind.signed, IntKind.bits]; omega
theorem bytesCells_take (w : World) (e : TypeId) (s : ByteArray) : (Lib.bytesCells w e s).toList.take s.size = (bytesZ s).map (Value.int .u8) := by
  have hl : (s.data.toList.map fun b => Value.int .u8 (b.toNat : Int)).length = s.size := by simp
  simp only [Lib.bytesCells, Array.toList_append, Array.toList_map, bytesZ, List.map_map]
  rw [List.take_append_of_le_length (by omega), List.take_of_length_le (by omega)]
  rfl
section
variable {P : Program} {w0 w w' : World} {own : List Res} {n : Nat} {l : List (Nat × Value)} {g : Nat → Value} {Q : Exit → Act → World → Prop} {K : Act → World → Prop} {o : Oper}
theorem St.rdro {A : Option Addr} {n c : Nat} {xs : List Value} (h : St w0 w own) (hm : Res.ro (.slice A n c) n xs ∈ own) : Rd w w.heap.size A n xs := by
  obtain ⟨b, cap, cs, t, m, hv, hB, hh, hl, ht⟩ := h.hold _ hm
  injection hv with h1
  subst h1
  refine ⟨hl, fun _ => ⟨b, 0, rfl, (Array.getElem?_eq_some_iff.1 hh).1, fun j u hu => ?_⟩⟩
  rw [← ht, List.getElem?_take] at hu
  split at hu
  · simp [World.cell?, hh]; simpa using hu
  · cases hu
theorem grownBy_bytes (w : World) (e : TypeId) (s : ByteArray) : w.grownBy (Lib.bytesWorld w e s) none := by
  refine ⟨?_, ?_, ?_, by rw [Lib.bytesWorld_size]; omega, fun k hk _ => Lib.bytesWorld_at_old w e s k hk⟩ <;> rfl
theorem St.conv (h : St w0 w own) (e : TypeId) (s : ByteArray) (c : Nat) : St w0 (Lib.bytesWorld w e s) (.ro (.slice (some ⟨w.heap.size, 0, none⟩) s.size c) s.size ((bytesZ s).map (Value.int .u8)) :: own) :=
  h.new (grownBy_bytes w e s) ⟨w.heap.size, c, _, _, _, rfl, h.size, Lib.bytesWorld_at_new w e s, by rw [List.length_map, bytesZ_len], bytesCells_take w e s⟩ (fun b hb => by simp only [Res.blk, Value.ownBlock, Option.some.injEq] at hb; omega)
theorem op_convS {d : Option Tmp} (hd : o.dst = d) {src dst : TypeId} {x : Operand} (ho : o.op = .convert src dst x) {s : ByteArray} (hx : ev n l g x = .string s) {e : TypeId} (hs : P.underlying src = some .string) (ht : P.underlying dst = some (.slice e)) (he : P.underlying e = some (.int .u8)) (hS : St w0 w own)
    (h : ∀ b c w', St w0 w' (.ro (.slice (some ⟨b, 0, none⟩) (bytesZ s).length c) (bytesZ s).length ((bytesZ s).map (Value.int .u8)) :: own) → K (FA n (putl d (.slice (some ⟨b, 0, none⟩) (bytesZ s).length c) l) g) w') : OW P o (FA n l g) w K Q := by
  rw [bytesZ_len] at h
  refine ⟨?_⟩
  have hr := Lib.run_convert_string_bytes (P := P) w src dst e s hs ht he
  refine wp_value hd (s := convert src dst (ev n l g x)) ?_ (by rw [hx]; exact hr) (h _ _ _ (hS.conv e s _))
  obtain ⟨ds, op, ty, pos, af, gd⟩ := o
  simp only at ho; subst ho
  simp only [execOp, FA_eval]
end
/-- Digits of a small number: how long the text is. -/
def Dig (x : Int) (m : Nat) : Prop := 0 ≤ x ∧ ((x ≤ 999 ∧ m = 0) ∨ (x ≤ 99 ∧ m = 1) ∨ (x ≤ 9 ∧ m = 2) ∨ (x = 0 ∧ m ≤ 3))
theorem bstr_size (zs : List Int) : (bstr zs).size = zs.length := by simp [bstr, ByteArray.size]
theorem Dig.step {x : Int} {m : Nat} (h : Dig x m) (hx : x ≠ 0) : Dig (x / 10) (1 + m) := by unfold Dig at *; omega
end Go.Proofs.Ytchkiohikhfecaa
