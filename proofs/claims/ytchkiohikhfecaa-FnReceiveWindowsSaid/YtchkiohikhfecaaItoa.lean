/-
  Decimal numerals, as the reference's loop makes them.
-/
import Derived.Test.YtchkiohikhfecaaDeep
import Derived.Lib.ItoaLen
namespace Go.Proofs.Ytchkiohikhfecaa
open Go.RowKit
/-- The digits of u; none for 0. -/
def D0 (u : Nat) : List UInt8 := if u = 0 then [] else Lib.decDigits u
theorem D0_zero : D0 0 = [] := rfl
theorem D0_pos {u : Nat} (h : u ≠ 0) : D0 u = Lib.decDigits u := if_neg h
theorem D0_step {u : Nat} (h : u ≠ 0) : D0 u = D0 (u / 10) ++ [UInt8.ofNat (48 + u % 10)] := by
  rw [D0_pos h, Lib.decDigits]
  split
  · rename_i h1
    rw [show u / 10 = 0 by omega, D0_zero, show u % 10 = u by omega]; rfl
  · rename_i h1
    rw [D0_pos (by omega)]
theorem dec_len {u : Nat} (h : u < 18446744073709551616) : (Lib.decDigits u).length ≤ 20 := by rw [Lib.decDigits_length]; exact Lib.nDigits_le20 u h
theorem tm10 (x : Int) : ∃ y, Int.tmod x 10 = y ∧ y.natAbs = x.natAbs % 10 ∧ -9 ≤ y ∧ y ≤ 9 := by
  have h : (Int.tmod x 10).natAbs = x.natAbs % 10 := Int.natAbs_tmod x 10
  exact ⟨_, rfl, h, by omega, by omega⟩
theorem td10 {x : Int} (h0 : -9223372036854775808 ≤ x) (h1 : x ≤ 9223372036854775807) : ∃ z, IntKind.wrap .i64 (Int.tdiv x 10) = z ∧ z.natAbs = x.natAbs / 10 ∧ -9223372036854775808 ≤ z ∧ z ≤ 9223372036854775807 := by
  have h : (Int.tdiv x 10).natAbs = x.natAbs / 10 := Int.natAbs_tdiv x 10
  refine ⟨Int.tdiv x 10, in64 (by omega) (by omega), h, by omega, by omega⟩
theorem str_cons (z : Int) (ds : List UInt8) : bstr [z] ++ (⟨ds.toArray⟩ : ByteArray) = ⟨(UInt8.ofNat z.toNat :: ds).toArray⟩ := by
  apply ByteArray.ext
  simp [bstr, ByteArray.data_append]
theorem str_minus (ds : List UInt8) : (⟨#[45]⟩ : ByteArray) ++ (⟨ds.toArray⟩ : ByteArray) = ⟨(45 :: ds).toArray⟩ := by
  apply ByteArray.ext
  simp [ByteArray.data_append]
theorem lsize (ds : List UInt8) : (⟨ds.toArray⟩ : ByteArray).size = ds.length := by simp [ByteArray.size]
theorem bsize1 (z : Int) : (bstr [z]).size = 1 := by simp [bstr, ByteArray.size]
theorem itoa_zero : Lib.itoa 0 = [48] := by
  rw [Lib.itoa, if_neg (by decide), show Int.toNat 0 = 0 from rfl, Lib.decDigits, dif_pos (by decide)]; rfl
theorem itoa_pos {a : Int} (h : 0 ≤ a) : Lib.itoa a = Lib.decDigits a.natAbs := by
  rw [Lib.itoa, if_neg (by omega), show a.toNat = a.natAbs by omega]
theorem itoa_min {a : Int} (h : a < 0) : Lib.itoa a = 45 :: Lib.decDigits a.natAbs := by rw [Lib.itoa, if_pos h]
theorem dig_step {a x y z c : Int} {ds : List UInt8} (hD : D0 x.natAbs ++ ds = Lib.decDigits a.natAbs) (hx : x ≠ 0) (hy : y.natAbs = x.natAbs % 10) (hz : z.natAbs = x.natAbs / 10) (hc : c.toNat = 48 + y.natAbs) :
    D0 z.natAbs ++ (UInt8.ofNat c.toNat :: ds) = Lib.decDigits a.natAbs := by
  rw [← hD, D0_step (u := x.natAbs) (by omega), hz, hc, hy, List.append_assoc]; rfl
theorem dig_len {a x : Int} {ds : List UInt8} (h0 : -9223372036854775808 ≤ a) (h1 : a ≤ 9223372036854775807) (hD : D0 x.natAbs ++ ds = Lib.decDigits a.natAbs) : ds.length ≤ 20 := by
  have h := dec_len (u := a.natAbs) (by omega)
  rw [← hD, List.length_append] at h; omega
theorem itoa_len {a : Int} (h0 : -9223372036854775808 ≤ a) (h1 : a ≤ 9223372036854775807) : ((⟨(Lib.itoa a).toArray⟩ : ByteArray)).size ≤ 21 := by
  rw [lsize]; exact Lib.itoa_length_le a h0 h1
end Go.Proofs.Ytchkiohikhfecaa
