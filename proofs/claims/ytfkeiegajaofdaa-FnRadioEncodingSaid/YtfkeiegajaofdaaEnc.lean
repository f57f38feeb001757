/-
  Plain facts on the binary form: numbers in groups of seven bits, byte strings, lists; and reading them.
-/
import Derived.Test.YtfkeiegajaofdaaCur
namespace Go.Proofs.Ytfkeiegajaofdaa
open Go.RowKit

/-- The groups of a number, 7 bits a byte. -/
def venc : Nat → Int → List Int
  | 0, _ => []
  | k + 1, n => if n < 128 then [n] else (n % 128 + 128) :: venc k (n / 128)
def uv (n : Int) : List Int := if 0 ≤ n ∧ n ≤ 1000000000000 then venc 6 n else []
def p7 : Nat → Int
  | 0 => 1
  | k + 1 => 128 * p7 k
theorem p7_pos : ∀ k, 1 ≤ p7 k
  | 0 => by decide
  | k + 1 => by have := p7_pos k; simp only [p7]; omega
theorem p7_6 : ∀ {k : Nat}, k ≤ 6 → p7 k ≤ 4398046511104
  | 0, _ => by decide
  | 1, _ => by decide
  | 2, _ => by decide
  | 3, _ => by decide
  | 4, _ => by decide
  | 5, _ => by decide
  | 6, _ => by decide
  | k + 7, h => by omega
theorem uv_in {n : Int} (h0 : 0 ≤ n) (h1 : n ≤ 1000000000000) : uv n = venc 6 n := if_pos ⟨h0, h1⟩
theorem uv_out {n : Int} (h : ¬ (0 ≤ n ∧ n ≤ 1000000000000)) : uv n = [] := if_neg h
theorem venc_lt {k : Nat} {n : Int} (h : n < 128) : venc (k + 1) n = [n] := if_pos h
theorem venc_ge {k : Nat} {n : Int} (h : ¬ n < 128) : venc (k + 1) n = (n % 128 + 128) :: venc k (n / 128) := if_neg h
theorem venc_len : ∀ (k : Nat) (n : Int), (venc k n).length ≤ k
  | 0, _ => Nat.le_refl _
  | k + 1, n => by
    unfold venc
    split
    · simp
    · simp only [List.length_cons]; have := venc_len k (n / 128); omega
theorem uv_len (n : Int) : (uv n).length ≤ 6 := by
  unfold uv; split
  · exact venc_len 6 n
  · simp
theorem okz_of {zs : List Int} (h : ∀ z ∈ zs, 0 ≤ z ∧ z ≤ 255) : okz .u8 zs := fun z hz => by
  obtain ⟨h1, h2⟩ := h z hz
  simp [Lit.wf, IntKind.min, IntKind.max, IntKind.signed, IntKind.bits]; omega
theorem okz_app {κ : IntKind} {xs ys : List Int} (h : okz κ xs) (h2 : okz κ ys) : okz κ (xs ++ ys) := fun z hz => (List.mem_append.1 hz).elim (h z) (h2 z)
theorem venc_ok : ∀ (k : Nat) (n : Int), 0 ≤ n → ∀ z ∈ venc k n, 0 ≤ z ∧ z ≤ 255
  | 0, _, _, z, hz => by simp [venc] at hz
  | k + 1, n, h0, z, hz => by
    unfold venc at hz
    split at hz
    · rw [List.mem_singleton] at hz; omega
    · rcases List.mem_cons.1 hz with rfl | hz
      · omega
      · exact venc_ok k (n / 128) (by omega) z hz
theorem uv_ok (n : Int) : okz .u8 (uv n) := by
  unfold uv; split
  · rename_i h; exact okz_of (venc_ok 6 n h.1)
  · exact okz_nil _
/-- A list of numbers, one behind the other. -/
def encs : List Int → List Int
  | [] => []
  | n :: l => uv n ++ encs l
theorem encs_snoc (l : List Int) (n : Int) : encs (l ++ [n]) = encs l ++ uv n := by
  induction l with
  | nil => simp [encs]
  | cons x l ih => simp only [List.cons_append, encs, ih, List.append_assoc]
theorem encs_ok : ∀ l : List Int, okz .u8 (encs l)
  | [] => okz_nil _
  | n :: l => okz_app (uv_ok n) (encs_ok l)
theorem encs_len : ∀ l : List Int, (encs l).length ≤ 6 * l.length
  | [] => Nat.le_refl _
  | n :: l => by simp only [encs, List.length_append, List.length_cons]; have := uv_len n; have := encs_len l; omega
theorem encs_get {l : List Int} {k : Nat} {z : Int} (h : l[k]? = some z) : encs (l.take (k + 1)) = encs (l.take k) ++ uv z := by rw [take_get h, encs_snoc]
def vsec (d c : Int) (n : Nat) (m : Int) : Bool := (decide (d = 0) || decide (d = 1)) && (inR c 1 100000 && (decide (n ≤ 60) && inR m 0 2147483646))
theorem vsec_bd {d c m : Int} {n : Nat} (h : vsec d c n m = true) : (d = 0 ∨ d = 1) ∧ 1 ≤ c ∧ c ≤ 100000 ∧ n ≤ 60 ∧ 0 ≤ m ∧ m ≤ 2147483646 := by
  simp only [vsec, Bool.and_eq_true, Bool.or_eq_true, decide_eq_true_eq, inR_iff] at h
  omega
def esec (d c : Int) (z : List Int) (m : Int) : List Int := bif vsec d c z.length m then ((encs [d, c] ++ uv (z.length : Int)) ++ z) ++ uv m else []
def erad (g e d c : Int) (z : List Int) (m : Int) : List Int := bif inR g 0 100000 && (inR e 0 100000 && vsec d c z.length m) then encs [g, e] ++ esec d c z m else []
theorem esec_ok {d c m : Int} {z : List Int} (h : okz .u8 z) : okz .u8 (esec d c z m) := by
  unfold esec
  cases vsec d c z.length m
  · exact okz_nil _
  · exact okz_app (okz_app (okz_app (encs_ok _) (uv_ok _)) h) (uv_ok _)
theorem erad_ok {g e d c m : Int} {z : List Int} (h : okz .u8 z) : okz .u8 (erad g e d c z m) := by
  unfold erad
  cases (inR g 0 100000 && (inR e 0 100000 && vsec d c z.length m))
  · exact okz_nil _
  · exact okz_app (encs_ok _) (esec_ok h)
theorem esec_len (d c : Int) (z : List Int) (m : Int) : (esec d c z m).length ≤ 84 := by
  unfold esec
  cases hv : vsec d c z.length m
  · simp
  · have := vsec_bd hv
    simp only [cond_true, List.length_append]
    have h1 := encs_len [d, c]
    have h2 := uv_len (z.length : Int)
    have h3 := uv_len m
    simp only [List.length_cons, List.length_nil] at h1
    omega
theorem erad_len (g e d c : Int) (z : List Int) (m : Int) : (erad g e d c z m).length ≤ 96 := by
  unfold erad
  cases (inR g 0 100000 && (inR e 0 100000 && vsec d c z.length m))
  · simp
  · simp only [cond_true, List.length_append]
    have h1 := encs_len [g, e]
    have h2 := esec_len d c z m
    simp only [List.length_cons, List.length_nil] at h1
    omega
/-- Steps on bits. -/
theorem and127 {n : Int} (h0 : 0 ≤ n) (h1 : n ≤ 9223372036854775807) : ibits .and .i64 n 127 = n % 128 := by
  obtain ⟨k, rfl⟩ := Int.eq_ofNat_of_zero_le h0
  have e1 : (BitVec.ofInt 64 (k : Int)).toNat = k := by rw [BitVec.ofInt_natCast, BitVec.toNat_ofNat]; exact Nat.mod_eq_of_lt (by omega)
  have e2 : ((BitVec.ofInt 64 (k : Int)) &&& (BitVec.ofInt 64 (127 : Int))).toNat = k % 128 := by
    rw [BitVec.toNat_and, e1]; exact Nat.and_two_pow_sub_one_eq_mod k 7
  have e3 : ibits .and .i64 (k : Int) 127 = IntKind.i64.wrap ((((BitVec.ofInt 64 (k : Int)) &&& (BitVec.ofInt 64 (127 : Int))).toNat : Nat) : Int) := rfl
  rw [e3, e2, IntKind.wrap_i64]
  omega
theorem and127b {n : Int} (h0 : 0 ≤ n) (h1 : n ≤ 255) : ibits .and .u8 n 127 = n % 128 := by
  obtain ⟨k, rfl⟩ := Int.eq_ofNat_of_zero_le h0
  have e1 : (BitVec.ofInt 8 (k : Int)).toNat = k := by rw [BitVec.ofInt_natCast, BitVec.toNat_ofNat]; exact Nat.mod_eq_of_lt (by omega)
  have e2 : ((BitVec.ofInt 8 (k : Int)) &&& (BitVec.ofInt 8 (127 : Int))).toNat = k % 128 := by
    rw [BitVec.toNat_and, e1]; exact Nat.and_two_pow_sub_one_eq_mod k 7
  have e3 : ibits .and .u8 (k : Int) 127 = IntKind.u8.wrap ((((BitVec.ofInt 8 (k : Int)) &&& (BitVec.ofInt 8 (127 : Int))).toNat : Nat) : Int) := rfl
  rw [e3, e2, IntKind.wrap_u8]
  omega
theorem ior_nat {a b : Nat} (ha : a < 9223372036854775808) (hb : b < 9223372036854775808) (h : a ||| b < 9223372036854775808) : ibits .or .i64 (a : Int) (b : Int) = ((a ||| b : Nat) : Int) := by
  have e1 : (BitVec.ofInt 64 (a : Int)).toNat = a := by rw [BitVec.ofInt_natCast, BitVec.toNat_ofNat]; exact Nat.mod_eq_of_lt (by omega)
  have e2 : (BitVec.ofInt 64 (b : Int)).toNat = b := by rw [BitVec.ofInt_natCast, BitVec.toNat_ofNat]; exact Nat.mod_eq_of_lt (by omega)
  have e3 : ibits .or .i64 (a : Int) (b : Int) = IntKind.i64.wrap ((((BitVec.ofInt 64 (a : Int)) ||| (BitVec.ofInt 64 (b : Int))).toNat : Nat) : Int) := rfl
  rw [e3, BitVec.toNat_or, e1, e2, IntKind.wrap_i64]
  omega
theorem or128 {n : Int} (h0 : 0 ≤ n) (h1 : n < 128) : ibits .or .i64 n 128 = n + 128 := by
  obtain ⟨k, rfl⟩ := Int.eq_ofNat_of_zero_le h0
  have e : k ||| 128 = 128 + k := by
    have := Nat.two_pow_add_eq_or_of_lt (i := 7) (b := k) (by omega) 1
    simp only [Nat.mul_one, show (2 : Nat) ^ 7 = 128 from rfl] at this
    rw [Nat.or_comm]; omega
  have := ior_nat (a := k) (b := 128) (by omega) (by omega) (by rw [e]; omega)
  rw [e] at this
  refine Eq.trans this ?_
  omega
theorem shr7 {n : Int} (h0 : 0 ≤ n) : Int.fdiv n (2 ^ (min (Int.toNat 7) (IntKind.bits .i64))) = n / 128 := by
  have e : ((2 : Int) ^ (min (Int.toNat 7) (IntKind.bits .i64))) = 128 := by decide
  rw [e, Int.fdiv_eq_ediv_of_nonneg _ (by decide)]
theorem p7_pow (k : Nat) : p7 k = ((2 ^ (7 * k) : Nat) : Int) := by
  induction k with
  | zero => rfl
  | succ k ih =>
    simp only [p7, ih, Nat.mul_add, Nat.mul_one, Nat.pow_add]
    omega
theorem shl7 {g : Int} {k : Nat} (hk : k < 6) (h0 : 0 ≤ g) (h1 : g < 128) : IntKind.wrap .i64 (g * 2 ^ (min (Int.toNat (7 * (k : Int))) (IntKind.bits .i64))) = g * p7 k ∧ 0 ≤ g * p7 k := by
  have e : min (Int.toNat (7 * (k : Int))) (IntKind.bits .i64) = 7 * k := by
    have : IntKind.bits .i64 = 64 := rfl
    rw [this]; omega
  have e2 : (2 : Int) ^ (7 * k) = p7 k := by rw [p7_pow]; simp
  rw [e, e2]
  have hp := p7_pos k
  have hp2 := p7_6 (k := k) (by omega)
  have h3 : 0 ≤ g * p7 k := Int.mul_nonneg h0 (by omega)
  have h4 : g * p7 k ≤ 128 * p7 k := Int.mul_le_mul_of_nonneg_right (by omega) (by omega)
  exact ⟨in64 (by omega) (by omega), h3⟩
theorem or7 {a g : Int} {k : Nat} (hk : k < 6) (ha0 : 0 ≤ a) (ha1 : a < p7 k) (h0 : 0 ≤ g) (h1 : g < 128) : ibits .or .i64 a (g * p7 k) = a + g * p7 k ∧ 0 ≤ a + g * p7 k ∧ a + g * p7 k < p7 (k + 1) := by
  have hp := p7_pos k
  have hp2 := p7_6 (k := k + 1) (by omega)
  have h3 : 0 ≤ g * p7 k := Int.mul_nonneg h0 (by omega)
  have h4 : g * p7 k ≤ 127 * p7 k := Int.mul_le_mul_of_nonneg_right (by omega) (by omega)
  have h5 : p7 (k + 1) = 128 * p7 k := rfl
  refine ⟨?_, by omega, by omega⟩
  obtain ⟨m, rfl⟩ := Int.eq_ofNat_of_zero_le ha0
  obtain ⟨j, rfl⟩ := Int.eq_ofNat_of_zero_le h0
  rw [p7_pow] at ha1 h3 h4 hp hp2 h5 ⊢
  have hm : m < 2 ^ (7 * k) := by omega
  have e := Nat.two_pow_add_eq_or_of_lt hm j
  have e2 : ((j : Int) * ((2 ^ (7 * k) : Nat) : Int)) = ((2 ^ (7 * k) * j : Nat) : Int) := by rw [Int.natCast_mul, Int.mul_comm]
  rw [e2] at h3 h4 ⊢
  have e3 : m ||| 2 ^ (7 * k) * j = 2 ^ (7 * k) * j + m := by rw [Nat.or_comm, ← e]
  rw [p7_pow] at h5
  generalize 2 ^ (7 * k) * j = X at *
  rw [ior_nat (by omega) (by omega) (by rw [e3]; omega), e3]
  omega
end Go.Proofs.Ytfkeiegajaofdaa
