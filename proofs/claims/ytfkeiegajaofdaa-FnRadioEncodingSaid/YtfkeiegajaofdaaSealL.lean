/-
  Plain laws of sealing: what is sealed is opened, and not when it was changed.
-/
import Derived.Test.YtfkeiegajaofdaaSeal
namespace Go.Proofs.Ytfkeiegajaofdaa
open Go.RowKit

section
variable {k g e n m : Int} {z : List Int}
theorem seal_v (h1 : 1 ≤ n) (h2 : n ≤ 1000) (hz : z.length ≤ 8) : vrad k e 1 n (sZ8 k e n z) (sM8 k e n z) = true := by
  have hb := mac8_bd (rkey k e) 1 n (sZ8 k e n z)
  have hl := sZ8_len k e n z
  have hm : sM8 k e n z = mac8 (rkey k e) 1 n (sZ8 k e n z) := rfl
  have hv : vsec 1 n (sZ8 k e n z).length (sM8 k e n z) = true := by
    have e1 : inR n 1 100000 = true := inR_true (by omega) (by omega)
    have e2 : inR (sM8 k e n z) 0 2147483646 = true := inR_true (by omega) (by omega)
    have e3 : decide ((sZ8 k e n z).length ≤ 60) = true := decide_eq_true (by omega)
    rw [vsec, e1, e2, e3]; rfl
  rw [vrad, hv, decide_eq_true hm]; rfl
theorem seal_n (h1 : m ≠ sM8 k e n z) : vrad k e 1 n (sZ8 k e n z) m = false := by
  have hm : decide (m = mac8 (rkey k e) 1 n (sZ8 k e n z)) = false := decide_eq_false h1
  simp [vrad, hm]
theorem seal_0 (h1 : n < 1) : vrad k e 1 n (sZ8 k e n z) m = false := by
  have hm : inR n 1 100000 = false := inR_false (by omega)
  simp [vrad, vsec, hm]
theorem open_y (h1 : 1 ≤ n) (h2 : n ≤ 1000) (hz : z.length ≤ 8) : oOk k g e g e 1 n (sZ8 k e n z) (sM8 k e n z) = true := by
  simp [oOk, seal_v h1 h2 hz]
theorem open_n (h1 : m ≠ sM8 k e n z) : oOk k g e g e 1 n (sZ8 k e n z) m = false := by
  simp [oOk, seal_n h1]
theorem open_0 (h1 : n < 1) : oOk k g e g e 1 n (sZ8 k e n z) m = false := by
  simp [oOk, seal_0 h1]
theorem open_g {z : List Int} : oOk k (g + 1) e g e 1 n z m = false := by
  simp [oOk]; omega
theorem open_e {z : List Int} : oOk k g (e + 1) g e 1 n z m = false := by
  simp [oOk]; omega
theorem open_c (h1 : 1 ≤ n) (h2 : n ≤ 1000) (hz : z.length ≤ 8) : oC k g e g e 1 n (sZ8 k e n z) (sM8 k e n z) = n := by
  rw [oC, open_y h1 h2 hz]; rfl
theorem open_z (h1 : 1 ≤ n) (h2 : n ≤ 1000) (hz : z.length ≤ 8) (ho : okz .u8 z) : oZ k g e g e 1 n (sZ8 k e n z) (sM8 k e n z) = z := by
  rw [oZ, open_y h1 h2 hz, cond_true]
  exact dec_enc ho
theorem mac_next : (sM8 k e n z + 1) % 2147483647 ≠ sM8 k e n z := by
  have hb : 0 ≤ sM8 k e n z ∧ sM8 k e n z < 2147483647 := mac8_bd _ _ _ _
  omega
end
end Go.Proofs.Ytfkeiegajaofdaa
