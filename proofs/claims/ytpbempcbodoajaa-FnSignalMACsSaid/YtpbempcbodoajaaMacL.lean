/-
  Plain law of the hash: it tells numbers apart that differ by the modulus.
-/
import Derived.Test.YtpbempcbodoajaaGSig
import Derived.Test.YtpbempcbodoajaaCur
namespace Go.Proofs.Ytpbempcbodoajaa
open Go.RowKit

theorem lin_sub (a b s : Int) : a * 1000003 + s + 13 - (b * 1000003 + s + 13) = 1000003 * (a - b) := by omega
theorem near_abs (a b : Int) (ha : 0 ≤ a ∧ a < 2147483647) (hb : 0 ≤ b ∧ b < 2147483647) : (a - b).natAbs < 2147483647 := by omega
theorem cop_mod : Nat.Coprime (Int.natAbs 2147483647) (Int.natAbs 1000003) := by decide +kernel
theorem hstep_acc {a b v : Int} (ha : 0 ≤ a ∧ a < 2147483647) (hb : 0 ≤ b ∧ b < 2147483647) (h : hstep a v = hstep b v) : a = b := by
  unfold hstep at h
  have h2 := Int.dvd_of_emod_eq_zero (Int.emod_eq_emod_iff_emod_sub_eq_zero.1 h)
  rw [lin_sub] at h2
  have h4 := Int.natAbs_dvd_natAbs.2 h2
  rw [Int.natAbs_mul] at h4
  have h7 : (a - b).natAbs = 0 := Nat.eq_zero_of_dvd_of_lt (Nat.Coprime.dvd_of_dvd_mul_left cop_mod h4) (near_abs a b ha hb)
  exact Int.sub_eq_zero.1 (Int.natAbs_eq_zero.1 h7)
theorem hstep_v {a v u : Int} (h : hstep a v = hstep a u) : v % 2147483647 = u % 2147483647 := by
  unfold hstep at h
  omega
theorem khash_last {K : Int} {l : List Int} {v u : Int} (h : khash K (l ++ [v]) = khash K (l ++ [u])) : v % 2147483647 = u % 2147483647 := by
  unfold khash at h
  rw [hfold_snoc, hfold_snoc] at h
  exact hstep_v (hstep_acc (hstep_bd _ _) (hstep_bd _ _) h)
theorem hfold_inj : ∀ (l : List Int) {a b : Int}, 0 ≤ a ∧ a < 2147483647 → 0 ≤ b ∧ b < 2147483647 → hfold l a = hfold l b → a = b
  | [], _, _, _, _, h => h
  | x :: l, _, _, ha, hb, h => hstep_acc ha hb (hfold_inj l (hstep_bd _ _) (hstep_bd _ _) h)
theorem khash_mid {K : Int} {l r : List Int} {v u : Int} (h : khash K (l ++ v :: r) = khash K (l ++ u :: r)) : v % 2147483647 = u % 2147483647 := by
  unfold khash at h
  have h1 := hstep_acc (hfold_bd _ _ (hstep_bd _ _).1 (hstep_bd _ _).2) (hfold_bd _ _ (hstep_bd _ _).1 (hstep_bd _ _).2) h
  have e : ∀ x : Int, hfold (l ++ x :: r) (hstep 11 K) = hfold r (hstep (hfold l (hstep 11 K)) x) := fun x => by simp [hfold]
  rw [e, e] at h1
  exact hstep_v (hfold_inj r (hstep_bd _ _) (hstep_bd _ _) h1)
section
variable {root a0 a1 a2 a3 a4 v : Int}
theorem smac_num (h : a4 % 2147483647 ≠ v % 2147483647) : smac root a0 a1 a2 a3 a4 ≠ smac root a0 a1 a2 a3 v := fun e => h (khash_mid (l := [23, a0, a1, a2, a3]) (r := []) e)
theorem smac_epoch (h : a3 % 2147483647 ≠ v % 2147483647) : smac root a0 a1 a2 a3 a4 ≠ smac root a0 a1 a2 v a4 := fun e => h (khash_mid (l := [23, a0, a1, a2]) (r := [a4]) e)
theorem smac_cell (h : a1 % 2147483647 ≠ v % 2147483647) : smac root a0 a1 a2 a3 a4 ≠ smac root a0 v a2 a3 a4 := fun e => h (khash_mid (l := [23, a0]) (r := [a2, a3, a4]) e)
end
theorem num_far {n : Int} (h : -1 ≤ n) (h2 : n ≤ 9 ∨ n = 1000000000001) : n % 2147483647 ≠ (gmod n 1000000000000 + 1) % 2147483647 := by
  have e : gmod n 1000000000000 = n % 1000000000000 := if_pos (by decide)
  rw [e]
  rcases h2 with h2 | h2
  · rcases (show n = -1 ∨ n = 0 ∨ n = 1 ∨ n = 2 ∨ n = 3 ∨ n = 4 ∨ n = 5 ∨ n = 6 ∨ n = 7 ∨ n = 8 ∨ n = 9 by omega) with rfl | rfl | rfl | rfl | rfl | rfl | rfl | rfl | rfl | rfl | rfl <;> decide
  · subst h2; decide
theorem one_far {n : Int} (h : -1 ≤ n) (h2 : n ≤ 1000000) : n % 2147483647 ≠ (n + 1) % 2147483647 := by omega
theorem mul_bd2 {x y a b : Int} (h0 : 0 ≤ x) (h1 : x ≤ a) (h2 : 0 ≤ y) (h3 : y ≤ b) : 0 ≤ x * y ∧ x * y ≤ a * b := ⟨Int.mul_nonneg h0 h2, Int.mul_le_mul h1 h3 h2 (by omega)⟩
end Go.Proofs.Ytpbempcbodoajaa
