/-
  The plain functions: what the hash, Mod and their kin compute, and small facts of arithmetic. No program in sight.
-/
namespace Go.Proofs.Ytchkiohikhfecaa

/-- Go's Mod on a right modulus; 0 else. -/
def gmod (n m : Int) : Int := if 1 ≤ m ∧ m ≤ 1000000000000 then n % m else 0
/-- n lies in low .. high. -/
def inR (n low high : Int) : Bool := decide (low ≤ n ∧ n ≤ high)
theorem inR_true {n a b : Int} (h1 : a ≤ n) (h2 : n ≤ b) : inR n a b = true := by simp [inR, h1, h2]
theorem inR_iff {n a b : Int} : inR n a b = true ↔ a ≤ n ∧ n ≤ b := by simp [inR]
theorem inR_false {n a b : Int} (h : ¬ (a ≤ n ∧ n ≤ b)) : inR n a b = false := by simp [inR]; omega

def hstep (acc v : Int) : Int := (acc * 1000003 + v % 2147483647 + 13) % 2147483647
def hfold (l : List Int) (acc : Int) : Int := l.foldl hstep acc
def khash (key : Int) (l : List Int) : Int := hstep (hfold l (hstep 11 key)) key
theorem hstep_bd (a v : Int) : 0 ≤ hstep a v ∧ hstep a v < 2147483647 := by unfold hstep; omega
theorem hfold_bd (l : List Int) : ∀ acc, 0 ≤ acc → acc < 2147483647 → 0 ≤ hfold l acc ∧ hfold l acc < 2147483647 := by
  induction l with
  | nil => intro acc h1 h2; exact ⟨h1, h2⟩
  | cons v l ih => intro acc _ _; exact ih _ (hstep_bd _ _).1 (hstep_bd _ _).2
theorem khash_bd (k : Int) (l : List Int) : 0 ≤ khash k l ∧ khash k l < 2147483647 := hstep_bd _ _
theorem hfold_snoc (l : List Int) (v acc : Int) : hfold (l ++ [v]) acc = hstep (hfold l acc) v := by simp [hfold]
theorem hfold_take (l : List Int) (k : Nat) (h : k < l.length) (acc : Int) : hfold (l.take (k + 1)) acc = hstep (hfold (l.take k) acc) l[k] := by
  rw [List.take_succ_eq_append_getElem h, hfold_snoc]
theorem khash_eq (key : Int) (l : List Int) : khash key l = hfold ([key] ++ l ++ [key]) 11 := by
  simp [khash, hfold]
/-- Go's remainder, made not negative. -/
theorem tmod_fix {p q : Int} (hq : 1 ≤ q) : (if p.tmod q < 0 then p.tmod q + q else p.tmod q) = p % q := by
  rcases Int.le_total 0 p with hp | hp
  · rw [Int.tmod_eq_emod_of_nonneg hp, if_neg (by have := Int.emod_nonneg p (show q ≠ 0 by omega); omega)]
  · have h1 := Int.tmod_eq_emod (a := p) (b := q)
    have h2 := Int.emod_nonneg p (show q ≠ 0 by omega)
    have h3 := Int.emod_lt_of_pos p (show 0 < q by omega)
    rw [h1]
    have hqn : (q.natAbs : Int) = q := by omega
    split <;> split <;> rename_i h4 h5 <;> simp_all <;> omega
theorem tmod_lo {p q : Int} (hq : 1 ≤ q) : -q < p.tmod q := by
  have h1 := Int.tmod_eq_emod (a := p) (b := q)
  have h2 := Int.emod_nonneg p (show q ≠ 0 by omega)
  rw [h1]
  split
  · omega
  · rename_i h
    have h3 : p % q ≠ 0 := fun h0 => h (Or.inr (Int.dvd_of_emod_eq_zero h0))
    omega
theorem tmod_hi {p q : Int} (hq : 1 ≤ q) : p.tmod q < q := Int.tmod_lt_of_pos p (by omega)
theorem tmod_spec {p q : Int} (hq : 1 ≤ q) : (p.tmod q + q).tmod q = p % q := by
  have h1 := tmod_lo (p := p) hq
  rw [Int.tmod_eq_emod_of_nonneg (by omega), Int.add_emod_right]
  have h3 := tmod_fix (p := p) hq
  have h4 := tmod_hi (p := p) hq
  have h2 := Int.emod_nonneg p (show q ≠ 0 by omega)
  have h5 := Int.emod_lt_of_pos p (show 0 < q by omega)
  split at h3
  · rw [← Int.add_emod_right, h3]; exact Int.emod_eq_of_lt h2 h5
  · rw [h3]; exact Int.emod_eq_of_lt h2 h5
end Go.Proofs.Ytchkiohikhfecaa
