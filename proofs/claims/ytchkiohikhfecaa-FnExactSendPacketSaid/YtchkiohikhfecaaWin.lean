/-
  Plain facts on windows: a property of all places, what makes a sender valid.
-/
import Derived.Test.YtchkiohikhfecaaDeep
namespace Go.Proofs.Ytchkiohikhfecaa
open Go.RowKit

def allK (P : Nat → Bool) : Nat → Bool
  | 0 => true
  | n + 1 => allK P n && P n
theorem allK_step {P : Nat → Bool} {k : Nat} (h : allK P k = true) (h2 : P k = true) : allK P (k + 1) = true := by simp [allK, h, h2]
theorem allK_bad {P : Nat → Bool} : ∀ {n k : Nat}, k < n → P k = false → allK P n = false
  | n + 1, k, hk, h => by
    rcases Nat.lt_or_ge k n with h1 | h1
    · simp [allK, allK_bad h1 h]
    · obtain rfl : k = n := by omega
      simp [allK, h]
def okS (f : Int) (L : List (Int × List Int)) (k : Nat) : Bool := match L[k]? with
  | some q => decide (q.1 = f + (k : Int)) && decide (q.2.length ≤ 60)
  | none => true
section
variable {f a : Int} {L : List (Int × List Int)} {k n : Nat} {q : Int × List Int}
theorem okS_t (h : L[k]? = some q) (h1 : q.1 = f + (k : Int)) (h2 : q.2.length ≤ 60) : okS f L k = true := by simp [okS, h, h1, h2]
theorem okS_f1 (h : L[k]? = some q) (h1 : q.1 ≠ f + (k : Int)) : okS f L k = false := by simp [okS, h, h1]
theorem okS_f2 (h : L[k]? = some q) (h2 : 60 < q.2.length) : okS f L k = false := by simp [okS, h]; omega
def vsend (a : Int) (L : List (Int × List Int)) : Bool := inR a 1 100000 && decide (L.length ≤ 8) && decide (1 ≤ a - (L.length : Int)) && allK (okS (a - (L.length : Int)) L) L.length
theorem vsend_f1 (h : inR a 1 100000 = false) : false = vsend a L := by simp [vsend, h]
theorem vsend_f2 (hn : L.length = n) (h : 8 < n) : false = vsend a L := by subst hn; have : ¬ L.length ≤ 8 := by omega
                                                                           simp [vsend, this]
theorem vsend_f3 (hn : L.length = n) (h : a - (n : Int) < 1) : false = vsend a L := by
  subst hn
  have : ¬ 1 ≤ a - (L.length : Int) := by omega
  simp [vsend, this]
theorem vsend_f4 (hn : L.length = n) (hk : k < n) (h : okS (a - (n : Int)) L k = false) : false = vsend a L := by subst hn; simp [vsend, allK_bad hk h]
theorem vsend_t (hn : L.length = n) (h1 : inR a 1 100000 = true) (h2 : n ≤ 8) (h3 : 1 ≤ a - (n : Int)) (h4 : allK (okS (a - (n : Int)) L) n = true) : true = vsend a L := by subst hn; simp [vsend, h1, h2, h3, h4]
theorem vsend_e (hn : L.length = n) (h1 : inR a 1 100000 = true) (h2 : n ≤ 8) (h4 : allK (okS (a - (n : Int)) L) n = true) : decide (1 ≤ a - (n : Int)) = vsend a L := by subst hn; simp [vsend, h1, h2, h4]
end
theorem nat_bif_le (b : Bool) (n : Nat) : (bif b then n else 0) ≤ n := by cases b <;> simp
theorem wrap64_bd (x : Int) : -9223372036854775808 ≤ IntKind.wrap .i64 x ∧ IntKind.wrap .i64 x ≤ 9223372036854775807 := by
  rw [IntKind.wrap_i64]
  omega
end Go.Proofs.Ytchkiohikhfecaa
