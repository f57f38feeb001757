/-
  Plain facts on windows: a property of all places, what makes a sender valid.
-/
import Derived.Test.YtchkiohikhfecaaDeep
namespace Go.Proofs.Ytchkiohikhfecaa
open Go.RowKit

def allK (P : Nat → Bool) : Nat → Bool
  | 0 => true
  | n + 1 => allK P n && P n
theorem allK_step {P : Nat → Bool} {k : Nat} (h : allK P k = true) (h2 : P k = true) : allK P (k + 1) = true := by simp [allK, h, h2]
theorem allK_bad {P : Nat → Bool} : ∀ {n k : Nat}, k < n → P k = false → allK P n = false
  | n + 1, k, hk, h => by
    rcases Nat.lt_or_ge k n with h1 | h1
    · simp [allK, allK_bad h1 h]
    · obtain rfl : k = n := by omega
      simp [allK, h]
def okS (f : Int) (L : List (Int × List Int)) (k : Nat) : Bool := match L[k]? with
  | some q => decide (q.1 = f + (k : Int)) && decide (q.2.length ≤ 60)
  | none => true
section
variable {f a : Int} {L : List (Int × List Int)} {k n : Nat} {q : Int × List Int}
theorem okS_t (h : L[k]? = some q) (h1 : q.1 = f + (k : Int)) (h2 : q.2.length ≤ 60) : okS f L k = true := by simp [okS, h, h1, h2]
theorem okS_f1 (h : L[k]? = some q) (h1 : q.1 ≠ f + (k : Int)) : okS f L k = false := by simp [okS, h, h1]
theorem okS_f2 (h : L[k]? = some q) (h2 : 60 < q.2.length) : okS f L k = false := by simp [okS, h]; omega
def vsend (a : Int) (L : List (Int × List Int)) : Bool := inR a 1 100000 && decide (L.length ≤ 8) && decide (1 ≤ a - (L.length : Int)) && allK (okS (a - (L.length : Int)) L) L.length
theorem vsend_f1 (h : inR a 1 100000 = false) : false = vsend a L := by simp [vsend, h]
theorem vsend_f2 (hn : L.length = n) (h : 8 < n) : false = vsend a L := by subst hn; have : ¬ L.length ≤ 8 := by omega
                                                                           simp [vsend, this]
theorem vsend_f3 (hn : L.length = n) (h : a - (n : Int) < 1) : false = vsend a L := by
  subst hn
  have : ¬ 1 ≤ a - (L.length : Int) := by omega
  simp [vsend, this]
theorem vsend_f4 (hn : L.length = n) (hk : k < n) (h : okS (a - (n : Int)) L k = false) : false = vsend a L := by subst hn; simp [vsend, allK_bad hk h]
theorem vsend_t (hn : L.length = n) (h1 : inR a 1 100000 = true) (h2 : n ≤ 8) (h3 : 1 ≤ a - (n : Int)) (h4 : allK (okS (a - (n : Int)) L) n = true) : true = vsend a L := by subst hn; simp [vsend, h1, h2, h3, h4]
theorem vsend_e (hn : L.length = n) (h1 : inR a 1 100000 = true) (h2 : n ≤ 8) (h4 : allK (okS (a - (n : Int)) L) n = true) : decide (1 ≤ a - (n : Int)) = vsend a L := by subst hn; simp [vsend, h1, h2, h4]
end
theorem nat_bif_le (b : Bool) (n : Nat) : (bif b then n else 0) ≤ n := by cases b <;> simp
theorem wrap64_bd (x : Int) : -9223372036854775808 ≤ IntKind.wrap .i64 x ∧ IntKind.wrap .i64 x ≤ 9223372036854775807 := by
  rw [IntKind.wrap_i64]
  omega
theorem flat_cellI {p : Bool} {ys : List It} {w : World} {b off k r : Nat} {i : Int} {y : It} {u : Value} (h : ∀ j u, (flat p ys)[j]? = some u → w.cell? ⟨b, off + j, none⟩ = some u) (hi : i = ((k : Nat) : Int)) (hy : ys[k]? = some y) (hu : (cel p y)[r]? = some u) : w.cell? ⟨b, off + Int.toNat i * csz p + r, none⟩ = some u := by
  subst hi; exact flat_cell h hy hu
def okR (a : Int) (L : List (Int × List Int)) (k : Nat) : Bool := match L[k]? with
  | some q => inR q.1 (a + 1) (a + 8 - 1) && decide (q.2.length ≤ 60) && (decide (k = 0) || (match L[k - 1]? with
    | some p => decide (p.1 < q.1)
    | none => true))
  | none => true
def okB (M : List (Int × List Int)) (k : Nat) : Bool := match M[k]? with
  | some q => decide (q.2.length ≤ 60)
  | none => true
section
variable {a : Int} {L M : List (Int × List Int)} {k n m : Nat} {p q : Int × List Int}
theorem okB_t (h : M[k]? = some q) (h2 : q.2.length ≤ 60) : okB M k = true := by simp [okB, h, h2]
theorem okB_f (h : M[k]? = some q) (h2 : 60 < q.2.length) : okB M k = false := by simp [okB, h]; omega
theorem okR_t (h : L[k]? = some q) (h1 : inR q.1 (a + 1) (a + 8 - 1) = true) (h2 : q.2.length ≤ 60) (h3 : k = 0 ∨ ∃ p, L[k - 1]? = some p ∧ p.1 < q.1) : okR a L k = true := by
  rcases h3 with h3 | ⟨p, h3, h4⟩
  · simp only [okR, h, h1]; simp [h2, h3]
  · simp only [okR, h, h1, h3]; simp [h2, h4]
theorem okR_f1 (h : L[k]? = some q) (h1 : inR q.1 (a + 1) (a + 8 - 1) = false) : okR a L k = false := by simp [okR, h, h1]
theorem okR_f2 (h : L[k]? = some q) (h2 : 60 < q.2.length) : okR a L k = false := by
  have : ¬ q.2.length ≤ 60 := by omega
  simp [okR, h, this]
theorem okR_f3 (h : L[k]? = some q) (hk : 0 < k) (hp : L[k - 1]? = some p) (h4 : ¬ p.1 < q.1) : okR a L k = false := by
  have : k ≠ 0 := by omega
  simp only [okR, h, hp]; simp [this, h4]
def vrecv (a : Int) (L M : List (Int × List Int)) : Bool := decide (a = (M.length : Int) + 1) && decide (M.length ≤ 24) && decide (L.length ≤ 8) && allK (okB M) M.length && allK (okR a L) L.length
theorem vr_f1 (hm : M.length = m) (h : a ≠ (m : Int) + 1) : false = vrecv a L M := by subst hm; simp [vrecv, h]
theorem vr_f2 (hm : M.length = m) (h : 24 < m) : false = vrecv a L M := by
  subst hm
  have : ¬ M.length ≤ 24 := by omega
  simp [vrecv, this]
theorem vr_f3 (hm : M.length = m) (h : allK (okB M) m = false) : false = vrecv a L M := by subst hm; simp [vrecv, h]
theorem vr_f4 (hn : L.length = n) (h : 8 < n) : false = vrecv a L M := by
  subst hn
  have : ¬ L.length ≤ 8 := by omega
  simp [vrecv, this]
theorem vr_f5 (hn : L.length = n) (hk : k < n) (h : okR a L k = false) : false = vrecv a L M := by subst hn; simp [vrecv, allK_bad hk h]
theorem vr_t (hn : L.length = n) (hm : M.length = m) (h1 : a = (m : Int) + 1) (h2 : m ≤ 24) (h3 : n ≤ 8) (h4 : allK (okB M) m = true) (h5 : allK (okR a L) n = true) : true = vrecv a L M := by
  subst hn; subst hm; unfold vrecv; rw [decide_eq_true h1, h4, h5]; simp [h2, h3]
theorem vr_e (hn : L.length = n) (hm : M.length = m) (h1 : a = (m : Int) + 1) (h2 : m ≤ 24) (h4 : allK (okB M) m = true) (h5 : allK (okR a L) n = true) : decide ((n : Int) ≤ 8) = vrecv a L M := by
  subst hn; subst hm; unfold vrecv; rw [decide_eq_true h1, h4, h5]; simp [h2]; omega
end
end Go.Proofs.Ytchkiohikhfecaa
