/-
  Plain laws of paging: a right state stays right; when a cell is paged.
-/
import Derived.Test.YtkcedoehehjceaaGTu
import Derived.Test.YtkcedoehehjceaaMapL
namespace Go.Proofs.Ytkcedoehehjceaa
open Go.RowKit

theorem vpag_step {a t w : Int} (h : vpag a t w = true) : vpag a (tpA t w) (tpW w) = true := by
  simp only [vpag, Bool.and_eq_true, inR_iff] at h ⊢
  unfold tpA tpW
  split
  · omega
  · split <;> omega
theorem tp_n {L : List (Int × List Int)} {a t w : Int} (h : ¬ 0 < w) : tpW w = 3 ∧ tpA t w ≤ 4 ∧ tpC L a t w = pcells L a (tpA t w) := by
  refine ⟨by rw [tpW, if_neg h], by rw [tpA, if_neg h]; split <;> omega, by rw [tpC, decide_eq_false h, cond_false]⟩
theorem mem_ciaK {L : List (Int × List Int)} {a c : Int} : ∀ {k : Nat}, k ≤ L.length → (c ∈ ciaK L a k ↔ ∃ i : Nat, i < k ∧ c = (i : Int) ∧ ∃ q, L[i]? = some q ∧ q.1 = a)
  | 0, _ => by simp [ciaK]
  | k + 1, hk => by
    have ih := mem_ciaK (L := L) (a := a) (c := c) (k := k) (by omega)
    obtain ⟨q, hq⟩ : ∃ q, L[k]? = some q := ⟨L[k], List.getElem?_eq_getElem (by omega)⟩
    by_cases e : q.1 = a
    · rw [cia_t hq e, List.mem_append, List.mem_singleton, ih]
      constructor
      · rintro (⟨i, h1, h2⟩ | rfl)
        · exact ⟨i, by omega, h2⟩
        · exact ⟨k, by omega, rfl, q, hq, e⟩
      · rintro ⟨i, h1, h2, h3⟩
        rcases Nat.lt_or_ge i k with h | h
        · exact .inl ⟨i, h, h2, h3⟩
        · obtain rfl : i = k := by omega
          exact .inr h2
    · rw [cia_f hq e, ih]
      constructor
      · rintro ⟨i, h1, h2⟩; exact ⟨i, by omega, h2⟩
      · rintro ⟨i, h1, h2, q', h3, h4⟩
        rcases Nat.lt_or_ge i k with h | h
        · exact ⟨i, h, h2, q', h3, h4⟩
        · obtain rfl : i = k := by omega
          rw [hq] at h3; injection h3 with h3; subst h3
          exact absurd h4 e
theorem tup_want {n : Nat} {L : List (Int × List Int)} {a c : Int} {q : Int × List Int} (h : inR c 0 ((n : Int) - 1) = true) (hL : L.length = n) (hq : L[c.toNat]? = some q) : tup n L a c = if q.1 = a ∨ (cia L a).length = 0 then 1 else 5 := by
  obtain ⟨h1, h2⟩ := inR_iff.1 h
  have hm : c ∈ cia L a ↔ q.1 = a := by
    rw [cia, mem_ciaK (Nat.le_refl _)]
    constructor
    · rintro ⟨i, h3, rfl, q', h4, h5⟩
      rw [Int.toNat_natCast, h4] at hq
      injection hq with hq; subst hq; exact h5
    · intro e; exact ⟨c.toNat, by omega, by omega, q, hq, e⟩
  have hp : pcells L a 1 = bif decide (0 < (cia L a).length) then cia L a else upto L.length := by
    rw [pcells, inR_true (by omega) (by omega), cond_true]; simp
  rw [tup, h, cond_true, hp]
  by_cases h0 : (cia L a).length = 0
  · rw [decide_eq_false (by omega), cond_false, hL, if_pos (mem_upto h), if_pos (Or.inr h0)]
  · rw [decide_eq_true (by omega), cond_true]
    by_cases e : q.1 = a
    · rw [if_pos (hm.2 e), if_pos (Or.inl e)]
    · rw [if_neg (fun h => e (hm.1 h)), if_neg (fun h => h.elim e h0)]
theorem reach_eq {n i : Nat} {L : List (Int × List Int)} {a c W : Int} (h : inR c 0 ((n : Int) - 1) = true) (hL : L.length = n) (hw : tup n L a c = W) (hi : (i : Int) + 1 ≤ W) (hW : W = 1 ∨ W = 5) : (decide (c ∈ tpC L a (uA i) (uW i)) == decide ((i : Int) + 1 = W)) = true := by
  rw [beq_iff_eq, decide_eq_decide]
  rw [tup, h, cond_true] at hw
  rcases (show i = 0 ∨ (0 < i ∧ i < 4) ∨ i = 4 by omega) with rfl | ⟨h1, h2⟩ | rfl
  · rw [u_first]
    by_cases hm : c ∈ pcells L a 1
    · rw [if_pos hm] at hw; exact ⟨fun _ => by omega, fun _ => hm⟩
    · rw [if_neg hm] at hw; exact ⟨fun h => absurd h hm, fun h => by omega⟩
  · rw [u_wait h1 h2]
    exact ⟨fun h => (by cases h), fun h => (by omega)⟩
  · rw [u_last, hL]
    exact ⟨fun _ => by omega, fun _ => mem_upto h⟩
end Go.Proofs.Ytkcedoehehjceaa
