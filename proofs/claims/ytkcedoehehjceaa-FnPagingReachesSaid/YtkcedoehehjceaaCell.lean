/-
  Plain facts on cells: marks of ints, the cells of an area, all cells.
-/
import Derived.Test.YtkcedoehehjceaaDeep
namespace Go.Proofs.Ytkcedoehehjceaa
open Go.RowKit

theorem mkL_ok64 (p : Bool) : ∀ (k0 : Int) (L : List (Int × List Int)), -1099511627776 ≤ k0 → k0 + (totL p L : Int) ≤ 1099511627777 → okL .i64 (mkL id p k0 L)
  | _, [], _, _ => okL.nil
  | k0, q :: l, h1, h2 => by
    simp only [totL] at h2
    intro x hx
    simp only [mkL, List.mem_cons] at hx
    rcases hx with rfl | hx
    · refine ⟨by cases p <;> (simp only [cond_true, cond_false]; unfold I64; omega), fun z hz => ?_⟩
      simp only [marks, List.mem_map, List.mem_range, id] at hz
      obtain ⟨i, hi, rfl⟩ := hz
      simp only [Lit.wf, IntKind.min, IntKind.max, IntKind.signed, IntKind.bits]
      simp
      omega
    · exact mkL_ok64 p _ l (by omega) (by omega) x hx
/-- The places of the first k cells that lie in an area. -/
def ciaK (L : List (Int × List Int)) (a : Int) : Nat → List Int
  | 0 => []
  | k + 1 => match L[k]? with
    | some q => bif decide (q.1 = a) then ciaK L a k ++ [(k : Int)] else ciaK L a k
    | none => ciaK L a k
section
variable {L : List (Int × List Int)} {a : Int} {k : Nat} {q : Int × List Int}
theorem cia_t (h : L[k]? = some q) (e : q.1 = a) : ciaK L a (k + 1) = ciaK L a k ++ [(k : Int)] := by simp [ciaK, h, e]
theorem cia_f (h : L[k]? = some q) (e : q.1 ≠ a) : ciaK L a (k + 1) = ciaK L a k := by simp [ciaK, h, e]
theorem cia_len (L : List (Int × List Int)) (a : Int) (k : Nat) : (ciaK L a k).length ≤ k := by
  induction k with
  | zero => simp [ciaK]
  | succ k ih =>
    cases h : L[k]? with
    | none => simp only [ciaK, h]; omega
    | some q =>
      by_cases e : q.1 = a
      · rw [cia_t h e, List.length_append, List.length_singleton]; omega
      · rw [cia_f h e]; omega
end
def cia (L : List (Int × List Int)) (a : Int) : List Int := ciaK L a L.length
/-- All places below n. -/
def upto (n : Nat) : List Int := (List.range n).map fun (i : Nat) => (i : Int)
theorem upto_length (n : Nat) : (upto n).length = n := by simp [upto]
theorem upto_get {n k : Nat} (h : k < n) : (upto n)[k]? = some (k : Int) := by simp [upto, h]
theorem upto_succ (k : Nat) : upto (k + 1) = upto k ++ [(k : Int)] := by simp [upto, List.range_succ]
/-- The cells that a paging attempt pages. -/
def pcells (L : List (Int × List Int)) (area att : Int) : List Int :=
  bif inR att 1 4 then (bif decide (att = 1) && decide (0 < (cia L area).length) then cia L area else upto L.length) else []
theorem pcells_len (L : List (Int × List Int)) (area att : Int) : (pcells L area att).length ≤ L.length := by
  have h1 := cia_len L area L.length
  have h2 := upto_length L.length
  unfold pcells cia
  cases inR att 1 4
  · exact Nat.zero_le _
  · rw [cond_true]
    cases (decide (att = 1) && decide (0 < (ciaK L area L.length).length))
    · rw [cond_false]; omega
    · rw [cond_true]; exact h1
/-- One tick of a pager. -/
def tpA (a1 a2 : Int) : Int := if 0 < a2 then a1 else if a1 < 4 then a1 + 1 else 1
def tpW (a2 : Int) : Int := if 0 < a2 then a2 - 1 else 3
def tpC (L : List (Int × List Int)) (a0 a1 a2 : Int) : List Int := bif decide (0 < a2) then [] else pcells L a0 (tpA a1 a2)
theorem tpC_len (L : List (Int × List Int)) (a0 a1 a2 : Int) : (tpC L a0 a1 a2).length ≤ L.length := by
  unfold tpC
  cases decide (0 < a2)
  · exact pcells_len _ _ _
  · exact Nat.zero_le _
theorem tp_w {L : List (Int × List Int)} {a0 a1 a2 : Int} (h : 0 < a2) : tpA a1 a2 = a1 ∧ tpW a2 = a2 - 1 ∧ tpC L a0 a1 a2 = [] := by
  refine ⟨if_pos h, if_pos h, ?_⟩
  rw [tpC, decide_eq_true h]; rfl
theorem tp_l {L : List (Int × List Int)} {a0 a1 a2 : Int} (h : ¬ 0 < a2) (h4 : a1 < 4) : tpA a1 a2 = a1 + 1 ∧ tpW a2 = 3 ∧ tpC L a0 a1 a2 = pcells L a0 (a1 + 1) := by
  have e : tpA a1 a2 = a1 + 1 := by rw [tpA, if_neg h, if_pos h4]
  refine ⟨e, if_neg h, ?_⟩
  rw [tpC, decide_eq_false h, cond_false, e]
theorem tp_o {L : List (Int × List Int)} {a0 a1 a2 : Int} (h : ¬ 0 < a2) (h4 : ¬ a1 < 4) : tpA a1 a2 = 1 ∧ tpW a2 = 3 ∧ tpC L a0 a1 a2 = pcells L a0 1 := by
  have e : tpA a1 a2 = 1 := by rw [tpA, if_neg h, if_neg h4]
  refine ⟨e, if_neg h, ?_⟩
  rw [tpC, decide_eq_false h, cond_false, e]
theorem tp_bd {a1 a2 : Int} (h1 : I64 a1) (h2 : I64 a2) : I64 (tpA a1 a2) ∧ I64 (tpW a2) := by
  unfold I64 tpA tpW at *
  constructor
  · split
    · omega
    · split <;> omega
  · split <;> omega
/-- The pager at the start of tick i + 1. -/
def uA (i : Nat) : Int := if i = 0 then 0 else 1
def uW (i : Nat) : Int := if i = 0 then 0 else 4 - (i : Int)
theorem u_next {i : Nat} (h : i < 4) : tpA (uA i) (uW i) = uA (i + 1) ∧ tpW (uW i) = uW (i + 1) := by
  rcases (show i = 0 ∨ i = 1 ∨ i = 2 ∨ i = 3 by omega) with rfl | rfl | rfl | rfl <;> exact ⟨by decide, by decide⟩
theorem u_bd {i : Nat} (h : i ≤ 4) : 0 ≤ uA i ∧ uA i ≤ 1 ∧ 0 ≤ uW i ∧ uW i ≤ 3 := by
  rcases (show i = 0 ∨ i = 1 ∨ i = 2 ∨ i = 3 ∨ i = 4 by omega) with rfl | rfl | rfl | rfl | rfl <;> decide
theorem u_first (L : List (Int × List Int)) (a : Int) : tpC L a (uA 0) (uW 0) = pcells L a 1 := rfl
theorem u_wait {L : List (Int × List Int)} {a : Int} {i : Nat} (h : 0 < i) (h4 : i < 4) : tpC L a (uA i) (uW i) = [] := by
  rcases (show i = 1 ∨ i = 2 ∨ i = 3 by omega) with rfl | rfl | rfl <;> rfl
theorem u_last (L : List (Int × List Int)) (a : Int) : tpC L a (uA 4) (uW 4) = upto L.length := rfl
theorem mem_upto {n : Nat} {c : Int} (h : inR c 0 ((n : Int) - 1) = true) : c ∈ upto n := by
  obtain ⟨h1, h2⟩ := inR_iff.1 h
  rw [upto, List.mem_map]
  exact ⟨c.toNat, List.mem_range.2 (by omega), by omega⟩
/-- The tick at which a cell is paged. -/
def tup (n : Nat) (L : List (Int × List Int)) (a c : Int) : Int := bif inR c 0 ((n : Int) - 1) then (if c ∈ pcells L a 1 then 1 else 5) else 0
section
variable {n i : Nat} {L : List (Int × List Int)} {a c : Int}
theorem tup_no (h : inR c 0 ((n : Int) - 1) = false) : (0 : Int) = tup n L a c := by rw [tup, h]; rfl
theorem tup_hit (h : inR c 0 ((n : Int) - 1) = true) (hi : i ≤ 4) (hno : i = 0 ∨ c ∉ pcells L a 1) (hm : c ∈ tpC L a (uA i) (uW i)) : ((i : Nat) : Int) + 1 = tup n L a c := by
  rw [tup, h, cond_true]
  rcases (show i = 0 ∨ (0 < i ∧ i < 4) ∨ i = 4 by omega) with rfl | ⟨h1, h2⟩ | rfl
  · rw [u_first] at hm; rw [if_pos hm]; rfl
  · rw [u_wait h1 h2] at hm; cases hm
  · rw [if_neg (hno.resolve_left (by decide))]; rfl
theorem tup_miss (h : inR c 0 ((n : Int) - 1) = true) (hL : L.length = n) (hi : i ≤ 4) (hno : i = 0 ∨ c ∉ pcells L a 1) (hm : c ∉ tpC L a (uA i) (uW i)) : i < 4 ∧ (i + 1 = 0 ∨ c ∉ pcells L a 1) := by
  have h4 : i ≠ 4 := by
    rintro rfl
    rw [u_last, hL] at hm
    exact hm (mem_upto h)
  refine ⟨by omega, .inr ?_⟩
  rcases Nat.eq_zero_or_pos i with rfl | h0
  · rw [u_first] at hm; exact hm
  · exact hno.resolve_left (by omega)
end
theorem not_take_step {zs : List Int} {k : Nat} {z c : Int} (h : c ∉ zs.take k) (hz : zs[k]? = some z) (hne : z ≠ c) : c ∉ zs.take (k + 1) := by
  rw [take_get hz, List.mem_append, List.mem_singleton]
  rintro (h1 | h1)
  · exact h h1
  · exact hne h1.symm
theorem mem_of_get {zs : List Int} {k : Nat} {z c : Int} (hz : zs[k]? = some z) (h : z = c) : c ∈ zs := h ▸ List.mem_of_getElem? hz
end Go.Proofs.Ytkcedoehehjceaa
