/-
  Plain facts on the replay of a handover: what the queue holds behind the first k steps.
-/
import Derived.Test.YtepfcnpojhlpdaaDeep
namespace Go.Proofs.Ytepfcnpojhlpdaa
open Go.RowKit

/-- waiting, ended, output, and how many of the two paths' packets came. -/
def rstep (L M : List (Int × List Int)) (s : List (Int × List Int) × Bool × List (Int × List Int) × Nat × Nat) (z : Int) : List (Int × List Int) × Bool × List (Int × List Int) × Nat × Nat :=
  match s with
  | (W, e, O, f, d) =>
    if z = 0 then
      match L[f]? with
      | some q => (W, e, (bif e then O else O ++ [((0 : Int), q.2)]), f + 1, d)
      | none => ((bif e then W else []), true, (bif e then O else O ++ W), f, d)
    else if z = 1 then
      match M[d]? with
      | some q => ((bif e then W else W ++ [((0 : Int), q.2)]), e, (bif e then O ++ [((0 : Int), q.2)] else O), f, d + 1)
      | none => (W, e, O, f, d)
    else (W, e, O, f, d)
def rp (L M : List (Int × List Int)) (zs : List Int) : Nat → List (Int × List Int) × Bool × List (Int × List Int) × Nat × Nat
  | 0 => ([], false, [], 0, 0)
  | k + 1 => match zs[k]? with
    | some z => rstep L M (rp L M zs k) z
    | none => rp L M zs k
section
variable {L M W O : List (Int × List Int)} {zs : List Int} {k f d : Nat} {e : Bool} {z : Int} {q : Int × List Int}
theorem rp_F (hs : rp L M zs k = (W, e, O, f, d)) (hz : zs[k]? = some z) (h0 : z = 0) (hq : L[f]? = some q) : rp L M zs (k + 1) = (W, e, (bif e then O else O ++ [((0 : Int), q.2)]), f + 1, d) := by
  simp only [rp, hz, hs, rstep, h0, ↓reduceIte, hq]
theorem rp_E (hs : rp L M zs k = (W, e, O, f, d)) (hz : zs[k]? = some z) (h0 : z = 0) (hf : L.length ≤ f) : rp L M zs (k + 1) = ((bif e then W else []), true, (bif e then O else O ++ W), f, d) := by
  simp only [rp, hz, hs, rstep, h0, ↓reduceIte, List.getElem?_eq_none hf]
theorem rp_E2 (hs : rp L M zs k = (W, e, O, f, d)) (hz : zs[k]? = some z) (h0 : z = 0) (hf : L.length ≤ f) (he : e.toNat = 1) : rp L M zs (k + 1) = (W, e, O, f, d) := by
  rw [rp_E hs hz h0 hf]
  cases e
  · cases he
  · rfl
theorem rp_D (hs : rp L M zs k = (W, e, O, f, d)) (hz : zs[k]? = some z) (h1 : z = 1) (hq : M[d]? = some q) : rp L M zs (k + 1) = ((bif e then W else W ++ [((0 : Int), q.2)]), e, (bif e then O ++ [((0 : Int), q.2)] else O), f, d + 1) := by
  have h0 : ¬ (1 : Int) = 0 := by decide
  simp only [rp, hz, hs, rstep, h1, h0, ↓reduceIte, ↓reduceIte, hq]
theorem rp_0 (hs : rp L M zs k = (W, e, O, f, d)) (hz : zs[k]? = some z) (h0 : z ≠ 0) (h1 : z ≠ 1 ∨ M.length ≤ d) : rp L M zs (k + 1) = (W, e, O, f, d) := by
  simp only [rp, hz, hs, rstep, h0, ↓reduceIte]
  rcases h1 with h1 | h1
  · simp only [h1, ↓reduceIte]
  · by_cases hz1 : z = 1
    · simp only [hz1, ↓reduceIte, List.getElem?_eq_none h1]
    · simp only [hz1, ↓reduceIte]
end
theorem wt_take_succ {L : List (Int × List Int)} {k : Nat} {q : Int × List Int} (h : L[k]? = some q) : wt (L.take (k + 1)) = wt (L.take k) + (q.2.length + 1) := by rw [take_get h, wt_append]; rfl
/-- What holds behind every step. -/
theorem rp_inv (L M : List (Int × List Int)) (zs : List Int) : ∀ (k : Nat) (W O : List (Int × List Int)) (e : Bool) (f d : Nat), rp L M zs k = (W, e, O, f, d) →
    wt W + wt O ≤ wt (L.take f) + wt (M.take d) ∧ f ≤ L.length ∧ d ≤ M.length ∧ (e.toNat = 1 → f = L.length)
  | 0, W, O, e, f, d, h => by
    simp only [rp, Prod.mk.injEq] at h
    obtain ⟨rfl, rfl, rfl, rfl, rfl⟩ := h
    refine ⟨by simp [wt], Nat.zero_le _, Nat.zero_le _, fun h => by cases h⟩
  | k + 1, W', O', e', f', d', h => by
    rcases hs : rp L M zs k with ⟨W, e, O, f, d⟩
    obtain ⟨i1, i2, i3, i4⟩ := rp_inv L M zs k W O e f d hs
    simp only [rp] at h
    split at h
    · rename_i z hz
      rw [hs] at h
      simp only [rstep] at h
      split at h
      · split at h
        · rename_i q hq
          simp only [Prod.mk.injEq] at h
          obtain ⟨rfl, rfl, rfl, rfl, rfl⟩ := h
          have hf := (List.getElem?_eq_some_iff.1 hq).1
          rw [wt_take_succ hq]
          refine ⟨?_, by omega, i3, fun h => by have := i4 h; omega⟩
          cases e <;> simp only [cond_true, cond_false, wt_append, wt] <;> omega
        · rename_i hq
          simp only [Prod.mk.injEq] at h
          obtain ⟨rfl, rfl, rfl, rfl, rfl⟩ := h
          have hf := List.getElem?_eq_none_iff.1 hq
          refine ⟨?_, i2, i3, fun _ => by omega⟩
          cases e <;> simp only [cond_true, cond_false, wt_append, wt] <;> omega
      · split at h
        · split at h
          · rename_i q hq
            simp only [Prod.mk.injEq] at h
            obtain ⟨rfl, rfl, rfl, rfl, rfl⟩ := h
            have hf := (List.getElem?_eq_some_iff.1 hq).1
            rw [wt_take_succ hq]
            refine ⟨?_, i2, by omega, i4⟩
            cases e <;> simp only [cond_true, cond_false, wt_append, wt] <;> omega
          · simp only [Prod.mk.injEq] at h
            obtain ⟨rfl, rfl, rfl, rfl, rfl⟩ := h
            exact ⟨i1, i2, i3, i4⟩
        · simp only [Prod.mk.injEq] at h
          obtain ⟨rfl, rfl, rfl, rfl, rfl⟩ := h
          exact ⟨i1, i2, i3, i4⟩
    · rw [hs] at h
      simp only [Prod.mk.injEq] at h
      obtain ⟨rfl, rfl, rfl, rfl, rfl⟩ := h
      exact ⟨i1, i2, i3, i4⟩
/-- The queue behind all steps. -/
def rpW (L M : List (Int × List Int)) (zs : List Int) : List (Int × List Int) := (rp L M zs zs.length).1
def rpE (L M : List (Int × List Int)) (zs : List Int) : Bool := (rp L M zs zs.length).2.1
def rpO (L M : List (Int × List Int)) (zs : List Int) : List (Int × List Int) := (rp L M zs zs.length).2.2.1
end Go.Proofs.Ytepfcnpojhlpdaa
