/-
  Plain law of a send window: what a packet that is sent changes, and what acknowledgments remove.
-/
import Derived.Test.YtchkiohikhfecaaGAk
namespace Go.Proofs.Ytchkiohikhfecaa
open Go.RowKit

theorem sA_bd {a : Int} {L : List (Int × List Int)} {z : List Int} (h1 : 1 ≤ a) (h2 : a ≤ 1000) : 1 ≤ sA a L z ∧ sA a L z ≤ a + 1 := by
  unfold sA
  have := in64 (n := a + 1) (by omega) (by omega)
  unfold InK at this
  rw [this]
  cases sOk a L z <;> simp only [cond_true, cond_false] <;> omega
theorem allK_get {P : Nat → Bool} : ∀ {n k : Nat}, allK P n = true → k < n → P k = true
  | 0, _, _, h => by omega
  | n + 1, k, h, hk => by
    simp only [allK, Bool.and_eq_true] at h
    by_cases e : k = n
    · subst e; first | exact h.2 | exact h.1
    · first | exact allK_get h.1 (by omega) | exact allK_get h.2 (by omega)
theorem fL_all {nx : Int} {L : List (Int × List Int)} (h : ∀ q ∈ L, q.1 < nx) : fL nx L = [] := by
  unfold fL
  rw [List.filter_eq_nil_iff]
  intro q hq
  have := h q hq
  simp only [decide_eq_true_eq]
  omega
theorem sM_eq (a : Int) (L : List (Int × List Int)) (z : List Int) : sM a L z = (sZ a L z).length := by
  unfold sM sZ
  cases sOk a L z <;> rfl
theorem sZ_ok {a : Int} {L : List (Int × List Int)} {z : List Int} (h : okz .u8 z) : okz .u8 (sZ a L z) := by
  unfold sZ
  cases sOk a L z
  · exact fun z h => by simp at h
  · exact h
theorem send_law {a : Int} {L : List (Int × List Int)} {z : List Int} (h0 : 0 ≤ a) (h1 : a ≤ 100001) (h : sOk a L z = true) :
    sA a L z = a + 1 ∧ sB a L z = a ∧ sL a L z = L ++ [(a, z)] ∧ sZ a L z = z ∧ sM a L z = z.length ∧ vsend (a + 1) (L ++ [(a, z)]) = true ∧ ackL (a + 1) (a + 1) (L ++ [(a, z)]) = [] ∧ ackL a (a + 1) (L ++ [(a, z)]) = [(a, z)] ∧ ackL (a + 1 + 1) (a + 1) (L ++ [(a, z)]) = L ++ [(a, z)] ∧ L.length + 1 ≤ 8 := by
  have e : IntKind.wrap .i64 (a + 1) = a + 1 := in64 (by omega) (by omega)
  have hv : vsend (a + 1) (L ++ [(a, z)]) = true := by unfold sOk at h; rw [e] at h; exact h
  have hv' := hv
  simp only [vsend, Bool.and_eq_true, decide_eq_true_eq, List.length_append, List.length_singleton] at hv'
  obtain ⟨⟨⟨_, hl⟩, _⟩, hk⟩ := hv'
  have hlt : ∀ q ∈ L, q.1 < a := by
    intro q hq
    obtain ⟨k, hk1, rfl⟩ := List.mem_iff_getElem.1 hq
    have hq2 := allK_get hk (k := k) (by omega)
    unfold okS at hq2
    rw [List.getElem?_append_left hk1, List.getElem?_eq_getElem hk1] at hq2
    simp only [Bool.and_eq_true, decide_eq_true_eq] at hq2
    omega
  refine ⟨?_, ?_, ?_, ?_, ?_, hv, ?_, ?_, ?_, by omega⟩
  · unfold sA; rw [h, cond_true, e]
  · unfold sB; rw [h, cond_true]
  · unfold sL; rw [h, cond_true]
  · unfold sZ; rw [h, cond_true]
  · unfold sM; rw [h, cond_true]
  · unfold ackL
    rw [if_neg (by omega)]
    refine fL_all fun q hq => ?_
    rcases List.mem_append.1 hq with hq | hq
    · have := hlt q hq; omega
    · rw [List.mem_singleton] at hq; subst hq; show a < a + 1; omega
  · unfold ackL
    rw [if_neg (by omega)]
    have := fL_all (nx := a) hlt
    unfold fL at this ⊢
    rw [List.filter_append, this, List.nil_append, List.filter_cons, if_pos (by simp)]
    rfl
  · unfold ackL
    rw [if_pos (by omega)]
end Go.Proofs.Ytchkiohikhfecaa
