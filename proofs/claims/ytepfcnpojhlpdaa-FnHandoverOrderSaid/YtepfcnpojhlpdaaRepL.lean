/-
  Plain law of the replay: the output is a prefix of all packets in their order, and with enough more steps all of them.
-/
import Derived.Test.YtepfcnpojhlpdaaRep
namespace Go.Proofs.Ytepfcnpojhlpdaa
open Go.RowKit

def rinit : List (Int × List Int) × Bool × List (Int × List Int) × Nat × Nat := ([], false, [], 0, 0)
theorem rp_fold (L M : List (Int × List Int)) (zs : List Int) : ∀ k, k ≤ zs.length → rp L M zs k = (zs.take k).foldl (rstep L M) rinit
  | 0, _ => by simp [rp, rinit]
  | k + 1, h => by
    obtain ⟨z, hz⟩ : ∃ z, zs[k]? = some z := ⟨_, List.getElem?_eq_getElem (by omega)⟩
    rw [take_get hz, List.foldl_append, ← rp_fold L M zs k (by omega)]
    simp only [rp, hz, List.foldl_cons, List.foldl_nil]
theorem rp_all (L M : List (Int × List Int)) (zs : List Int) : rp L M zs zs.length = zs.foldl (rstep L M) rinit := by rw [rp_fold L M zs _ (Nat.le_refl _), List.take_length]
/-- What the queue holds at any time. -/
def RInv (L M : List (Int × List Int)) (s : List (Int × List Int) × Bool × List (Int × List Int) × Nat × Nat) : Prop :=
  s.2.2.2.1 ≤ L.length ∧ s.2.2.2.2 ≤ M.length ∧ (s.2.1 = false → s.2.2.1 = L.take s.2.2.2.1 ∧ s.1 = M.take s.2.2.2.2) ∧ (s.2.1 = true → s.2.2.2.1 = L.length ∧ s.2.2.1 = L ++ M.take s.2.2.2.2 ∧ s.1 = [])
def zero1 (L : List (Int × List Int)) : Prop := ∀ q ∈ L, q.1 = 0
theorem zero1_get {L : List (Int × List Int)} (h : zero1 L) {k : Nat} {q : Int × List Int} (hq : L[k]? = some q) : ((0 : Int), q.2) = q := by
  have := h q (List.mem_of_getElem? hq)
  obtain ⟨a, b⟩ := q
  simp only at this; subst this; rfl
theorem zero1_con (ys : List It) : zero1 (ys.map (con false)) := by
  intro q hq
  obtain ⟨y, _, rfl⟩ := List.mem_map.1 hq
  rfl
theorem rstep_inv {L M : List (Int × List Int)} (hL : zero1 L) (hM : zero1 M) (s : List (Int × List Int) × Bool × List (Int × List Int) × Nat × Nat) (z : Int) (h : RInv L M s) : RInv L M (rstep L M s z) := by
  obtain ⟨W, e, O, f, d⟩ := s
  obtain ⟨i1, i2, i3, i4⟩ := h
  simp only at i1 i2 i3 i4
  simp only [rstep]
  split
  · split
    · rename_i q hq
      have hf := (List.getElem?_eq_some_iff.1 hq).1
      cases e with
      | false =>
        obtain ⟨h1, h2⟩ := i3 rfl
        subst h1; subst h2
        refine ⟨hf, i2, fun _ => ⟨?_, rfl⟩, fun h => by cases h⟩
        show L.take f ++ [((0 : Int), q.2)] = L.take (f + 1)
        rw [zero1_get hL hq, take_get hq]
      | true =>
        have := (i4 rfl).1
        omega
    · rename_i hq
      have hf := List.getElem?_eq_none_iff.1 hq
      cases e with
      | false =>
        obtain ⟨h1, h2⟩ := i3 rfl
        subst h1; subst h2
        refine ⟨i1, i2, fun h => (by cases h), fun _ => ⟨by show f = L.length; omega, ?_, rfl⟩⟩
        show L.take f ++ M.take d = L ++ M.take d
        rw [List.take_of_length_le hf]
      | true => exact ⟨i1, i2, fun h => (by cases h), fun _ => i4 rfl⟩
  · split
    · split
      · rename_i q hq
        have hd := (List.getElem?_eq_some_iff.1 hq).1
        cases e with
        | false =>
          obtain ⟨h1, h2⟩ := i3 rfl
          subst h1; subst h2
          refine ⟨i1, hd, fun _ => ⟨rfl, ?_⟩, fun h => by cases h⟩
          show M.take d ++ [((0 : Int), q.2)] = M.take (d + 1)
          rw [zero1_get hM hq, take_get hq]
        | true =>
          obtain ⟨h1, h2, h3⟩ := i4 rfl
          subst h2; subst h3
          refine ⟨i1, hd, fun h => (by cases h), fun _ => ⟨h1, ?_, rfl⟩⟩
          show L ++ M.take d ++ [((0 : Int), q.2)] = L ++ M.take (d + 1)
          rw [zero1_get hM hq, take_get hq, List.append_assoc]
      · exact ⟨i1, i2, i3, i4⟩
    · exact ⟨i1, i2, i3, i4⟩
theorem rfold_inv {L M : List (Int × List Int)} (hL : zero1 L) (hM : zero1 M) : ∀ (zs : List Int) (s : List (Int × List Int) × Bool × List (Int × List Int) × Nat × Nat), RInv L M s → RInv L M (zs.foldl (rstep L M) s)
  | [], s, h => h
  | z :: zs, s, h => rfold_inv hL hM zs _ (rstep_inv hL hM s z h)
theorem rinit_inv (L M : List (Int × List Int)) : RInv L M rinit := ⟨Nat.zero_le _, Nat.zero_le _, fun _ => ⟨by simp [rinit], by simp [rinit]⟩, fun h => by cases h⟩
/-- The output is a prefix. -/
theorem rpO_pre {L M : List (Int × List Int)} (hL : zero1 L) (hM : zero1 M) (zs : List Int) : pre (rpO L M zs) (L ++ M) = true := by
  have h := rfold_inv hL hM zs rinit (rinit_inv L M)
  rw [← rp_all] at h
  obtain ⟨h1, h2, h3, h4⟩ := h
  unfold rpO pre
  refine decide_eq_true ?_
  generalize rp L M zs zs.length = s at *
  obtain ⟨W, e, O, f, d⟩ := s
  simp only at h1 h2 h3 h4 ⊢
  cases e with
  | false =>
    obtain ⟨h5, h6⟩ := h3 rfl
    subst h5
    rw [List.length_take, Nat.min_eq_left h1, List.take_append_of_le_length h1]
  | true =>
    obtain ⟨h5, h6, h7⟩ := h4 rfl
    subst h6
    rw [List.length_append, List.length_take, Nat.min_eq_left h2, List.take_length_add_append]
theorem rzero_true {L M : List (Int × List Int)} : ∀ (n : Nat) (s : List (Int × List Int) × Bool × List (Int × List Int) × Nat × Nat), s.2.1 = true → ((List.replicate n (0 : Int)).foldl (rstep L M) s).2.1 = true
  | 0, s, h => h
  | n + 1, (W, e, O, f, d), h => by
    rw [List.replicate_succ, List.foldl_cons]
    refine rzero_true n _ ?_
    simp only at h; subst h
    simp only [rstep, ↓reduceIte]
    split <;> rfl
theorem rzero {L M : List (Int × List Int)} : ∀ (n : Nat) (s : List (Int × List Int) × Bool × List (Int × List Int) × Nat × Nat), s.2.2.2.1 ≤ L.length → L.length + 1 ≤ s.2.2.2.1 + n → ((List.replicate n (0 : Int)).foldl (rstep L M) s).2.1 = true
  | 0, (W, e, O, f, d), h1, h2 => by simp only at h1 h2; omega
  | n + 1, (W, e, O, f, d), h1, h2 => by
    simp only at h1 h2
    rw [List.replicate_succ, List.foldl_cons]
    by_cases hf : f < L.length
    · refine rzero n _ ?_ ?_
      · simp only [rstep, ↓reduceIte, List.getElem?_eq_getElem hf]; omega
      · simp only [rstep, ↓reduceIte, List.getElem?_eq_getElem hf]; omega
    · refine rzero_true n _ ?_
      simp only [rstep, ↓reduceIte, List.getElem?_eq_none (show L.length ≤ f by omega)]
theorem rone {L M : List (Int × List Int)} : ∀ (n : Nat) (s : List (Int × List Int) × Bool × List (Int × List Int) × Nat × Nat), s.2.1 = true → s.2.2.2.2 ≤ M.length → M.length ≤ s.2.2.2.2 + n → ((List.replicate n (1 : Int)).foldl (rstep L M) s).2.1 = true ∧ ((List.replicate n (1 : Int)).foldl (rstep L M) s).2.2.2.2 = M.length
  | 0, (W, e, O, f, d), h0, h1, h2 => by simp only at h0 h1 h2; exact ⟨h0, by show d = M.length; omega⟩
  | n + 1, (W, e, O, f, d), h0, h1, h2 => by
    simp only at h0 h1 h2
    have n0 : ¬ (1 : Int) = 0 := by decide
    rw [List.replicate_succ, List.foldl_cons]
    by_cases hd : d < M.length
    · refine rone n _ ?_ ?_ ?_
      · simp only [rstep, n0, ↓reduceIte, ↓reduceIte, List.getElem?_eq_getElem hd]; exact h0
      · simp only [rstep, n0, ↓reduceIte, ↓reduceIte, List.getElem?_eq_getElem hd]; omega
      · simp only [rstep, n0, ↓reduceIte, ↓reduceIte, List.getElem?_eq_getElem hd]; omega
    · refine rone n _ ?_ ?_ ?_
      · simp only [rstep, n0, ↓reduceIte, ↓reduceIte, List.getElem?_eq_none (show M.length ≤ d by omega)]; exact h0
      · simp only [rstep, n0, ↓reduceIte, ↓reduceIte, List.getElem?_eq_none (show M.length ≤ d by omega)]; omega
      · simp only [rstep, n0, ↓reduceIte, ↓reduceIte, List.getElem?_eq_none (show M.length ≤ d by omega)]; omega
/-- With enough more steps all packets are out. -/
theorem rp_full {L M : List (Int × List Int)} (hL : zero1 L) (hM : zero1 M) (zs : List Int) {a b : Nat} (ha : L.length + 1 ≤ a) (hb : M.length ≤ b) :
    rpO L M (zs ++ List.replicate a 0 ++ List.replicate b 1) = L ++ M ∧ rpW L M (zs ++ List.replicate a 0 ++ List.replicate b 1) = [] ∧ rpE L M (zs ++ List.replicate a 0 ++ List.replicate b 1) = true := by
  have i0 := rfold_inv hL hM zs rinit (rinit_inv L M)
  have i1 := rfold_inv hL hM (List.replicate a 0) _ i0
  have i2 := rfold_inv hL hM (List.replicate b 1) _ i1
  have e1 := rzero (M := M) a _ i0.1 (by omega)
  have e2 := rone (L := L) b _ e1 i1.2.1 (by omega)
  unfold rpO rpW rpE
  rw [rp_all, List.foldl_append, List.foldl_append]
  obtain ⟨_, _, _, h4⟩ := i2
  obtain ⟨_, h6, h7⟩ := h4 e2.1
  rw [e2.2, List.take_length] at h6
  exact ⟨h6, h7, e2.1⟩
theorem rstep_ok {κ : IntKind} {L M : List (Int × List Int)} (hL : okL κ L) (hM : okL κ M) (s : List (Int × List Int) × Bool × List (Int × List Int) × Nat × Nat) (z : Int) (h : okL κ s.1 ∧ okL κ s.2.2.1) : okL κ (rstep L M s z).1 ∧ okL κ (rstep L M s z).2.2.1 := by
  obtain ⟨W, e, O, f, d⟩ := s
  obtain ⟨h1, h2⟩ := h
  simp only at h1 h2
  simp only [rstep]
  have one : ∀ {N : List (Int × List Int)} {k : Nat} {q : Int × List Int}, okL κ N → N[k]? = some q → okL κ [((0 : Int), q.2)] := fun hN hq => okL.one ⟨by decide, by decide⟩ (hN _ (List.mem_of_getElem? hq)).2
  split
  · split
    · rename_i q hq
      exact ⟨h1, okL.bif _ h2 (okL.append h2 (one hL hq))⟩
    · exact ⟨okL.bif _ h1 okL.nil, okL.bif _ h2 (okL.append h2 h1)⟩
  · split
    · split
      · rename_i q hq
        exact ⟨okL.bif _ h1 (okL.append h1 (one hM hq)), okL.bif _ (okL.append h2 (one hM hq)) h2⟩
      · exact ⟨h1, h2⟩
    · exact ⟨h1, h2⟩
theorem rp_ok {κ : IntKind} {L M : List (Int × List Int)} (hL : okL κ L) (hM : okL κ M) (zs : List Int) : okL κ (rpW L M zs) ∧ okL κ (rpO L M zs) := by
  have key : ∀ (zs : List Int) (s : List (Int × List Int) × Bool × List (Int × List Int) × Nat × Nat), okL κ s.1 ∧ okL κ s.2.2.1 → okL κ (zs.foldl (rstep L M) s).1 ∧ okL κ (zs.foldl (rstep L M) s).2.2.1 := by
    intro zs
    induction zs with
    | nil => exact fun _ h => h
    | cons z zs ih => exact fun s h => ih _ (rstep_ok hL hM s z h)
  unfold rpW rpO
  rw [rp_all]
  exact key zs rinit ⟨okL.nil, okL.nil⟩
theorem rp_wt (L M : List (Int × List Int)) (zs : List Int) : wt (rpW L M zs) + wt (rpO L M zs) ≤ wt L + wt M := by
  unfold rpW rpO
  rcases hs : rp L M zs zs.length with ⟨W, e, O, f, d⟩
  obtain ⟨h1, _⟩ := rp_inv L M zs _ W O e f d hs
  have h2 := wt_take L f
  have h3 := wt_take M d
  simp only
  omega
theorem flat_cellJ {p : Bool} {ys : List It} {w : World} {b off k r : Nat} {i : Int} {y : It} {u : Value} (h : ∀ j u, (flat p ys)[j]? = some u → w.cell? ⟨b, off + j, none⟩ = some u) (hi : i = ((k : Nat) : Int)) (hy : ys[k]? = some y) (hu : (cel p y)[r]? = some u) : w.cell? ⟨b, off + Int.toNat i * csz p + r, none⟩ = some u := by
  subst hi; exact flat_cell h hy hu
theorem St.nil2 {w0 w : World} {own : List Res} (h : St w0 w own) (e : TypeId) (sz : Nat) : St w0 w (.row (.slice none 0 0) e sz 0 [] :: .row (.slice none 0 0) e sz 0 [] :: own) := (h.nilrow e sz).nilrow e sz
end Go.Proofs.Ytepfcnpojhlpdaa
