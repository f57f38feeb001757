/-
  The plain laws of the server pool: what select, backup and setU do to one another. No program is walked here.
-/
import Derived.Test.YtidefcakodnffaaPool6
namespace Go.Proofs.Ytidefcakodnffaa
open Go.RowKit

def andN (u i : Nat) : Int := bits BinOp.andNot IntKind.i64 (u : Int) (wrap64 (2 ^ i))
def orN (u i : Nat) : Int := bits BinOp.or IntKind.i64 (u : Int) (wrap64 (2 ^ i))
def bitN (u : Int) (i : Nat) : Bool := bits BinOp.and IntKind.i64 (u / 2 ^ i) 1 == 1
def chk1 : Bool := (List.range 6).all fun i => (List.range 64).all fun u =>
  decide (0 ≤ andN u i) && decide (andN u i ≤ u) && !bitN (andN u i) i && decide (0 ≤ orN u i) && bitN (orN u i) i
    && (bitN u i || decide (andN u i = u)) && (!bitN u i || decide (orN (andN u i).toNat i = (u : Int))) && (List.range 6).all fun j => j == i || (bitN (andN u i) j == bitN u j)
theorem chk1_ok : chk1 = true := by decide +kernel
def chk2 : Bool := (List.range 7).all fun s => (List.range 64).all fun u => u == 0 || decide (2 ^ s ≤ u) || (List.range s).any fun i => bitN u i
theorem chk2_ok : chk2 = true := by decide +kernel

theorem bit_facts {u i : Nat} (hu : u < 64) (hi : i < 6) : 0 ≤ andN u i ∧ andN u i ≤ u ∧ bitN (andN u i) i = false ∧ 0 ≤ orN u i ∧ bitN (orN u i) i = true ∧ (bitN u i = false → andN u i = u) ∧ (bitN u i = true → orN (andN u i).toNat i = (u : Int)) ∧ ∀ j, j < 6 → j ≠ i → bitN (andN u i) j = bitN u j := by
  have h := chk1_ok
  simp only [chk1, List.all_eq_true, List.mem_range] at h
  have h := h i hi u hu
  simp only [Bool.and_eq_true, Bool.or_eq_true, List.all_eq_true, List.mem_range, decide_eq_true_eq, Bool.not_eq_true', beq_iff_eq] at h
  obtain ⟨⟨⟨⟨⟨⟨⟨h1, h2⟩, h3⟩, h4⟩, h5⟩, h6⟩, h7⟩, h8⟩ := h
  refine ⟨h1, h2, h3, h4, h5, fun e => ?_, fun e => ?_, fun j hj hne => ?_⟩
  · rcases h6 with h6 | h6
    · rw [e] at h6; cases h6
    · exact h6
  · rcases h7 with h7 | h7
    · rw [e] at h7; cases h7
    · exact h7
  · rcases h8 j hj with h8 | h8
    · exact absurd h8 hne
    · exact h8
theorem some_bit {s u : Nat} (hs : s < 7) (hu : u < 64) (h0 : u ≠ 0) (hlt : u < 2 ^ s) : ∃ i, i < s ∧ bitN u i = true := by
  have h := chk2_ok
  simp only [chk2, List.all_eq_true, List.mem_range] at h
  have h := h s hs u hu
  simp only [Bool.or_eq_true, List.any_eq_true, List.mem_range, decide_eq_true_eq, beq_iff_eq] at h
  rcases h with (h | h) | h
  · exact absurd h h0
  · omega
  · exact h

theorem vpool_top {s u : Int} (h : vpool s u = true) : u < 2 ^ s.toNat := by
  simp only [vpool, Bool.and_eq_true, inR_iff] at h
  omega
theorem upB_bit {s u : Int} (h : vpool s u = true) {j : Nat} (hj : (j : Int) < s) : upB s u j = bitN u j := by
  have e : inR (j : Int) 0 (s - 1) = true := inR_true (by omega) (by omega)
  simp [upB, h, e, bitN]
theorem upB_out {s u i : Int} (h : upB s u i = true) : vpool s u = true ∧ 0 ≤ i ∧ i < s := by
  simp only [upB, Bool.and_eq_true, inR_iff] at h
  exact ⟨h.1, h.2.1.1, by omega⟩
/-- A server is taken out of a right pool. -/
theorem setU_facts {s u : Int} (h : vpool s u = true) {i : Nat} (hi : (i : Int) < s) :
    vpool s (setU s u i false) = true ∧ upB s (setU s u i false) i = false ∧ (∀ j : Nat, (j : Int) < s → j ≠ i → upB s (setU s u i false) j = upB s u j) ∧ setU s (setU s u i false) i (upB s u i) = u := by
  obtain ⟨v1, v2, v3, v4⟩ := vpool_bd h
  have ht := vpool_top h
  obtain ⟨n, rfl⟩ := Int.eq_ofNat_of_zero_le v3
  have e : inR (i : Int) 0 (s - 1) = true := inR_true (by omega) (by omega)
  have f := bit_facts (u := n) (i := i) (by omega) (by omega)
  have es : setU s n i false = andN n i := by simp [setU, h, e, andN]
  have hv : vpool s (andN n i) = true := by
    simp only [vpool, Bool.and_eq_true, inR_iff] at h ⊢
    refine ⟨h.1, f.1, ?_⟩
    have := f.2.1
    omega
  rw [es]
  refine ⟨hv, by rw [upB_bit hv hi]; exact f.2.2.1, fun j hj hne => by rw [upB_bit hv hj, upB_bit h hj]; exact f.2.2.2.2.2.2.2 j (by omega) hne, ?_⟩
  rw [upB_bit h hi]
  cases hb : bitN n i
  · have e1 := f.2.2.2.2.2.1 hb
    rw [e1]
    simp only [setU, h, e, Bool.and_self, if_true]
    exact e1
  · have e1 := f.2.2.2.2.2.2.1 hb
    simp only [setU, hv, e, Bool.and_self, if_true]
    have e2 : ((andN n i).toNat : Int) = andN n i := Int.toNat_of_nonneg f.1
    unfold orN at e1
    rw [e2] at e1
    simpa using e1

/-- What the choice among the first n servers is. -/
def Best (s u key : Int) (n : Nat) (b : Nat) : Prop := b < n ∧ upB s u b = true ∧ (∀ j : Nat, j < n → upB s u j = true → rweight j key ≤ rweight b key) ∧ (∀ j : Nat, j < b → upB s u j = true → rweight j key < rweight b key)
theorem selP_none {s u key : Int} : ∀ {n : Nat}, (∀ j : Nat, j < n → upB s u j = false) → selP s u key n = (-1, -1)
  | 0, _ => rfl
  | n + 1, h => by rw [selP_skip (h n (by omega)), selP_none (fun j hj => h j (by omega))]
theorem selP_best {s u key : Int} : ∀ {n b : Nat}, Best s u key n b → selP s u key n = ((b : Int), rweight b key)
  | 0, b, h => absurd h.1 (by omega)
  | n + 1, b, ⟨h1, h2, h3, h4⟩ => by
    rcases Nat.lt_or_ge b n with hb | hb
    · have ih := selP_best (n := n) (b := b) ⟨hb, h2, fun j hj => h3 j (by omega), h4⟩
      cases hu : upB s u n
      · rw [selP_skip hu, ih]
      · rw [selP_keep (by rw [ih]; have := h3 n (by omega) hu; simp only; omega), ih]
    · obtain rfl : b = n := by omega
      refine selP_take h2 ?_
      have hw := rweight_bd b key
      rcases selP_inv s u key b with ⟨_, e2, _⟩ | ⟨e1, e2, e3, e4, _⟩
      · omega
      · rw [e3]
        obtain ⟨m, hm⟩ := Int.eq_ofNat_of_zero_le e1
        rw [hm] at e2 e4 ⊢
        exact h4 m (by omega) e4
theorem best_or_none (s u key : Int) : ∀ n : Nat, (∀ j : Nat, j < n → upB s u j = false) ∨ ∃ b, Best s u key n b
  | 0 => Or.inl fun j hj => absurd hj (by omega)
  | n + 1 => by
    rcases best_or_none s u key n with h | ⟨b, h1, h2, h3, h4⟩
    · cases hu : upB s u n
      · refine Or.inl fun j hj => ?_
        rcases Nat.lt_or_ge j n with h' | h'
        · exact h j h'
        · obtain rfl : j = n := by omega
          exact hu
      · refine Or.inr ⟨n, by omega, hu, fun j hj hj' => ?_, fun j hj hj' => by rw [h j hj] at hj'; cases hj'⟩
        rcases Nat.lt_or_ge j n with h' | h'
        · rw [h j h'] at hj'; cases hj'
        · obtain rfl : j = n := by omega
          exact Int.le_refl _
    · cases hu : upB s u n
      · refine Or.inr ⟨b, by omega, h2, fun j hj hj' => ?_, h4⟩
        rcases Nat.lt_or_ge j n with h' | h'
        · exact h3 j h' hj'
        · obtain rfl : j = n := by omega
          rw [hu] at hj'; cases hj'
      · by_cases hlt : rweight b key < rweight n key
        · refine Or.inr ⟨n, by omega, hu, fun j hj hj' => ?_, fun j hj hj' => ?_⟩
          · rcases Nat.lt_or_ge j n with h' | h'
            · have := h3 j h' hj'; omega
            · obtain rfl : j = n := by omega
              exact Int.le_refl _
          · have := h3 j hj hj'; omega
        · refine Or.inr ⟨b, by omega, h2, fun j hj hj' => ?_, h4⟩
          rcases Nat.lt_or_ge j n with h' | h'
          · exact h3 j h' hj'
          · obtain rfl : j = n := by omega
            omega
theorem select_none {s u key : Int} (h : ∀ j : Nat, (j : Int) < s → upB s u j = false) : select s u key = -1 := by
  unfold select
  split
  · rw [selP_none fun j hj => h j (by omega)]
  · rfl
theorem select_best {s u key : Int} (h : vpool s u = true) {b : Nat} (hb : Best s u key s.toNat b) : select s u key = b := by
  simp [select, h, selP_best hb]
theorem select_cases {s u key : Int} (h : vpool s u = true) : ((∀ j : Nat, (j : Int) < s → upB s u j = false) ∧ select s u key = -1) ∨ ∃ b, Best s u key s.toNat b ∧ select s u key = b := by
  rcases best_or_none s u key s.toNat with h' | ⟨b, hb⟩
  · exact Or.inl ⟨fun j hj => h' j (by omega), select_none fun j hj => h' j (by omega)⟩
  · exact Or.inr ⟨b, hb, select_best h hb⟩
theorem select_zero {s key : Int} (h : vpool s 0 = true) : select s 0 key = -1 := by
  refine select_none fun j hj => ?_
  rw [upB_bit h hj, bitN, Int.zero_ediv]
  rfl
/-- The pool is right and one server is up: the choice. -/
theorem select_up {s u key : Int} (h : vpool s u = true) (h0 : u ≠ 0) : ∃ b, Best s u key s.toNat b ∧ select s u key = b := by
  obtain ⟨v1, v2, v3, v4⟩ := vpool_bd h
  have ht := vpool_top h
  rcases select_cases (key := key) h with ⟨hn, _⟩ | hb
  · obtain ⟨n, rfl⟩ := Int.eq_ofNat_of_zero_le v3
    obtain ⟨i, hi, hb⟩ := some_bit (s := s.toNat) (u := n) (by omega) (by omega) (by omega) (by exact_mod_cast ht)
    have := hn i (by omega)
    rw [upB_bit h (by omega)] at this
    rw [hb] at this; cases this
  · exact hb
/-- One server is taken out: who was not at it stays. -/
theorem select_out {s u key : Int} (h : vpool s u = true) {i : Nat} (hi : (i : Int) < s) : select s (setU s u i false) key ≠ i ∧ (select s u key ≠ i → select s (setU s u i false) key = select s u key) := by
  obtain ⟨hv, hno, hoth, _⟩ := setU_facts h hi
  constructor
  · rcases select_cases (key := key) hv with ⟨_, e⟩ | ⟨b, hb, e⟩
    · rw [e]; omega
    · rw [e]
      intro hbi
      obtain rfl : b = i := by omega
      have := hb.2.1
      rw [hno] at this; cases this
  · intro hne
    rcases select_cases (key := key) h with ⟨hn, e⟩ | ⟨b, ⟨h1, h2, h3, h4⟩, e⟩
    · rw [e]
      refine select_none fun j hj => ?_
      by_cases hji : j = i
      · subst hji; exact hno
      · rw [hoth j hj hji]; exact hn j hj
    · rw [e] at hne ⊢
      have hbi : b ≠ i := fun e' => hne (by rw [e'])
      refine select_best hv ⟨h1, by rw [hoth b (by omega) hbi]; exact h2, fun j hj hj' => ?_, fun j hj hj' => ?_⟩
      · by_cases hji : j = i
        · subst hji; rw [hno] at hj'; cases hj'
        · rw [hoth j (by omega) hji] at hj'; exact h3 j hj hj'
      · by_cases hji : j = i
        · subst hji; rw [hno] at hj'; cases hj'
        · rw [hoth j (by omega) hji] at hj'; exact h4 j hj hj'
theorem moved_self (s u : Int) (zs : List Int) : moved s u s u zs = [] := by simp [moved, movedB]
theorem moved_out {s u : Int} (h : vpool s u = true) {i : Nat} (hi : (i : Int) < s) (zs : List Int) : moved s u s (setU s u i false) zs = zs.filter fun k => select s u k == i := by
  unfold moved
  congr 1
  funext k
  have := select_out (key := k) h hi
  by_cases hk : select s u k = i
  · simp [movedB, hk, bne]; exact fun e => this.1 e.symm
  · have e := this.2 hk
    simp [movedB, hk, e]
end Go.Proofs.Ytidefcakodnffaa
