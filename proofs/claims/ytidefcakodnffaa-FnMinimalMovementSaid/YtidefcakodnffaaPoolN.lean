/-
  The server pool, plain: bits of the mask, the choice of a server, and what failing and recovering do to it. No program is walked here.
-/
import Derived.Test.YtidefcakodnffaaCur
namespace Go.Proofs.Ytidefcakodnffaa
open Go.RowKit

def pw (e : Int) : Int := 2 ^ e.toNat
theorem pw_of {e : Int} (h0 : 0 ≤ e) (h1 : e ≤ 7) : IntKind.wrap .i64 (1 * 2 ^ (min e.toNat (IntKind.bits .i64))) = pw e ∧ 1 ≤ pw e ∧ pw e ≤ 128 ∧ min e.toNat (IntKind.bits .i64) = e.toNat := by
  rcases (show e = 0 ∨ e = 1 ∨ e = 2 ∨ e = 3 ∨ e = 4 ∨ e = 5 ∨ e = 6 ∨ e = 7 by omega) with rfl | rfl | rfl | rfl | rfl | rfl | rfl | rfl <;> decide
theorem shr_of {u e : Int} (h0 : 0 ≤ e) (h1 : e ≤ 7) : Int.fdiv u (2 ^ (min e.toNat (IntKind.bits .i64))) = u / pw e := by
  obtain ⟨_, h2, _, h3⟩ := pw_of h0 h1
  rw [h3]
  show Int.fdiv u (pw e) = _
  exact Int.fdiv_eq_ediv_of_nonneg _ (by omega)
def vpool (s u : Int) : Bool := inR s 1 6 && inR u 0 (pw s - 1)
theorem vpool_bd {s u : Int} (h : vpool s u = true) : 1 ≤ s ∧ s ≤ 6 ∧ 0 ≤ u ∧ u ≤ 63 ∧ u < pw s := by
  simp only [vpool, Bool.and_eq_true, inR_iff] at h
  obtain ⟨⟨h1, h2⟩, h3, h4⟩ := h
  refine ⟨h1, h2, h3, ?_, by omega⟩
  rcases (show s = 1 ∨ s = 2 ∨ s = 3 ∨ s = 4 ∨ s = 5 ∨ s = 6 by omega) with rfl | rfl | rfl | rfl | rfl | rfl <;> simp [pw] at h4 <;> omega
theorem vpool_of {s u : Int} (h1 : 1 ≤ s) (h2 : s ≤ 6) (h3 : 0 ≤ u) (h4 : u < pw s) : vpool s u = true := by
  simp only [vpool, Bool.and_eq_true, inR_iff]
  exact ⟨⟨h1, h2⟩, h3, by omega⟩
def upB (s u i : Int) : Bool := vpool s u && (inR i 0 (s - 1) && decide (ibits .and .i64 (u / pw i) 1 = 1))
def rweight (i key : Int) : Int := khash 17 [i, key] * khash 17 [i, key] % 2147483647
theorem rweight_bd (i key : Int) : 0 ≤ rweight i key ∧ rweight i key < 2147483647 := ⟨Int.emod_nonneg _ (by decide), Int.emod_lt_of_pos _ (by decide)⟩
theorem sq_bd (key : Int) (l : List Int) : 0 ≤ khash key l * khash key l ∧ khash key l * khash key l ≤ 4611686014132420609 :=
  ⟨Int.mul_nonneg (khash_bd key l).1 (khash_bd key l).1, Int.mul_le_mul (a := khash key l) (b := khash key l) (c := 2147483647) (d := 2147483647) (by have := khash_bd key l; omega) (by have := khash_bd key l; omega) (khash_bd key l).1 (by decide)⟩
def setU (s u i : Int) (up : Bool) : Int := if vpool s u && inR i 0 (s - 1) then (if up then ibits .or .i64 u (pw i) else ibits .andNot .i64 u (pw i)) else u
theorem setU_in {s u i : Int} (hv : vpool s u = true) (hi : inR i 0 (s - 1) = true) : setU s u i true = ibits .or .i64 u (pw i) ∧ setU s u i false = ibits .andNot .i64 u (pw i) := by simp [setU, hv, hi]
theorem setU_out {s u i : Int} {up : Bool} (hi : inR i 0 (s - 1) = false) : setU s u i up = u := by simp [setU, hi]
/-- The best server below n and its weight; -1 and -1 where none runs. -/
def selP (s u key : Int) : Nat → Int × Int
  | 0 => (-1, -1)
  | n + 1 => if upB s u n && decide ((selP s u key n).2 < rweight n key) then ((n : Int), rweight n key) else selP s u key n
def select (s u key : Int) : Int := if vpool s u then (selP s u key s.toNat).1 else -1
theorem selP_inv (s u key : Int) : ∀ n : Nat, ((selP s u key n).1 = -1 ∧ (selP s u key n).2 = -1 ∧ ∀ j : Nat, j < n → upB s u j = false) ∨
    (0 ≤ (selP s u key n).1 ∧ (selP s u key n).1 < n ∧ (selP s u key n).2 = rweight (selP s u key n).1 key ∧ upB s u (selP s u key n).1 = true ∧ ∀ j : Nat, j < n → upB s u j = true → rweight j key ≤ (selP s u key n).2)
  | 0 => Or.inl ⟨rfl, rfl, fun _ h => absurd h (by omega)⟩
  | n + 1 => by
    have ih := selP_inv s u key n
    have hw := rweight_bd n key
    unfold selP
    by_cases h : (upB s u n && decide ((selP s u key n).2 < rweight n key)) = true
    · rw [if_pos h]
      simp only [Bool.and_eq_true, decide_eq_true_eq] at h
      refine Or.inr ⟨by simp, by simp; omega, rfl, h.1, fun j hj hu => ?_⟩
      rcases Nat.lt_or_ge j n with hjn | hjn
      · rcases ih with ⟨_, e2, ih⟩ | ⟨_, _, _, _, ih⟩
        · rw [ih j hjn] at hu; cases hu
        · have := ih j hjn hu; simp only; omega
      · obtain rfl : j = n := by omega
        exact Int.le_refl _
    · rw [if_neg h]
      rcases ih with ⟨e1, e2, ih⟩ | ⟨e1, e2, e3, e4, ih⟩
      · refine Or.inl ⟨e1, e2, fun j hj => ?_⟩
        rcases Nat.lt_or_ge j n with hjn | hjn
        · exact ih j hjn
        · obtain rfl : j = n := by omega
          cases hu : upB s u j
          · rfl
          · exact absurd (by simp [hu, e2]; omega) h
      · refine Or.inr ⟨e1, by omega, e3, e4, fun j hj hu => ?_⟩
        rcases Nat.lt_or_ge j n with hjn | hjn
        · exact ih j hjn hu
        · obtain rfl : j = n := by omega
          rcases Int.lt_or_le (selP s u key j).2 (rweight j key) with hlt | hge
          · exact absurd (by simp [hu, hlt]) h
          · exact hge
theorem selP_bd (s u key : Int) (n : Nat) : -1 ≤ (selP s u key n).1 ∧ ((selP s u key n).1 < n ∨ (selP s u key n).1 = -1) ∧ -1 ≤ (selP s u key n).2 ∧ (selP s u key n).2 < 2147483647 := by
  rcases selP_inv s u key n with ⟨e1, e2, _⟩ | ⟨e1, e2, e3, _⟩
  · omega
  · have := rweight_bd (selP s u key n).1 key; omega
theorem selP_skip {s u key : Int} {n : Nat} (h : upB s u n = false) : selP s u key (n + 1) = selP s u key n := by rw [selP]; simp [h]
theorem selP_keep {s u key : Int} {n : Nat} (h : ¬ (selP s u key n).2 < rweight n key) : selP s u key (n + 1) = selP s u key n := by rw [selP, if_neg (by simp [h])]
theorem selP_take {s u key : Int} {n : Nat} (h : upB s u n = true) (h' : (selP s u key n).2 < rweight n key) : selP s u key (n + 1) = ((n : Int), rweight n key) := by rw [selP, if_pos (by simp [h, h'])]
/-- The same, told by the best server alone. -/
theorem selP_first {s u key : Int} {n : Nat} (h : upB s u n = true) (h' : (selP s u key n).1 < 0) : selP s u key (n + 1) = ((n : Int), rweight n key) := by
  refine selP_take h ?_
  have hw := rweight_bd n key
  rcases selP_inv s u key n with ⟨_, e2, _⟩ | ⟨e1, _⟩ <;> omega
theorem selP_more {s u key : Int} {n : Nat} (h : upB s u n = true) (h1 : ¬ (selP s u key n).1 < 0) (h' : rweight (selP s u key n).1 key < rweight n key) : selP s u key (n + 1) = ((n : Int), rweight n key) := by
  refine selP_take h ?_
  rcases selP_inv s u key n with ⟨e1, _⟩ | ⟨_, _, e3, _⟩ <;> omega
theorem selP_less {s u key : Int} {n : Nat} (h1 : ¬ (selP s u key n).1 < 0) (h' : ¬ rweight (selP s u key n).1 key < rweight n key) : selP s u key (n + 1) = selP s u key n := by
  refine selP_keep ?_
  rcases selP_inv s u key n with ⟨e1, _⟩ | ⟨_, _, e3, _⟩ <;> omega
theorem select_bd (s u key : Int) : -1 ≤ select s u key ∧ select s u key ≤ 5 := by
  unfold select
  cases h : vpool s u
  · simp
  · obtain ⟨v1, v2, _⟩ := vpool_bd h
    have := selP_bd s u key s.toNat
    rw [if_pos rfl]; omega
theorem select_eq {s u key : Int} (h : vpool s u = true) : select s u key = (selP s u key s.toNat).1 := by rw [select, h]; rfl
def backup (s u key : Int) : Int := select s (setU s u (select s u key) false) key
def movedB (s u s' u' k : Int) : Bool := !decide (select s u k = select s' u' k)
def moved (s u s' u' : Int) (zs : List Int) : List Int := zs.filter (movedB s u s' u')
theorem moved_len (s u s' u' : Int) (zs : List Int) : (moved s u s' u' zs).length ≤ zs.length := List.length_filter_le _ _
theorem filter_yes {p : Int → Bool} {zs : List Int} {k : Nat} {z : Int} (hk : zs[k]? = some z) (h : p z = true) : (zs.take (k + 1)).filter p = (zs.take k).filter p ++ [z] := by
  obtain ⟨hk1, rfl⟩ := List.getElem?_eq_some_iff.1 hk
  rw [List.take_succ_eq_append_getElem hk1, List.filter_append, List.filter_cons_of_pos h, List.filter_nil]
theorem filter_no {p : Int → Bool} {zs : List Int} {k : Nat} {z : Int} (hk : zs[k]? = some z) (h : p z = false) : (zs.take (k + 1)).filter p = (zs.take k).filter p := by
  obtain ⟨hk1, rfl⟩ := List.getElem?_eq_some_iff.1 hk
  rw [List.take_succ_eq_append_getElem hk1, List.filter_append, List.filter_cons_of_neg (by simp [h]), List.filter_nil, List.append_nil]
theorem filter_len {p : Int → Bool} (zs : List Int) (k : Nat) : ((zs.take k).filter p).length ≤ k :=
  Nat.le_trans (List.length_filter_le _ _) (List.length_take_le _ _)
def fmtB (s u : Int) : Nat → ByteArray
  | 0 => ByteArray.empty
  | n + 1 => fmtB s u n ++ (if upB s u n then ⟨#[35]⟩ else ⟨#[46]⟩)
theorem fmtB_size (s u : Int) : ∀ n, (fmtB s u n).size = n
  | 0 => rfl
  | n + 1 => by
    unfold fmtB
    rw [ByteArray.size_append, fmtB_size s u n]
    split <;> rfl
theorem fmtB_yes {s u : Int} {n : Nat} (h : upB s u n = true) : fmtB s u (n + 1) = fmtB s u n ++ ⟨#[35]⟩ := by rw [fmtB, h]; rfl
theorem fmtB_no {s u : Int} {n : Nat} (h : upB s u n = false) : fmtB s u (n + 1) = fmtB s u n ++ ⟨#[46]⟩ := by rw [fmtB, h]; rfl

def andN (u i : Nat) : Int := ibits .andNot .i64 (u : Int) (2 ^ i)
def orN (u : Int) (i : Nat) : Int := ibits .or .i64 u (2 ^ i)
def bitN (u : Int) (i : Nat) : Bool := decide (ibits .and .i64 (u / 2 ^ i) 1 = 1)
def chk1 : Bool := (List.range 6).all fun i => (List.range 64).all fun u =>
  decide (0 ≤ andN u i) && decide (andN u i ≤ u) && !bitN (andN u i) i && decide (0 ≤ orN u i) && bitN (orN u i) i
    && (bitN u i || decide (andN u i = u)) && (!bitN u i || decide (orN (andN u i) i = (u : Int))) && (List.range 6).all fun j => j == i || (bitN (andN u i) j == bitN u j)
theorem chk1_ok : chk1 = true := by decide +kernel
def chk2 : Bool := (List.range 7).all fun s => (List.range 64).all fun u => u == 0 || decide (2 ^ s ≤ u) || (List.range s).any fun i => bitN u i
theorem chk2_ok : chk2 = true := by decide +kernel

theorem bit_facts {u i : Nat} (hu : u < 64) (hi : i < 6) : 0 ≤ andN u i ∧ andN u i ≤ u ∧ bitN (andN u i) i = false ∧ 0 ≤ orN u i ∧ bitN (orN u i) i = true ∧ (bitN u i = false → andN u i = u) ∧ (bitN u i = true → orN (andN u i) i = (u : Int)) ∧ ∀ j, j < 6 → j ≠ i → bitN (andN u i) j = bitN u j := by
  have h := chk1_ok
  simp only [chk1, List.all_eq_true, List.mem_range] at h
  have h := h i hi u hu
  simp only [Bool.and_eq_true, Bool.or_eq_true, List.all_eq_true, List.mem_range, decide_eq_true_eq, Bool.not_eq_true', beq_iff_eq] at h
  obtain ⟨⟨⟨⟨⟨⟨⟨h1, h2⟩, h3⟩, h4⟩, h5⟩, h6⟩, h7⟩, h8⟩ := h
  refine ⟨h1, h2, h3, h4, h5, fun e => ?_, fun e => ?_, fun j hj hne => ?_⟩
  · rcases h6 with h6 | h6
    · rw [e] at h6; cases h6
    · exact h6
  · rcases h7 with h7 | h7
    · rw [e] at h7; cases h7
    · exact h7
  · rcases h8 j hj with h8 | h8
    · exact absurd h8 hne
    · exact h8
theorem some_bit {s u : Nat} (hs : s < 7) (hu : u < 64) (h0 : u ≠ 0) (hlt : u < 2 ^ s) : ∃ i, i < s ∧ bitN u i = true := by
  have h := chk2_ok
  simp only [chk2, List.all_eq_true, List.mem_range] at h
  have h := h s hs u hu
  simp only [Bool.or_eq_true, List.any_eq_true, List.mem_range, decide_eq_true_eq, beq_iff_eq] at h
  rcases h with (h | h) | h
  · exact absurd h h0
  · omega
  · exact h
theorem upB_bit {s u : Int} (h : vpool s u = true) {j : Nat} (hj : (j : Int) < s) : upB s u j = bitN u j := by
  have e : inR (j : Int) 0 (s - 1) = true := inR_true (by omega) (by omega)
  rw [upB, h, e]; rfl
/-- A server is taken out of a right pool. -/
theorem setU_facts {s u : Int} (h : vpool s u = true) {i : Nat} (hi : (i : Int) < s) :
    vpool s (setU s u i false) = true ∧ upB s (setU s u i false) i = false ∧ (∀ j : Nat, (j : Int) < s → j ≠ i → upB s (setU s u i false) j = upB s u j) ∧ setU s (setU s u i false) i (upB s u i) = u := by
  obtain ⟨v1, v2, v3, v4, ht⟩ := vpool_bd h
  obtain ⟨n, rfl⟩ := Int.eq_ofNat_of_zero_le v3
  have e : inR (i : Int) 0 (s - 1) = true := inR_true (by omega) (by omega)
  have f := bit_facts (u := n) (i := i) (by omega) (by omega)
  have es : setU s n i false = andN n i := (setU_in h e).2
  have hv : vpool s (andN n i) = true := vpool_of v1 v2 f.1 (by have := f.2.1; omega)
  rw [es]
  refine ⟨hv, by rw [upB_bit hv hi]; exact f.2.2.1, fun j hj hne => by rw [upB_bit hv hj, upB_bit h hj]; exact f.2.2.2.2.2.2.2 j (by omega) hne, ?_⟩
  rw [upB_bit h hi]
  cases hb : bitN n i
  · have e1 := f.2.2.2.2.2.1 hb
    rw [e1]
    exact es.trans e1
  · exact (setU_in hv e).1.trans (f.2.2.2.2.2.2.1 hb)
theorem setU_v {s u i : Int} (h : vpool s u = true) : vpool s (setU s u i false) = true := by
  cases hi : inR i 0 (s - 1)
  · rw [setU_out hi]; exact h
  · obtain ⟨h1, h2⟩ := inR_iff.1 hi
    obtain ⟨n, rfl⟩ := Int.eq_ofNat_of_zero_le h1
    exact (setU_facts h (i := n) (by omega)).1

/-- What the choice among the first n servers is. -/
def Best (s u key : Int) (n : Nat) (b : Nat) : Prop := b < n ∧ upB s u b = true ∧ (∀ j : Nat, j < n → upB s u j = true → rweight j key ≤ rweight b key) ∧ (∀ j : Nat, j < b → upB s u j = true → rweight j key < rweight b key)
theorem selP_none {s u key : Int} : ∀ {n : Nat}, (∀ j : Nat, j < n → upB s u j = false) → selP s u key n = (-1, -1)
  | 0, _ => rfl
  | n + 1, h => by rw [selP_skip (h n (by omega)), selP_none (fun j hj => h j (by omega))]
theorem selP_best {s u key : Int} : ∀ {n b : Nat}, Best s u key n b → selP s u key n = ((b : Int), rweight b key)
  | 0, b, h => absurd h.1 (by omega)
  | n + 1, b, ⟨h1, h2, h3, h4⟩ => by
    rcases Nat.lt_or_ge b n with hb | hb
    · have ih := selP_best (n := n) (b := b) ⟨hb, h2, fun j hj => h3 j (by omega), h4⟩
      cases hu : upB s u n
      · rw [selP_skip hu, ih]
      · rw [selP_keep (by rw [ih]; have := h3 n (by omega) hu; simp only; omega), ih]
    · obtain rfl : b = n := by omega
      refine selP_take h2 ?_
      have hw := rweight_bd b key
      rcases selP_inv s u key b with ⟨_, e2, _⟩ | ⟨e1, e2, e3, e4, _⟩
      · omega
      · rw [e3]
        obtain ⟨m, hm⟩ := Int.eq_ofNat_of_zero_le e1
        rw [hm] at e2 e4 ⊢
        exact h4 m (by omega) e4
theorem best_or_none (s u key : Int) : ∀ n : Nat, (∀ j : Nat, j < n → upB s u j = false) ∨ ∃ b, Best s u key n b
  | 0 => Or.inl fun j hj => absurd hj (by omega)
  | n + 1 => by
    rcases best_or_none s u key n with h | ⟨b, h1, h2, h3, h4⟩
    · cases hu : upB s u n
      · refine Or.inl fun j hj => ?_
        rcases Nat.lt_or_ge j n with h' | h'
        · exact h j h'
        · obtain rfl : j = n := by omega
          exact hu
      · refine Or.inr ⟨n, by omega, hu, fun j hj hj' => ?_, fun j hj hj' => by rw [h j hj] at hj'; cases hj'⟩
        rcases Nat.lt_or_ge j n with h' | h'
        · rw [h j h'] at hj'; cases hj'
        · obtain rfl : j = n := by omega
          exact Int.le_refl _
    · cases hu : upB s u n
      · refine Or.inr ⟨b, by omega, h2, fun j hj hj' => ?_, h4⟩
        rcases Nat.lt_or_ge j n with h' | h'
        · exact h3 j h' hj'
        · obtain rfl : j = n := by omega
          rw [hu] at hj'; cases hj'
      · by_cases hlt : rweight b key < rweight n key
        · refine Or.inr ⟨n, by omega, hu, fun j hj hj' => ?_, fun j hj hj' => ?_⟩
          · rcases Nat.lt_or_ge j n with h' | h'
            · have := h3 j h' hj'; omega
            · obtain rfl : j = n := by omega
              exact Int.le_refl _
          · have := h3 j hj hj'; omega
        · refine Or.inr ⟨b, by omega, h2, fun j hj hj' => ?_, h4⟩
          rcases Nat.lt_or_ge j n with h' | h'
          · exact h3 j h' hj'
          · obtain rfl : j = n := by omega
            omega
theorem select_best {s u key : Int} (h : vpool s u = true) {b : Nat} (hb : Best s u key s.toNat b) : select s u key = b := by rw [select_eq h, selP_best hb]
theorem select_none {s u key : Int} (h : vpool s u = true) (hn : ∀ j : Nat, (j : Int) < s → upB s u j = false) : select s u key = -1 := by
  rw [select_eq h, selP_none fun j hj => hn j (by omega)]
theorem select_cases {s u : Int} (key : Int) (h : vpool s u = true) : ((∀ j : Nat, (j : Int) < s → upB s u j = false) ∧ select s u key = -1) ∨ ∃ b, Best s u key s.toNat b ∧ select s u key = b := by
  rcases best_or_none s u key s.toNat with h' | ⟨b, hb⟩
  · exact Or.inl ⟨fun j hj => h' j (by omega), select_none h fun j hj => h' j (by omega)⟩
  · exact Or.inr ⟨b, hb, select_best h hb⟩
theorem select_zero {s : Int} (key : Int) (h : vpool s 0 = true) : select s 0 key = -1 := by
  refine select_none h fun j hj => ?_
  rw [upB_bit h hj, bitN, Int.zero_ediv]
  rfl
theorem backup_zero {s : Int} (key : Int) (h : vpool s 0 = true) : backup s 0 key = -1 := by
  rw [backup, select_zero key h, setU_out (inR_false (by omega)), select_zero key h]
/-- The pool is right and one server is up: the choice. -/
theorem select_up {s u : Int} (key : Int) (h : vpool s u = true) (h0 : u ≠ 0) : ∃ b, Best s u key s.toNat b ∧ select s u key = b := by
  obtain ⟨v1, v2, v3, v4, ht⟩ := vpool_bd h
  rcases select_cases key h with ⟨hn, _⟩ | hb
  · obtain ⟨n, rfl⟩ := Int.eq_ofNat_of_zero_le v3
    obtain ⟨i, hi, hb⟩ := some_bit (s := s.toNat) (u := n) (by omega) (by omega) (by omega) (by unfold pw at ht; exact_mod_cast ht)
    have := hn i (by omega)
    rw [upB_bit h (by omega)] at this
    rw [hb] at this; cases this
  · exact hb
/-- One server is taken out: who was not at it stays. -/
theorem select_outN {s u : Int} (key : Int) (h : vpool s u = true) {i : Nat} (hi : (i : Int) < s) : select s (setU s u i false) key ≠ i ∧ (select s u key ≠ i → select s (setU s u i false) key = select s u key) := by
  obtain ⟨hv, hno, hoth, _⟩ := setU_facts h hi
  constructor
  · rcases select_cases key hv with ⟨_, e⟩ | ⟨b, hb, e⟩
    · rw [e]; omega
    · rw [e]
      intro hbi
      obtain rfl : b = i := by omega
      have := hb.2.1
      rw [hno] at this; cases this
  · intro hne
    rcases select_cases key h with ⟨hn, e⟩ | ⟨b, ⟨h1, h2, h3, h4⟩, e⟩
    · rw [e]
      refine select_none hv fun j hj => ?_
      by_cases hji : j = i
      · subst hji; exact hno
      · rw [hoth j hj hji]; exact hn j hj
    · rw [e] at hne ⊢
      have hbi : b ≠ i := fun e' => hne (by rw [e'])
      refine select_best hv ⟨h1, by rw [hoth b (by omega) hbi]; exact h2, fun j hj hj' => ?_, fun j hj hj' => ?_⟩
      · by_cases hji : j = i
        · subst hji; rw [hno] at hj'; cases hj'
        · rw [hoth j (by omega) hji] at hj'; exact h3 j hj hj'
      · by_cases hji : j = i
        · subst hji; rw [hno] at hj'; cases hj'
        · rw [hoth j (by omega) hji] at hj'; exact h4 j hj hj'
/-! What the laws ask. -/
theorem up_sel {s u : Int} (key : Int) (h : vpool s u = true) (h0 : u ≠ 0) : upB s u (select s u key) = true := by
  obtain ⟨b, hb, e⟩ := select_up key h h0
  rw [e]; exact hb.2.1
theorem backup_ne {s u : Int} (key : Int) (h : vpool s u = true) (h0 : u ≠ 0) : backup s u key ≠ select s u key := by
  obtain ⟨b, hb, e⟩ := select_up key h h0
  rw [backup, e]
  exact (select_outN key h (i := b) (by have := hb.1; omega)).1
theorem sel_max {s u : Int} (key : Int) {j : Nat} (h : vpool s u = true) (h0 : u ≠ 0) (hj : (j : Int) < s) (hu : upB s u j = true) : ¬ rweight (select s u key) key < rweight j key := by
  obtain ⟨b, hb, e⟩ := select_up key h h0
  rw [e]
  have := hb.2.2.1 j (by omega) hu
  omega
theorem sel_out {s u i : Int} (key : Int) (h : vpool s u = true) (h0 : 0 ≤ i) (hi : i < s) : select s (setU s u i false) key ≠ i ∧ (select s u key ≠ i → select s (setU s u i false) key = select s u key) := by
  obtain ⟨n, rfl⟩ := Int.eq_ofNat_of_zero_le h0
  exact select_outN key h hi
theorem set_out {s u i : Int} (h : vpool s u = true) (h0 : 0 ≤ i) (hi : i < s) : upB s (setU s u i false) i = false ∧ setU s (setU s u i false) i (upB s u i) = u := by
  obtain ⟨n, rfl⟩ := Int.eq_ofNat_of_zero_le h0
  have := setU_facts h hi
  exact ⟨this.2.1, this.2.2.2⟩
def movP (s u j k : Int) : Bool := decide (select s u k = j)
theorem moved_self (s u : Int) (zs : List Int) : moved s u s u zs = [] := by simp [moved, movedB]
theorem moved_out {s u i : Int} (h : vpool s u = true) (h0 : 0 ≤ i) (hi : i < s) (zs : List Int) : moved s u s (setU s u i false) zs = zs.filter (movP s u i) := by
  unfold moved
  congr 1
  funext k
  have := sel_out k h h0 hi
  by_cases hk : select s u k = i
  · have h1 : ¬ i = select s (setU s u i false) k := fun e => this.1 e.symm
    simp [movedB, movP, hk, h1]
  · have e := this.2 hk
    simp [movedB, movP, hk, e]
end Go.Proofs.Ytidefcakodnffaa
