/-
  Plain laws of the door: limits by class, what a request changes, and a row of requests.
-/
import Derived.Test.YtdbbaiflhofkaaaDoor
namespace Go.Proofs.Ytdbbaiflhofkaaa
open Go.RowKit

theorem vdoor_of {c a t : Int} (h1 : 1 ≤ c) (h2 : c ≤ 64) (h3 : 0 ≤ a) (h4 : a ≤ c) (h5 : 0 ≤ t) (h6 : t ≤ 1000000000000) : vdoor c a t = true := by
  simp only [vdoor, Bool.and_eq_true, inR_iff]
  omega
theorem climit_1 {c a t : Int} (h : vdoor c a t = true) : climit c a t 1 = c := by
  have := vdoor_bd h
  rw [climit, if_pos (by rw [h]; rfl)]
  omega
theorem climit_4 {c a t : Int} (h : vdoor c a t = true) : 1 ≤ climit c a t 4 := by
  have := vdoor_bd h
  rw [climit, if_pos (by rw [h]; rfl)]
  omega
theorem climit_in {c a t k : Int} (h : vdoor c a t = true) (h1 : 1 ≤ k) (h2 : k ≤ 4) : climit c a t k = (c * (5 - k) + 3) / 4 := by
  rw [climit, if_pos (by rw [h, inR_true h1 h2]; rfl)]
theorem climit_mono {c a t k j : Int} (h : vdoor c a t = true) (h1 : 1 ≤ k) (h2 : k ≤ j) (h3 : j ≤ 4) : climit c a t j ≤ climit c a t k := by
  have := vdoor_bd h
  rw [climit_in h (by omega) h3, climit_in h h1 (by omega)]
  rcases (show k = 1 ∨ k = 2 ∨ k = 3 ∨ k = 4 by omega) with rfl | rfl | rfl | rfl <;> rcases (show j = 1 ∨ j = 2 ∨ j = 3 ∨ j = 4 by omega) with rfl | rfl | rfl | rfl <;> omega
theorem climit_le {c a t k : Int} (h : vdoor c a t = true) : climit c a t k ≤ c := by
  have hv := vdoor_bd h
  by_cases hk : 1 ≤ k ∧ k ≤ 4
  · have := climit_mono h (Int.le_refl 1) hk.1 hk.2
    rw [climit_1 h] at this
    exact this
  · rw [climit, if_neg (by rw [h]; simp only [Bool.true_and, inR_iff]; exact hk)]
    omega
def dbase (a t now : Int) : Int := if t < now then 0 else a
theorem vdoor_base {c a t now : Int} (h : vdoor c a t = true) (h1 : t ≤ now) (h2 : now ≤ 1000000000000) : vdoor c (dbase a t now) now = true := by
  have hv := vdoor_bd h
  unfold dbase vdoor
  split <;> simp only [Bool.and_eq_true, inR_iff] <;> omega
/-- Whether a request is admitted. -/
def dok (c a t k now : Int) : Bool := decide (dbase a t now < climit c (dbase a t now) now k)
theorem admP_ok {c a t k now : Int} (h : vdoor c a t = true) (h1 : t ≤ now) (h2 : now ≤ 1000000000000) : admP c a t k now = (dbase a t now + ((dok c a t k now).toNat : Int), now, dok c a t k now) := by
  unfold admP dok dbase
  rw [h, inR_true h1 h2]
  simp only [Bool.and_self, if_true]
  by_cases hl : climit c (if t < now then 0 else a) now k ≤ (if t < now then 0 else a)
  · rw [if_pos hl, decide_eq_false (by omega)]
    simp
  · rw [if_neg hl, decide_eq_true (by omega)]
    simp
theorem admP_no {c a t k now : Int} (h : (vdoor c a t && inR now t 1000000000000) = false) : admP c a t k now = (a, t, false) := by
  unfold admP
  rw [h]
  simp
theorem vdoor_adm {c a t now k : Int} (h : vdoor c a t = true) (h1 : t ≤ now) (h2 : now ≤ 1000000000000) : vdoor c (admP c a t k now).1 (admP c a t k now).2.1 = true := by
  have hb := vdoor_base h h1 h2
  have hv := vdoor_bd hb
  rw [admP_ok h h1 h2]
  show vdoor c (dbase a t now + ((dok c a t k now).toNat : Int)) now = true
  have : dbase a t now + ((dok c a t k now).toNat : Int) ≤ c := by
    unfold dok
    by_cases hl : dbase a t now < climit c (dbase a t now) now k
    · rw [decide_eq_true hl]
      have := climit_le (k := k) hb
      simp only [Bool.toNat_true]
      omega
    · rw [decide_eq_false hl]
      simp only [Bool.toNat_false]
      omega
  unfold vdoor
  simp only [Bool.and_eq_true, inR_iff]
  omega
/-- A better class is admitted too. -/
theorem dok_mono {c a t k j now : Int} (h : vdoor c a t = true) (h1 : t ≤ now) (h2 : now ≤ 1000000000000) (h3 : 1 ≤ k) (h4 : k ≤ j) (h5 : j ≤ 4) (h6 : dok c a t j now = true) : dok c a t k now = true := by
  have := climit_mono (vdoor_base h h1 h2) h3 h4 h5
  have h7 := of_decide_eq_true h6
  exact decide_eq_true (by omega)
theorem batch_law {c now : Int} (h2 : now ≤ 1000000000000) : ∀ (l : List Int) (a t : Int), vdoor c a t = true → t ≤ now →
    (batch c now l (a, t)).1 = (if l = [] then a else dbase a t now) + ((batchN c now l (a, t) : Nat) : Int) ∧ vdoor c (batch c now l (a, t)).1 (batch c now l (a, t)).2 = true
  | [], a, t, h, _ => ⟨by simp [batch, batchN], h⟩
  | k :: l, a, t, h, h1 => by
    have e := admP_ok (k := k) h h1 h2
    have hv := vdoor_adm (k := k) h h1 h2
    have ih := batch_law h2 l (admP c a t k now).1 (admP c a t k now).2.1 hv (by rw [e]; exact Int.le_refl _)
    simp only [batch, batchN]
    refine ⟨?_, ih.2⟩
    have hd : dbase (admP c a t k now).1 (admP c a t k now).2.1 now = (admP c a t k now).1 := by rw [e]; exact if_neg (Int.lt_irrefl _)
    rw [ih.1, hd, ite_self, if_neg (show ¬ (k :: l = []) by simp), e]
    simp only
    omega
section
variable {c a t k j now x1 x2 y1 y2 : Int} {ok ot : Bool}
theorem adm_no (h : ¬ (vdoor c a t = true ∧ t ≤ now ∧ now ≤ 1000000000000)) (e : admP c a t k now = (x1, x2, ok)) : x1 = a ∧ x2 = t ∧ ok = false := by
  have h' : (vdoor c a t && inR now t 1000000000000) = false := by
    rw [Bool.eq_false_iff]
    intro hh
    rw [Bool.and_eq_true, inR_iff] at hh
    exact h hh
  rw [admP_no h'] at e
  injection e with e1 e2
  injection e2 with e2 e3
  exact ⟨e1.symm, e2.symm, e3.symm⟩
theorem adm_yes (h : vdoor c a t = true) (h1 : t ≤ now) (h2 : now ≤ 1000000000000) (e : admP c a t k now = (x1, x2, ok)) : x1 = (if t < now then 0 else a) + (ok.toNat : Int) ∧ x2 = now ∧ vdoor c x1 x2 = true := by
  have hv := vdoor_adm (k := k) h h1 h2
  rw [e] at hv
  rw [admP_ok h h1 h2] at e
  injection e with e1 e2
  injection e2 with e2 e3
  subst e3
  exact ⟨e1.symm, e2.symm, hv⟩
theorem adm_mono (h : vdoor c a t = true) (h1 : t ≤ now) (h2 : now ≤ 1000000000000) (e1 : admP c a t k now = (x1, x2, ok)) (e2 : admP c a t j now = (y1, y2, ot)) (h3 : 1 ≤ k) (h4 : k ≤ j) (h5 : j ≤ 4) (h6 : ot = true) : ok = true := by
  rw [admP_ok h h1 h2] at e1 e2
  injection e1 with _ e1
  injection e1 with _ e1
  injection e2 with _ e2
  injection e2 with _ e2
  subst e1; subst e2
  exact dok_mono h h1 h2 h3 h4 h5 h6
end
theorem base0 {zs : List Int} {x a t now N : Int} (h : x = (if zs = [] then a else dbase a t now) + N) (h1 : t < now) (h2 : 0 < zs.length) : x = 0 + N := by
  rw [if_neg (List.length_pos_iff.1 h2), dbase, if_pos h1] at h
  exact h
theorem base1 {zs : List Int} {x a t now N : Int} (h : x = (if zs = [] then a else dbase a t now) + N) (h1 : ¬ (t < now ∧ 0 < zs.length)) : x = a + N := by
  by_cases hz : zs = []
  · rw [if_pos hz] at h
    exact h
  · have := List.length_pos_iff.2 hz
    rw [if_neg hz, dbase, if_neg (by omega)] at h
    exact h
/-- Waiting times. -/
def pw (e : Int) : Int := 2 ^ e.toNat
theorem pw_of {e : Int} (h0 : 0 ≤ e) (h1 : e ≤ 7) : IntKind.wrap .i64 (1 * 2 ^ (min e.toNat (IntKind.bits .i64))) = pw e ∧ 1 ≤ pw e ∧ pw e ≤ 128 ∧ pw (e + 1) = 2 * pw e := by
  rcases (show e = 0 ∨ e = 1 ∨ e = 2 ∨ e = 3 ∨ e = 4 ∨ e = 5 ∨ e = 6 ∨ e = 7 by omega) with rfl | rfl | rfl | rfl | rfl | rfl | rfl | rfl <;> decide
def bexp (k : Int) : Int := if 0 ≤ k ∧ k ≤ 6 then k else 6
theorem bexp_in {k : Int} (h0 : 0 ≤ k) (h1 : k ≤ 6) : bexp k = k := if_pos ⟨h0, h1⟩
theorem bexp_out {k : Int} (h : ¬ (0 ≤ k ∧ k ≤ 6)) : bexp k = 6 := if_neg h
theorem bexp_bd (k : Int) : 0 ≤ bexp k ∧ bexp k ≤ 6 := by unfold bexp; split <;> omega
def bticks (k s : Int) : Int := pw (bexp k) + khash 19 [s, bexp k] % pw (bexp k)
theorem bt_bd {k e s : Int} (h : bexp k = e) : pw e ≤ bticks k s ∧ bticks k s ≤ 2 * pw e - 1 ∧ 1 ≤ pw e ∧ pw e ≤ 128 := by
  subst h
  obtain ⟨h0, h1⟩ := bexp_bd k
  obtain ⟨_, h2, h3, _⟩ := pw_of h0 (by omega)
  have hm : 0 ≤ khash 19 [s, bexp k] % pw (bexp k) ∧ khash 19 [s, bexp k] % pw (bexp k) < pw (bexp k) := ⟨Int.emod_nonneg _ (by omega), Int.emod_lt_of_pos _ (by omega)⟩
  unfold bticks
  omega
theorem bt_next {k e s : Int} (h : bexp k = e) (h0 : 0 ≤ e) (h1 : e < 6) : bticks k s < bticks (e + 1) s := by
  have a := bt_bd (s := s) h
  have b := bt_bd (s := s) (bexp_in (k := e + 1) (by omega) (by omega))
  have c := pw_of h0 (by omega)
  omega
end Go.Proofs.Ytdbbaiflhofkaaa
