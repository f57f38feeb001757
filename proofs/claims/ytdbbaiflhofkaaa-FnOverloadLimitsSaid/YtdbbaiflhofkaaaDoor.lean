/-
  The door that limits requests, plain: its limits, a request, a row of requests.
-/
import Derived.Test.YtdbbaiflhofkaaaSlice
namespace Go.Proofs.Ytdbbaiflhofkaaa
open Go.RowKit

def vdoor (c a t : Int) : Bool := inR c 1 64 && (inR a 0 c && inR t 0 1000000000000)
theorem vdoor_bd {c a t : Int} (h : vdoor c a t = true) : 1 ≤ c ∧ c ≤ 64 ∧ 0 ≤ a ∧ a ≤ c ∧ 0 ≤ t ∧ t ≤ 1000000000000 := by
  simp only [vdoor, Bool.and_eq_true, inR_iff] at h
  omega
def climit (c a t k : Int) : Int := if vdoor c a t && inR k 1 4 then (c * (5 - k) + 3) / 4 else 0
theorem climit_bd (c a t k : Int) : 0 ≤ climit c a t k ∧ climit c a t k ≤ 64 := by
  unfold climit
  split
  · rename_i h
    simp only [Bool.and_eq_true, inR_iff] at h
    obtain ⟨h1, h2, h3⟩ := h
    obtain ⟨v1, v2, _⟩ := vdoor_bd h1
    rcases (show k = 1 ∨ k = 2 ∨ k = 3 ∨ k = 4 by omega) with rfl | rfl | rfl | rfl <;> omega
  · omega
/-- The door behind a request: who is admitted in this tick, the tick, and whether the request is. -/
def admP (c a t k now : Int) : Int × Int × Bool :=
  if vdoor c a t && inR now t 1000000000000 then
    if climit c (if t < now then 0 else a) now k ≤ (if t < now then 0 else a) then (if t < now then 0 else a, now, false) else ((if t < now then 0 else a) + 1, now, true)
  else (a, t, false)
theorem admP_I64 {c a t k now : Int} (hc : I64 c) (ha : I64 a) (ht : I64 t) (hn : I64 now) : I64 (admP c a t k now).1 ∧ I64 (admP c a t k now).2.1 := by
  unfold I64 at *
  unfold admP
  by_cases h : t < now
  · have hb := climit_bd c 0 now k
    simp only [if_pos h]
    split
    · split <;> (simp only; omega)
    · exact ⟨ha, ht⟩
  · have hb := climit_bd c a now k
    simp only [if_neg h]
    split
    · split <;> (simp only; omega)
    · exact ⟨ha, ht⟩
/-- The door after the requests, how many were admitted, and which were not. -/
def batch (c now : Int) : List Int → Int × Int → Int × Int
  | [], p => p
  | k :: l, p => batch c now l ((admP c p.1 p.2 k now).1, (admP c p.1 p.2 k now).2.1)
def batchN (c now : Int) : List Int → Int × Int → Nat
  | [], _ => 0
  | k :: l, p => (admP c p.1 p.2 k now).2.2.toNat + batchN c now l ((admP c p.1 p.2 k now).1, (admP c p.1 p.2 k now).2.1)
def batchR (c now : Int) : List Int → Int × Int → List Int
  | [], _ => []
  | k :: l, p => (bif (admP c p.1 p.2 k now).2.2 then [] else [k]) ++ batchR c now l ((admP c p.1 p.2 k now).1, (admP c p.1 p.2 k now).2.1)
theorem batch_snoc (c now k : Int) : ∀ (l : List Int) (p : Int × Int), batch c now (l ++ [k]) p = ((admP c (batch c now l p).1 (batch c now l p).2 k now).1, (admP c (batch c now l p).1 (batch c now l p).2 k now).2.1)
  | [], _ => rfl
  | _ :: l, _ => batch_snoc c now k l _
theorem batchN_snoc (c now k : Int) : ∀ (l : List Int) (p : Int × Int), batchN c now (l ++ [k]) p = batchN c now l p + (admP c (batch c now l p).1 (batch c now l p).2 k now).2.2.toNat
  | [], _ => by simp [batchN, batch]
  | x :: l, p => by
    have := batchN_snoc c now k l ((admP c p.1 p.2 x now).1, (admP c p.1 p.2 x now).2.1)
    simp only [List.cons_append, batchN, batch, this]
    omega
theorem batchR_snoc (c now k : Int) : ∀ (l : List Int) (p : Int × Int), batchR c now (l ++ [k]) p = batchR c now l p ++ (bif (admP c (batch c now l p).1 (batch c now l p).2 k now).2.2 then [] else [k])
  | [], _ => by simp [batchR, batch]
  | x :: l, p => by
    have := batchR_snoc c now k l ((admP c p.1 p.2 x now).1, (admP c p.1 p.2 x now).2.1)
    simp only [List.cons_append, batchR, batch, this, List.append_assoc]
theorem batch_I64 {c now : Int} (hc : I64 c) (hn : I64 now) : ∀ (l : List Int) (p : Int × Int), I64 p.1 → I64 p.2 → I64 (batch c now l p).1 ∧ I64 (batch c now l p).2
  | [], _, h1, h2 => ⟨h1, h2⟩
  | k :: l, p, h1, h2 => batch_I64 hc hn l _ (admP_I64 (k := k) hc h1 h2 hn).1 (admP_I64 (k := k) hc h1 h2 hn).2
theorem batchN_le (c now : Int) : ∀ (l : List Int) (p : Int × Int), batchN c now l p ≤ l.length
  | [], _ => Nat.le_refl _
  | k :: l, p => by
    have := batchN_le c now l ((admP c p.1 p.2 k now).1, (admP c p.1 p.2 k now).2.1)
    have := Bool.toNat_le (admP c p.1 p.2 k now).2.2
    simp only [batchN, List.length_cons]
    omega
theorem batchNR (c now : Int) : ∀ (l : List Int) (p : Int × Int), batchN c now l p + (batchR c now l p).length = l.length
  | [], _ => rfl
  | k :: l, p => by
    have := batchNR c now l ((admP c p.1 p.2 k now).1, (admP c p.1 p.2 k now).2.1)
    simp only [batchN, batchR, List.length_cons, List.length_append]
    cases (admP c p.1 p.2 k now).2.2 <;> simp <;> omega
end Go.Proofs.Ytdbbaiflhofkaaa
