/-
  Registrations, the plain law: what a registration leaves holds its subscriber once, and a cancellation takes exactly that one.
-/
import Derived.Test.YtihecjcbgnpakaaRecQ
namespace Go.Proofs.Ytihecjcbgnpakaa
open Go.RowKit
theorem za_left {X Y : List Int} {j : Nat} (h : j < X.length) : za (X ++ Y) j = za X j := by simp [za, List.getD, List.getElem?_append_left h]
theorem za_right {X Y : List Int} {j : Nat} : za (X ++ Y) (X.length + j) = za Y j := by simp [za, List.getD, List.getElem?_append_right]
theorem za_take {X : List Int} {j p : Nat} (h : j < p) : za (X.take p) j = za X j := by simp [za, List.getD, List.getElem?_take, h]
theorem za_drop {X : List Int} {j p : Nat} : za (X.drop p) j = za X (p + j) := by simp [za, List.getD, List.getElem?_drop]
/-- Where the new one stands. -/
def posR (n : Nat) (i : Int) : Nat := if 0 ≤ i then i.toNat else n
section
variable {L r : List Int} {n : Nat} {i : Int}
theorem put_low (hL : L.length = n * 6) (hi : i < n) {j q : Nat} (hj : j < posR n i) (hq : q < 6) : za (putR L n i r) (j * 6 + q) = za L (j * 6 + q) := by
  unfold posR at hj; unfold putR
  split at hj
  · rename_i h0
    have hl : (L.take (i.toNat * 6)).length = i.toNat * 6 := by rw [List.length_take]; omega
    rw [if_pos h0, List.append_assoc, za_left (by omega), za_take (by omega)]
  · rename_i h0
    rw [if_neg h0, za_left (by omega)]
theorem put_at (hL : L.length = n * 6) (hi : i < n) (hr : r.length = 6) {q : Nat} (hq : q < 6) : za (putR L n i r) (posR n i * 6 + q) = za r q := by
  unfold posR putR
  split
  · have hl : (L.take (i.toNat * 6)).length = i.toNat * 6 := by rw [List.length_take]; omega
    rw [show i.toNat * 6 + q = (L.take (i.toNat * 6)).length + q by rw [hl], List.append_assoc, za_right, za_left (by omega)]
  · rw [show n * 6 + q = L.length + q by omega, za_right]
theorem pos_lt (hi : i < n) : posR n i < putN n i := by unfold posR putN; split <;> omega
end
theorem isID_of {X : List Int} {a b : Int} {j : Nat} : isID X a b j = true ↔ za X (j * 6 + 0) = a ∧ za X (j * 6 + 1) = b := by simp [isID]
theorem isID_congr {X Y : List Int} {a b : Int} {j k : Nat} (h0 : za X (j * 6 + 0) = za Y (k * 6 + 0)) (h1 : za X (j * 6 + 1) = za Y (k * 6 + 1)) : isID X a b j = isID Y a b k := by unfold isID; rw [h0, h1]
/-- A cancellation. -/
def derL (X : List Int) (i net : Int) : List Int := if 0 ≤ i ∧ za X (i.toNat * 6 + 2) = net then X.take (i.toNat * 6) ++ X.drop (i.toNat * 6 + 6) else X
theorem derL_yes {X : List Int} {i net : Int} (h0 : 0 ≤ i) (h : za X (i.toNat * 6 + 2) = net) : derL X i net = X.take (i.toNat * 6) ++ X.drop (i.toNat * 6 + 6) := if_pos ⟨h0, h⟩
theorem derL_no {X : List Int} {i net : Int} (h : ¬ (0 ≤ i ∧ za X (i.toNat * 6 + 2) = net)) : derL X i net = X := if_neg h
theorem derL_ok {X : List Int} {i net : Int} (h : ∀ z ∈ X, I64 z) : ∀ z ∈ derL X i net, I64 z := by
  unfold derL
  split
  · intro z hz
    rcases List.mem_append.1 hz with hz | hz
    · exact h z (List.mem_of_mem_take hz)
    · exact h z (List.mem_of_mem_drop hz)
  · exact h
theorem regL_ok {L r : List Int} {n : Nat} {i : Int} (h : ∀ z ∈ L, I64 z) (hr : ∀ z ∈ r, I64 z) : ∀ z ∈ regL L n i r, I64 z := by
  unfold regL putR
  split
  · split
    · intro z hz
      rcases List.mem_append.1 hz with hz | hz
      · rcases List.mem_append.1 hz with hz | hz
        · exact h z (List.mem_of_mem_take hz)
        · exact hr z hz
      · exact h z (List.mem_of_mem_drop hz)
    · intro z hz
      rcases List.mem_append.1 hz with hz | hz
      · exact h z hz
      · exact hr z hz
  · exact h
theorem reg_ok {L : List Int} {n m : Nat} {r0 r1 r2 r3 r4 r5 : Int} (hL : L.length = n * 6) (hok : okP L n (fnd (isID L r0 r1) n) [r0, r1, r2, r3, r4, r5] = true)
    (hm : (regL L n (fnd (isID L r0 r1) n) [r0, r1, r2, r3, r4, r5]).length = m * 6) {X : List Int} (hX : X = regL L n (fnd (isID L r0 r1) n) [r0, r1, r2, r3, r4, r5]) {F : Int} (hF : F = fnd (isID X r0 r1) m) :
    okR X m = true ∧ regO L n (fnd (isID L r0 r1) n) [r0, r1, r2, r3, r4, r5] = (if 0 ≤ fnd (isID L r0 r1) n then za L ((fnd (isID L r0 r1) n).toNat * 6 + 2) else -1) ∧ (0 ≤ F ∧ F < m) ∧
    (za X (F.toNat * 6 + 0) = r0 ∧ za X (F.toNat * 6 + 1) = r1 ∧ za X (F.toNat * 6 + 2) = r2 ∧ za X (F.toNat * 6 + 3) = r3 ∧ za X (F.toNat * 6 + 4) = r4 ∧ za X (F.toNat * 6 + 5) = r5) ∧
    derL X F (r2 + 1) = X ∧ (derL X F r2).length + 6 = m * 6 ∧ ∀ q, (derL X F r2).length = q * 6 → fnd (isID (derL X F r2) r0 r1) q = -1 := by
  generalize hi : fnd (isID L r0 r1) n = i at hok hm hX ⊢
  have hin : i < n := by have := fnd_bd (isID L r0 r1) n; omega
  have e : X = putR L n i [r0, r1, r2, r3, r4, r5] := by rw [hX, regL, if_pos hok]
  rw [← hX] at hm
  have hlen := putR_len (L := L) (r := [r0, r1, r2, r3, r4, r5]) hL (.inl hin) rfl
  rw [← e] at hlen
  have hmN : m = putN n i := by omega
  have hX1 : okR X m = true := by rw [hmN, e]; exact hok
  have hlow : ∀ j, j < posR n i → isID X r0 r1 j = false := fun j hj => by
    rw [e, isID_congr (put_low hL hin hj (by omega)) (put_low hL hin hj (by omega))]
    unfold posR at hj
    split at hj
    · rename_i h0
      obtain ⟨k, h1, _, _, h4⟩ := fnd_pos (p := isID L r0 r1) (n := n) (by rw [hi]; exact h0)
      rw [hi] at h1
      exact h4 j (by omega)
    · rename_i h0
      exact fnd_neg (n := n) (by rw [hi]; exact h0) j hj
  have hat : ∀ q, q < 6 → za X (posR n i * 6 + q) = za [r0, r1, r2, r3, r4, r5] q := fun q hq => by rw [e]; exact put_at hL hin rfl hq
  have hp : posR n i < m := by rw [hmN]; exact pos_lt hin
  have hFp : F = (posR n i : Int) := by rw [hF]; exact fnd_hit hp (isID_of.2 ⟨hat 0 (by omega), hat 1 (by omega)⟩) hlow
  have hFn : F.toNat = posR n i := by omega
  refine ⟨hX1, by rw [regO, if_pos hok], ⟨by omega, by omega⟩, by rw [hFn]; exact ⟨hat 0 (by omega), hat 1 (by omega), hat 2 (by omega), hat 3 (by omega), hat 4 (by omega), hat 5 (by omega)⟩, derL_no (fun h => ?_), ?_, ?_⟩
  · have := h.2; rw [hFn, hat 2 (by omega)] at this; simp [za] at this; omega
  all_goals rw [derL_yes (by omega) (by rw [hFn]; exact hat 2 (by omega)), hFn]
  · rw [List.length_append, List.length_take, List.length_drop]; omega
  · intro q hq
    rw [List.length_append, List.length_take, List.length_drop] at hq
    have hgood := (of_decide_eq_true hX1).2
    refine fnd_miss fun j hj => ?_
    have hlt : (X.take (posR n i * 6)).length = posR n i * 6 := by rw [List.length_take]; omega
    rcases Nat.lt_or_ge j (posR n i) with h | h
    · rw [← hlow j h]
      exact isID_congr (by rw [za_left (by omega), za_take (by omega)]) (by rw [za_left (by omega), za_take (by omega)])
    · have hc := (hgood (j + 1) (by omega)).2 (posR n i) (by omega)
      rw [clash] at hc
      have hc1 := (Bool.or_eq_false_iff.1 hc).1
      have he : ∀ s, s < 6 → za (X.take (posR n i * 6) ++ X.drop (posR n i * 6 + 6)) (j * 6 + s) = za X ((j + 1) * 6 + s) := fun s hs => by
        rw [show j * 6 + s = (X.take (posR n i * 6)).length + (j * 6 + s - posR n i * 6) by omega, za_right, za_drop]
        congr 1; omega
      cases hd : isID (X.take (posR n i * 6) ++ X.drop (posR n i * 6 + 6)) r0 r1 j with
      | false => rfl
      | true =>
        obtain ⟨a1, a2⟩ := isID_of.1 hd
        rw [he 0 (by omega)] at a1; rw [he 1 (by omega)] at a2
        rw [a1, a2] at hc1
        have hc2 : isID X r0 r1 (posR n i) = true := isID_of.2 ⟨hat 0 (by omega), hat 1 (by omega)⟩
        rw [hc2] at hc1
        cases hc1
theorem rec_cut0 {w : World} {B n r c : Nat} {A : Option Addr} {L : List Int} (h : Rd w B A (n * 6) (L.map (Value.int .i64))) (h2 : r ≤ n) (hc : n ≤ c) : Rd w B (cutA A c 0 6) ((r - 0) * 6) ((L.take (r * 6)).map (Value.int .i64)) := by
  have := h.cut (l := 0) (r := r) (c := c) (by omega) h2 hc
  simpa using this
theorem rec_cutT {w : World} {B n l c : Nat} {A : Option Addr} {L : List Int} (h : Rd w B A (n * 6) (L.map (Value.int .i64))) (h2 : l ≤ n) (hc : n ≤ c) : Rd w B (cutA A c l 6) ((n - l) * 6) ((L.drop (l * 6)).map (Value.int .i64)) := by
  have hl : L.length = n * 6 := h.len
  have := h.cut (l := l) (r := n) (c := c) h2 (Nat.le_refl _) hc
  rw [List.take_of_length_le (by rw [List.length_map]; omega)] at this
  rwa [← List.map_drop] at this
theorem all_app {X Y : List Int} (h1 : ∀ z ∈ X, I64 z) (h2 : ∀ z ∈ Y, I64 z) : ∀ z ∈ X ++ Y, I64 z := fun z hz => (List.mem_append.1 hz).elim (h1 z) (h2 z)
end Go.Proofs.Ytihecjcbgnpakaa
