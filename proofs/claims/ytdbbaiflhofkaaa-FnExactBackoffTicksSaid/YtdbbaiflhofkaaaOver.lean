/-
  Contracts of the overload control's functions, of the program and of the reference.
-/
import Derived.Test.YtdbbaiflhofkaaaHashS
import Derived.Test.YtdbbaiflhofkaaaMem2
import Derived.Deep.RegionHeld3
import Derived.Handy
namespace Go.Proofs.Ytdbbaiflhofkaaa
open Go.RowKit

def vdoor (c a t : Int) : Bool := inR c 1 64 && (inR a 0 c && inR t 0 1000000000000)
theorem vdoor_bd {c a t : Int} (h : vdoor c a t = true) : 1 ≤ c ∧ c ≤ 64 ∧ 0 ≤ a ∧ a ≤ c ∧ 0 ≤ t ∧ t ≤ 1000000000000 := by
  simp only [vdoor, Bool.and_eq_true, inR_iff] at h
  omega
def climit (c a t k : Int) : Int := if vdoor c a t && inR k 1 4 then (c * (5 - k) + 3) / 4 else 0
theorem climit_bd (c a t k : Int) : 0 ≤ climit c a t k ∧ climit c a t k ≤ 64 := by
  unfold climit
  split
  · rename_i h
    simp only [Bool.and_eq_true, inR_iff] at h
    obtain ⟨h1, h2, h3⟩ := h
    obtain ⟨v1, v2, _⟩ := vdoor_bd h1
    rcases (show k = 1 ∨ k = 2 ∨ k = 3 ∨ k = 4 by omega) with rfl | rfl | rfl | rfl <;> omega
  · omega
/-- The door behind a request: who is admitted in this tick, the tick, and whether the request is. -/
def admP (c a t k now : Int) : Int × Int × Bool :=
  if vdoor c a t && inR now t 1000000000000 then
    if climit c (if t < now then 0 else a) now k ≤ (if t < now then 0 else a) then (if t < now then 0 else a, now, false) else ((if t < now then 0 else a) + 1, now, true)
  else (a, t, false)
theorem toOverloadControl (c a t : Int) (w : World) : Calls Try.prog 13 #[.agg #[.int .i64 c, .int .i64 a, .int .i64 t]] w fun e w' => e = .returned (.agg #[.int .i64 c, .int .i64 a, .int .i64 t]) ∧ Below w.heap.size w w' := by
  go_enter Try.func13, Try.ntmps13
  go_wp2
  go_returns
  exact ⟨rfl, by go_grown⟩
theorem IsValidOC_impl (c a t : Int) (w : World) : Calls Try.prog 14 #[.agg #[.int .i64 c, .int .i64 a, .int .i64 t]] w fun e w' => e = .returned (.bool (vdoor c a t)) ∧ Below w.heap.size w w' := by
  cases h1 : inR c 1 64
  · have H := Lib.hid (show false = vdoor c a t by simp [vdoor, h1])
    go_enter Try.func14, Try.ntmps14
    go_wp2_with (go_at_call 36; refine (InRange _ _ _ _).mono ?_; rintro e w' ⟨rfl, rfl⟩)
    go_ret
    exact ⟨ret_bool H.out, by go_grown⟩
  · cases h2 : inR a 0 c
    · have H := Lib.hid (show false = vdoor c a t by simp [vdoor, h2])
      go_enter Try.func14, Try.ntmps14
      go_wp2_with (go_at_call 36; refine (InRange _ _ _ _).mono ?_; rintro e w' ⟨rfl, rfl⟩)
      go_ret
      exact ⟨ret_bool H.out, by go_grown⟩
    · have H := Lib.hid (show inR t 0 1000000000000 = vdoor c a t by simp [vdoor, h1, h2])
      go_enter Try.func14, Try.ntmps14
      go_wp2_with (go_at_call 36; refine (InRange _ _ _ _).mono ?_; rintro e w' ⟨rfl, rfl⟩)
      go_ret
      exact ⟨ret_bool H.out, by go_grown⟩
theorem IsValidOC_spec (c a t : Int) (w : World) : Calls Try.prog 12 #[.agg #[.int .i64 c, .int .i64 a, .int .i64 t]] w fun e w' => e = .returned (.bool (vdoor c a t)) ∧ Below w.heap.size w w' := by
  cases h1 : inR c 1 64
  · have H := Lib.hid (show false = vdoor c a t by simp [vdoor, h1])
    go_enter Try.func12, Try.ntmps12
    go_wp2_with (go_at_call 35; refine (l1In _ _ _ _).mono ?_; rintro e w' ⟨rfl, rfl⟩)
    go_ret
    exact ⟨ret_bool H.out, by go_grown⟩
  · cases h2 : inR a 0 c
    · have H := Lib.hid (show false = vdoor c a t by simp [vdoor, h2])
      go_enter Try.func12, Try.ntmps12
      go_wp2_with (go_at_call 35; refine (l1In _ _ _ _).mono ?_; rintro e w' ⟨rfl, rfl⟩)
      go_ret
      exact ⟨ret_bool H.out, by go_grown⟩
    · have H := Lib.hid (show inR t 0 1000000000000 = vdoor c a t by simp [vdoor, h1, h2])
      go_enter Try.func12, Try.ntmps12
      go_wp2_with (go_at_call 35; refine (l1In _ _ _ _).mono ?_; rintro e w' ⟨rfl, rfl⟩)
      go_ret
      exact ⟨ret_bool H.out, by go_grown⟩
theorem CeilDiv_impl (p : Int) (h0 : 0 ≤ p) (h1 : p ≤ 256) (w : World) : Calls Try.prog 38 #[.int .i64 p, .int .i64 4] w fun e w' => e = .returned (.int .i64 ((p + 3) / 4)) ∧ w = w' := by
  have hi := inR_true h0 (show p ≤ 1000000000000 by omega)
  have hj : inR 4 1 1000000000000 = true := by decide
  have H := Lib.hid (show (p + 4 - 1) / 4 = (p + 3) / 4 by congr 1; omega)
  go_enter Try.func38, Try.ntmps38
  go_wp2_with (go_at_call 36; refine (InRange _ _ _ _).mono ?_; rintro e w' ⟨rfl, rfl⟩)
  go_ret
  exact ⟨ret_int H.out, rfl⟩
theorem CeilDiv_spec (p : Int) (h0 : 0 ≤ p) (h1 : p ≤ 256) (w : World) : Calls Try.prog 37 #[.int .i64 p, .int .i64 4] w fun e w' => e = .returned (.int .i64 ((p + 3) / 4)) ∧ w = w' := by
  have hi := inR_true h0 (show p ≤ 1000000000000 by omega)
  have hj : inR 4 1 1000000000000 = true := by decide
  have H := Lib.hid (show (p + 4 - 1) / 4 = (p + 3) / 4 by congr 1; omega)
  go_enter Try.func37, Try.ntmps37
  go_wp2_with (go_at_call 35; refine (l1In _ _ _ _).mono ?_; rintro e w' ⟨rfl, rfl⟩)
  go_ret
  exact ⟨ret_int H.out, rfl⟩
theorem ClassLimit_impl (c a t k : Int) (hk : I64 k) (w : World) : Calls Try.prog 16 #[.agg #[.int .i64 c, .int .i64 a, .int .i64 t], .int .i64 k] w fun e w' => e = .returned (.int .i64 (climit c a t k)) ∧ Below w.heap.size w w' := by
  obtain ⟨hk1, hk2⟩ := hk
  cases h1 : vdoor c a t
  · have H := Lib.hid (show 0 = climit c a t k by simp [climit, h1])
    go_enter Try.func16, Try.ntmps16
    go_wp2_with (first
      | (go_at_call 14; refine (IsValidOC_impl _ _ _ _).mono ?_; rintro e w1 ⟨rfl, hb1⟩; obtain ⟨hc1, hf1⟩ := bcell hb1; have hz1_0 : w.heap.size < w1.heap.size := (by have := hb1.size; first | omega | (simp at this; omega)); have hB1 : Below w.heap.size w w1 := Below.trans (by go_grown) (hb1.mono (by go_size)))
      | (go_at_call 36; refine (InRange _ _ _ _).mono ?_; rintro e w' ⟨rfl, rfl⟩)
      | (go_at_call 38; refine (CeilDiv_impl _ (by omega) (by omega) _).mono ?_; rintro e w' ⟨rfl, rfl⟩))
    go_ret
    exact ⟨ret_int H.out, by go_grown⟩
  · obtain ⟨v1, v2, v3, v4, v5, v6⟩ := vdoor_bd h1
    cases h2 : inR k 1 4
    · have H := Lib.hid (show 0 = climit c a t k by simp [climit, h2])
      clear v5 v6
      go_enter Try.func16, Try.ntmps16
      go_wp2_with (first
        | (go_at_call 14; refine (IsValidOC_impl _ _ _ _).mono ?_; rintro e w1 ⟨rfl, hb1⟩; obtain ⟨hc1, hf1⟩ := bcell hb1; have hz1_0 : w.heap.size < w1.heap.size := (by have := hb1.size; first | omega | (simp at this; omega)); have hB1 : Below w.heap.size w w1 := Below.trans (by go_grown) (hb1.mono (by go_size)))
        | (go_at_call 36; refine (InRange _ _ _ _).mono ?_; rintro e w' ⟨rfl, rfl⟩)
        | (go_at_call 38; refine (CeilDiv_impl _ (by omega) (by omega) _).mono ?_; rintro e w' ⟨rfl, rfl⟩))
      go_ret
      exact ⟨ret_int H.out, by go_grown⟩
    · have H := Lib.hid (show (c * (5 - k) + 3) / 4 = climit c a t k by simp [climit, h1, h2])
      obtain ⟨h3, h4⟩ := inR_iff.1 h2
      have h5 : 0 ≤ c * (5 - k) ∧ c * (5 - k) ≤ 256 := by rcases (show k = 1 ∨ k = 2 ∨ k = 3 ∨ k = 4 by omega) with rfl | rfl | rfl | rfl <;> omega
      obtain ⟨h6, h7⟩ := h5
      clear v5 v6
      go_enter Try.func16, Try.ntmps16
      go_wp2_with (first
        | (go_at_call 14; refine (IsValidOC_impl _ _ _ _).mono ?_; rintro e w1 ⟨rfl, hb1⟩; obtain ⟨hc1, hf1⟩ := bcell hb1; have hz1_0 : w.heap.size < w1.heap.size := (by have := hb1.size; first | omega | (simp at this; omega)); have hB1 : Below w.heap.size w w1 := Below.trans (by go_grown) (hb1.mono (by go_size)))
        | (go_at_call 36; refine (InRange _ _ _ _).mono ?_; rintro e w' ⟨rfl, rfl⟩)
        | (go_at_call 38; refine (CeilDiv_impl _ (by omega) (by omega) _).mono ?_; rintro e w' ⟨rfl, rfl⟩))
      go_ret
      exact ⟨ret_int H.out, by go_grown⟩
theorem ClassLimit_spec (c a t k : Int) (hk : I64 k) (w : World) : Calls Try.prog 15 #[.agg #[.int .i64 c, .int .i64 a, .int .i64 t], .int .i64 k] w fun e w' => e = .returned (.int .i64 (climit c a t k)) ∧ Below w.heap.size w w' := by
  obtain ⟨hk1, hk2⟩ := hk
  cases h1 : vdoor c a t
  · have H := Lib.hid (show 0 = climit c a t k by simp [climit, h1])
    go_enter Try.func15, Try.ntmps15
    go_wp2_with (first
      | (go_at_call 12; refine (IsValidOC_spec _ _ _ _).mono ?_; rintro e w1 ⟨rfl, hb1⟩; obtain ⟨hc1, hf1⟩ := bcell hb1; have hz1_0 : w.heap.size < w1.heap.size := (by have := hb1.size; first | omega | (simp at this; omega)); have hB1 : Below w.heap.size w w1 := Below.trans (by go_grown) (hb1.mono (by go_size)))
      | (go_at_call 35; refine (l1In _ _ _ _).mono ?_; rintro e w' ⟨rfl, rfl⟩)
      | (go_at_call 37; refine (CeilDiv_spec _ (by omega) (by omega) _).mono ?_; rintro e w' ⟨rfl, rfl⟩))
    go_ret
    exact ⟨ret_int H.out, by go_grown⟩
  · obtain ⟨v1, v2, v3, v4, v5, v6⟩ := vdoor_bd h1
    cases h2 : inR k 1 4
    · have H := Lib.hid (show 0 = climit c a t k by simp [climit, h2])
      clear v5 v6
      go_enter Try.func15, Try.ntmps15
      go_wp2_with (first
        | (go_at_call 12; refine (IsValidOC_spec _ _ _ _).mono ?_; rintro e w1 ⟨rfl, hb1⟩; obtain ⟨hc1, hf1⟩ := bcell hb1; have hz1_0 : w.heap.size < w1.heap.size := (by have := hb1.size; first | omega | (simp at this; omega)); have hB1 : Below w.heap.size w w1 := Below.trans (by go_grown) (hb1.mono (by go_size)))
        | (go_at_call 35; refine (l1In _ _ _ _).mono ?_; rintro e w' ⟨rfl, rfl⟩)
        | (go_at_call 37; refine (CeilDiv_spec _ (by omega) (by omega) _).mono ?_; rintro e w' ⟨rfl, rfl⟩))
      go_ret
      exact ⟨ret_int H.out, by go_grown⟩
    · have H := Lib.hid (show (c * (5 - k) + 3) / 4 = climit c a t k by simp [climit, h1, h2])
      obtain ⟨h3, h4⟩ := inR_iff.1 h2
      have h5 : 0 ≤ c * (5 - k) ∧ c * (5 - k) ≤ 256 := by rcases (show k = 1 ∨ k = 2 ∨ k = 3 ∨ k = 4 by omega) with rfl | rfl | rfl | rfl <;> omega
      obtain ⟨h6, h7⟩ := h5
      clear v5 v6
      go_enter Try.func15, Try.ntmps15
      go_wp2_with (first
        | (go_at_call 12; refine (IsValidOC_spec _ _ _ _).mono ?_; rintro e w1 ⟨rfl, hb1⟩; obtain ⟨hc1, hf1⟩ := bcell hb1; have hz1_0 : w.heap.size < w1.heap.size := (by have := hb1.size; first | omega | (simp at this; omega)); have hB1 : Below w.heap.size w w1 := Below.trans (by go_grown) (hb1.mono (by go_size)))
        | (go_at_call 35; refine (l1In _ _ _ _).mono ?_; rintro e w' ⟨rfl, rfl⟩)
        | (go_at_call 37; refine (CeilDiv_spec _ (by omega) (by omega) _).mono ?_; rintro e w' ⟨rfl, rfl⟩))
      go_ret
      exact ⟨ret_int H.out, by go_grown⟩
theorem eqOverloadControl (c a t c' a' t' : Int) (w : World) : Calls Try.prog 23 #[.agg #[.int .i64 c, .int .i64 a, .int .i64 t], .agg #[.int .i64 c', .int .i64 a', .int .i64 t']] w fun e w' => e = .returned (.bool (c == c' && (a == a' && t == t'))) ∧ Below w.heap.size w w' := by
  cases h1 : c == c'
  · have h1' : (c != c') = true := by simp [bne, h1]
    go_enter Try.func23, Try.ntmps23
    go_wp2
    go_ret
    exact ⟨rfl, by go_grown⟩
  · have h1' : (c != c') = false := by simp [bne, h1]
    cases h2 : a == a'
    · have h2' : (a != a') = true := by simp [bne, h2]
      go_enter Try.func23, Try.ntmps23
      go_wp2
      go_ret
      exact ⟨rfl, by go_grown⟩
    · have h2' : (a != a') = false := by simp [bne, h2]
      cases h3 : t == t'
      · have h3' : (t != t') = true := by simp [bne, h3]
        go_enter Try.func23, Try.ntmps23
        go_wp2
        go_ret
        exact ⟨rfl, by go_grown⟩
      · have h3' : (t != t') = false := by simp [bne, h3]
        go_enter Try.func23, Try.ntmps23
        go_wp2
        go_ret
        exact ⟨rfl, by go_grown⟩
end Go.Proofs.Ytdbbaiflhofkaaa
