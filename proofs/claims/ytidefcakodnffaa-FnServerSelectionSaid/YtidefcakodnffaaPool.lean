/-
  Contracts of the server pool's functions, of the program and of the reference.
-/
import Derived.Test.YtidefcakodnffaaHashS
import Derived.Deep.QuietTactic
import Derived.BigQuiet
import Derived.Deep.RegionHeld3
namespace Go.Proofs.Ytidefcakodnffaa
open Go.RowKit

def vpool (s u : Int) : Bool := inR s 1 6 && inR u 0 (2 ^ s.toNat - 1)
theorem vpool_bd {s u : Int} (h : vpool s u = true) : 1 ≤ s ∧ s ≤ 6 ∧ 0 ≤ u ∧ u ≤ 63 := by
  simp only [vpool, Bool.and_eq_true, inR_iff] at h
  obtain ⟨⟨h1, h2⟩, h3, h4⟩ := h
  rcases (show s = 1 ∨ s = 2 ∨ s = 3 ∨ s = 4 ∨ s = 5 ∨ s = 6 by omega) with rfl | rfl | rfl | rfl | rfl | rfl <;> simp at h4 <;> omega

theorem toServerPool (s u : Int) (w : World) : Calls Try.prog 14 #[.agg #[.int .i64 s, .int .i64 u]] w fun e w' => e = .returned (.agg #[.int .i64 s, .int .i64 u]) ∧ Below w.heap.size w w' := by
  go_enter Try.func14, Try.ntmps14
  go_wp2
  go_returns
  exact ⟨rfl, by go_grown⟩

set_option maxHeartbeats 2000000 in
theorem IsValidPool_impl (s u : Int) (w : World) : Calls Try.prog 15 #[.agg #[.int .i64 s, .int .i64 u]] w fun e w' => e = .returned (.bool (vpool s u)) ∧ Below w.heap.size w w' := by
  by_cases h : 1 ≤ s ∧ s ≤ 6
  · have h1 : inR s 1 6 = true := inR_true h.1 h.2
    rcases (show s = 1 ∨ s = 2 ∨ s = 3 ∨ s = 4 ∨ s = 5 ∨ s = 6 by omega) with rfl | rfl | rfl | rfl | rfl | rfl
    all_goals
      clear h
      go_enter Try.func15, Try.ntmps15
      go_wp2
      go_quiet ((go_at_call 40; exact Calls.quiet_of_same (InRangeQ _ _ _ _)))
      go_wp2
      go_ret
      exact ⟨rfl, below_draws (by go_grown) _⟩
  · have h1 : inR s 1 6 = false := inR_false h
    have H := Lib.hid (show vpool s u = false by simp [vpool, h1])
    go_enter Try.func15, Try.ntmps15
    go_wp2
    go_quiet ((go_at_call 40; exact Calls.quiet_of_same (InRangeQ _ _ _ _)))
    go_wp2
    go_ret
    exact ⟨ret_bool H.out.symm, below_draws (by go_grown) _⟩
set_option maxHeartbeats 2000000 in
theorem IsValidPool_spec (s u : Int) (w : World) : Calls Try.prog 13 #[.agg #[.int .i64 s, .int .i64 u]] w fun e w' => e = .returned (.bool (vpool s u)) ∧ Below w.heap.size w w' := by
  by_cases h : 1 ≤ s ∧ s ≤ 6
  · have h1 : inR s 1 6 = true := inR_true h.1 h.2
    rcases (show s = 1 ∨ s = 2 ∨ s = 3 ∨ s = 4 ∨ s = 5 ∨ s = 6 by omega) with rfl | rfl | rfl | rfl | rfl | rfl
    all_goals
      clear h
      go_enter Try.func13, Try.ntmps13
      go_wp2
      go_quiet ((go_at_call 39; exact Calls.quiet_of_same (l1InQ _ _ _ _)))
      go_wp2
      go_ret
      exact ⟨rfl, below_draws (by go_grown) _⟩
  · have h1 : inR s 1 6 = false := inR_false h
    have H := Lib.hid (show vpool s u = false by simp [vpool, h1])
    go_enter Try.func13, Try.ntmps13
    go_wp2
    go_quiet ((go_at_call 39; exact Calls.quiet_of_same (l1InQ _ _ _ _)))
    go_wp2
    go_ret
    exact ⟨ret_bool H.out.symm, below_draws (by go_grown) _⟩

def upB (s u i : Int) : Bool := vpool s u && (inR i 0 (s - 1) && (bits BinOp.and IntKind.i64 (u / 2 ^ i.toNat) 1 == 1))
theorem IsServerUp_impl (s u i : Int) (hs : I64 s) (hi : I64 i) (w : World) : Calls Try.prog 17 #[.agg #[.int .i64 s, .int .i64 u], .int .i64 i] w fun e w' => e = .returned (.bool (upB s u i)) ∧ Below w.heap.size w w' := by
  obtain ⟨hs1, hs2⟩ := hs
  obtain ⟨hi1, hi2⟩ := hi
  cases h1 : vpool s u
  · have H := Lib.hid (show false = upB s u i by simp [upB, h1])
    go_enter Try.func17, Try.ntmps17
    go_wp2_with (first
        | (go_at_call 15; refine (IsValidPool_impl _ _ _).mono ?_; rintro e w1 ⟨rfl, hb⟩; obtain ⟨hc, hf⟩ := bcell hb)
        | (go_at_call 40; refine (InRange _ _ _ _).mono ?_; rintro e w' ⟨rfl, rfl⟩))
    go_ret
    exact ⟨ret_bool H.out, ((Below.refl _ _).alloc (Nat.le_refl _) _).trans (hb.mono (by simp))⟩
  · have hv := vpool_bd h1
    obtain ⟨v1, v2, v3, v4⟩ := hv
    cases h2 : inR i 0 (s - 1)
    · have H := Lib.hid (show false = upB s u i by simp [upB, h2])
      go_enter Try.func17, Try.ntmps17
      go_wp2_with (first
        | (go_at_call 15; refine (IsValidPool_impl _ _ _).mono ?_; rintro e w1 ⟨rfl, hb⟩; obtain ⟨hc, hf⟩ := bcell hb)
        | (go_at_call 40; refine (InRange _ _ _ _).mono ?_; rintro e w' ⟨rfl, rfl⟩))
      go_ret
      exact ⟨ret_bool H.out, ((Below.refl _ _).alloc (Nat.le_refl _) _).trans (hb.mono (by simp))⟩
    · obtain ⟨h3, h4⟩ := inR_iff.1 h2
      have H := Lib.hid (show (bits BinOp.and IntKind.i64 (u / 2 ^ i.toNat) 1 == 1) = upB s u i by simp [upB, h1, h2])
      go_enter Try.func17, Try.ntmps17
      go_wp2_with (first
        | (go_at_call 15; refine (IsValidPool_impl _ _ _).mono ?_; rintro e w1 ⟨rfl, hb⟩; obtain ⟨hc, hf⟩ := bcell hb)
        | (go_at_call 40; refine (InRange _ _ _ _).mono ?_; rintro e w' ⟨rfl, rfl⟩))
      go_ret
      exact ⟨ret_bool H.out, ((Below.refl _ _).alloc (Nat.le_refl _) _).trans (hb.mono (by simp))⟩
theorem IsServerUp_spec (s u i : Int) (hs : I64 s) (hi : I64 i) (w : World) : Calls Try.prog 16 #[.agg #[.int .i64 s, .int .i64 u], .int .i64 i] w fun e w' => e = .returned (.bool (upB s u i)) ∧ Below w.heap.size w w' := by
  obtain ⟨hs1, hs2⟩ := hs
  obtain ⟨hi1, hi2⟩ := hi
  cases h1 : vpool s u
  · have H := Lib.hid (show false = upB s u i by simp [upB, h1])
    go_enter Try.func16, Try.ntmps16
    go_wp2_with (first
        | (go_at_call 13; refine (IsValidPool_spec _ _ _).mono ?_; rintro e w1 ⟨rfl, hb⟩; obtain ⟨hc, hf⟩ := bcell hb)
        | (go_at_call 39; refine (l1In _ _ _ _).mono ?_; rintro e w' ⟨rfl, rfl⟩))
    go_ret
    exact ⟨ret_bool H.out, ((Below.refl _ _).alloc (Nat.le_refl _) _).trans (hb.mono (by simp))⟩
  · have hv := vpool_bd h1
    obtain ⟨v1, v2, v3, v4⟩ := hv
    cases h2 : inR i 0 (s - 1)
    · have H := Lib.hid (show false = upB s u i by simp [upB, h2])
      go_enter Try.func16, Try.ntmps16
      go_wp2_with (first
        | (go_at_call 13; refine (IsValidPool_spec _ _ _).mono ?_; rintro e w1 ⟨rfl, hb⟩; obtain ⟨hc, hf⟩ := bcell hb)
        | (go_at_call 39; refine (l1In _ _ _ _).mono ?_; rintro e w' ⟨rfl, rfl⟩))
      go_ret
      exact ⟨ret_bool H.out, ((Below.refl _ _).alloc (Nat.le_refl _) _).trans (hb.mono (by simp))⟩
    · obtain ⟨h3, h4⟩ := inR_iff.1 h2
      have H := Lib.hid (show (bits BinOp.and IntKind.i64 (u / 2 ^ i.toNat) 1 == 1) = upB s u i by simp [upB, h1, h2])
      go_enter Try.func16, Try.ntmps16
      go_wp2_with (first
        | (go_at_call 13; refine (IsValidPool_spec _ _ _).mono ?_; rintro e w1 ⟨rfl, hb⟩; obtain ⟨hc, hf⟩ := bcell hb)
        | (go_at_call 39; refine (l1In _ _ _ _).mono ?_; rintro e w' ⟨rfl, rfl⟩))
      go_ret
      exact ⟨ret_bool H.out, ((Below.refl _ _).alloc (Nat.le_refl _) _).trans (hb.mono (by simp))⟩
end Go.Proofs.Ytidefcakodnffaa
