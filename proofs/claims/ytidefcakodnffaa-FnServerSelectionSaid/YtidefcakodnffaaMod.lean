/-
  Contracts of the two Mod: each returns gmod, for all arguments that are ints.
-/
import Derived.Test.YtidefcakodnffaaL01
namespace Go.Proofs.Ytidefcakodnffaa
open Go.RowKit

theorem Mod_impl (p q : Int) (hp : I64 p) (hq : I64 q) (w : World) : Calls Try.prog 50 #[.int .i64 p, .int .i64 q] w fun e w' => e = .returned (.int .i64 (gmod p q)) ∧ w = w' := by
  obtain ⟨hp1, hp2⟩ := hp
  obtain ⟨hq1, hq2⟩ := hq
  by_cases h : 1 ≤ q ∧ q ≤ 1000000000000
  · obtain ⟨h1, h2⟩ := h
    have ht := inR_true h1 h2
    have e1 := tmod_fix (p := p) h1
    have lo := tmod_lo (p := p) h1
    have hi := tmod_hi (p := p) h1
    have hg : gmod p q = p % q := if_pos ⟨h1, h2⟩
    by_cases hn : p.tmod q < 0
    · rw [if_pos hn] at e1
      have H := Lib.hid (e1.trans hg.symm); clear e1 hg
      go_enter Try.func50, Try.ntmps50
      go_wp2_with (go_at_call 40; refine (InRange _ _ _ _).mono ?_; rintro e w' ⟨rfl, rfl⟩)
      go_ret
      exact ⟨ret_int H.out, rfl⟩
    · rw [if_neg hn] at e1
      have H := Lib.hid (e1.trans hg.symm); clear e1 hg
      go_enter Try.func50, Try.ntmps50
      go_wp2_with (go_at_call 40; refine (InRange _ _ _ _).mono ?_; rintro e w' ⟨rfl, rfl⟩)
      go_ret
      exact ⟨ret_int H.out, rfl⟩
  · have ht : inR q 1 1000000000000 = false := inR_false h
    have H := Lib.hid (if_neg h : gmod p q = 0)
    clear h
    go_enter Try.func50, Try.ntmps50
    go_wp2_with (go_at_call 40; refine (InRange _ _ _ _).mono ?_; rintro e w' ⟨rfl, rfl⟩)
    go_ret
    exact ⟨ret_int H.out.symm, rfl⟩
theorem Mod_spec (p q : Int) (hp : I64 p) (hq : I64 q) (w : World) : Calls Try.prog 49 #[.int .i64 p, .int .i64 q] w fun e w' => e = .returned (.int .i64 (gmod p q)) ∧ w = w' := by
  obtain ⟨hp1, hp2⟩ := hp
  obtain ⟨hq1, hq2⟩ := hq
  by_cases h : 1 ≤ q ∧ q ≤ 1000000000000
  · obtain ⟨h1, h2⟩ := h
    have ht := inR_true h1 h2
    have e1 := tmod_spec (p := p) h1
    have lo := tmod_lo (p := p) h1
    have hi := tmod_hi (p := p) h1
    have hg : gmod p q = p % q := if_pos ⟨h1, h2⟩
    have e2 : (p.tmod q + q).tmod q = (p.tmod q + q) % q := Int.tmod_eq_emod_of_nonneg (by omega)
    have H := Lib.hid (e2.symm.trans (e1.trans hg.symm)); clear e1 hg e2
    go_enter Try.func49, Try.ntmps49
    go_wp2_with (go_at_call 39; refine (l1In _ _ _ _).mono ?_; rintro e w' ⟨rfl, rfl⟩)
    go_ret
    exact ⟨ret_int H.out, rfl⟩
  · have ht : inR q 1 1000000000000 = false := inR_false h
    have H := Lib.hid (if_neg h : gmod p q = 0)
    clear h
    go_enter Try.func49, Try.ntmps49
    go_wp2_with (go_at_call 39; refine (l1In _ _ _ _).mono ?_; rintro e w' ⟨rfl, rfl⟩)
    go_ret
    exact ⟨ret_int H.out.symm, rfl⟩
end Go.Proofs.Ytidefcakodnffaa
