/-
  Contracts of the program's hash: hashStep and KeyedHash, for every key and every list of ints.
-/
import Derived.Test.YtidefcakodnffaaMod
import Derived.Handy
namespace Go.Proofs.Ytidefcakodnffaa
open Go.RowKit

theorem hashStep (acc v : Int) (h0 : 0 ≤ acc) (h1 : acc < 2147483647) (hv : I64 v) (w : World) : Calls Try.prog 47 #[.int .i64 acc, .int .i64 v] w fun e w' => e = .returned (.int .i64 (hstep acc v)) ∧ w = w' := by
  have hg : gmod v 2147483647 = v % 2147483647 := if_pos (by decide)
  have b1 : 0 ≤ v % 2147483647 := Int.emod_nonneg _ (by decide)
  have b2 : v % 2147483647 < 2147483647 := Int.emod_lt_of_pos _ (by decide)
  obtain ⟨m, hm⟩ : ∃ m, m = v % 2147483647 := ⟨_, rfl⟩
  rw [← hm] at b1 b2 hg
  have H := Lib.hid (show (acc * 1000003 + m + 13) % 2147483647 = hstep acc v by rw [hm]; rfl)
  have HG := Lib.hid hg
  clear hm hg
  go_enter Try.func47, Try.ntmps47
  go_wp2_with (go_at_call 50; refine (Mod_impl _ _ hv ⟨by decide, by decide⟩ _).mono ?_; rw [HG.out]; rintro e w' ⟨rfl, rfl⟩)
  go_ret
  exact ⟨ret_int H.out, rfl⟩

theorem KeyedHash_impl (key : Int) (A : Option Addr) (n c : Nat) (zs : List Int) (w : World) (B : Nat) (hk : I64 key) (hz : ∀ z ∈ zs, I64 z) (hn : n ≤ 9223372036854775807) (hr : Rd w B A n (zs.map (Value.int .i64))) :
    Calls Try.prog 42 #[.int .i64 key, .slice A n c] w fun e w' => e = .returned (.int .i64 (khash key zs)) ∧ w = w' := by
  have hb0 := hstep_bd 11 key
  have hlen : zs.length = n := by simpa using hr.1
  go_enter Try.func42, Try.ntmps42
  go_wp2_with (go_at_call 47; refine (hashStep 11 key (by decide) (by decide) hk _).mono ?_; rintro e w' ⟨rfl, rfl⟩)
  go_loop [5, 12] (fun v5 v12 => ∃ k : Nat, k ≤ n ∧ v12 = .int .i64 k ∧ v5 = .int .i64 (hfold (zs.take k) (hstep 11 key))) (fun _ v12 => n - (intOf v12).toNat)
  case atStart => exact ⟨0, Nat.zero_le _, rfl, rfl⟩
  case round =>
    obtain ⟨k, hkn, rfl, rfl⟩ := hrel
    have hb := hfold_bd (zs.take k) (hstep 11 key) hb0.1 hb0.2
    by_cases hlt : k < n
    · obtain ⟨b, off, rfl, hbB, hc⟩ := hr.2 (by omega)
      have hcell := hc k (.int .i64 (zs[k]'(by omega))) (by simp [show k < zs.length by omega])
      have hzk : I64 (zs[k]'(by omega)) := hz _ (List.getElem_mem _)
      obtain ⟨z, hze⟩ : ∃ z, z = zs[k]'(by omega) := ⟨_, rfl⟩
      rw [← hze] at hcell hzk
      have HS := Lib.hid (show hfold (zs.take (k + 1)) (hstep 11 key) = hstep (hfold (zs.take k) (hstep 11 key)) z by rw [hze]; exact hfold_take zs k (by omega) _)
      clear hze hc hr hz hlen
      go_wp2_with (go_at_call 47; refine (hashStep _ z hb.1 hb.2 hzk _).mono ?_; rintro e w' ⟨rfl, rfl⟩)
      go_round
      case rel => exact ⟨k + 1, by omega, by go_num, by rw [HS.out]⟩
      case measure => simp [intOf]; omega
    · obtain rfl : k = n := by omega
      have HS := Lib.hid (show hfold (zs.take k) (hstep 11 key) = hfold zs (hstep 11 key) by rw [List.take_of_length_le (by omega)])
      clear hlen
      go_wp2_with (go_at_call 47; refine (hashStep _ key hb.1 hb.2 hk _).mono ?_; rintro e w' ⟨rfl, rfl⟩)
      go_ret
      exact ⟨ret_int (by rw [HS.out]; rfl), rfl⟩
end Go.Proofs.Ytidefcakodnffaa
