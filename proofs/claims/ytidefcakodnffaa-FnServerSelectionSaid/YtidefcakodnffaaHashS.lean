/-
  Contracts of the reference's hash: Hash and KeyedHash, for every key and every list of ints (the length bounded by the room that append may ask for).
-/
import Derived.Test.YtidefcakodnffaaHash
import Derived.Test.YtidefcakodnffaaMem
namespace Go.Proofs.Ytidefcakodnffaa
open Go.RowKit

theorem Hash_spec (A : Option Addr) (n c : Nat) (zs : List Int) (w : World) (B : Nat) (hz : ∀ z ∈ zs, I64 z) (hn : n ≤ 9223372036854775807) (hr : Rd w B A n (zs.map (Value.int .i64))) :
    Calls Try.prog 46 #[.slice A n c] w fun e w' => e = .returned (.int .i64 (hfold zs 11)) ∧ w = w' := by
  have hlen : zs.length = n := by simpa using hr.1
  go_enter Try.func46, Try.ntmps46
  go_wp2
  go_loop [3, 4] (fun v3 v4 => ∃ k : Nat, k ≤ n ∧ v4 = .int .i64 k ∧ v3 = .int .i64 (hfold (zs.take k) 11)) (fun _ v4 => n - (intOf v4).toNat)
  case atStart => exact ⟨0, Nat.zero_le _, rfl, rfl⟩
  case round =>
    obtain ⟨k, hkn, rfl, rfl⟩ := hrel
    have hb := hfold_bd (zs.take k) 11 (by decide) (by decide)
    by_cases hlt : k < n
    · obtain ⟨b, off, rfl, hbB, hc⟩ := hr.2 (by omega)
      have hcell := hc k (.int .i64 (zs[k]'(by omega))) (by simp [show k < zs.length by omega])
      have hzk : I64 (zs[k]'(by omega)) := hz _ (List.getElem_mem _)
      obtain ⟨z, hze⟩ : ∃ z, z = zs[k]'(by omega) := ⟨_, rfl⟩
      rw [← hze] at hcell hzk
      obtain ⟨m, hm⟩ : ∃ m, m = gmod z 2147483647 := ⟨_, rfl⟩
      have hm1 : m = z % 2147483647 := by rw [hm]; exact if_pos (by decide)
      have b1 : 0 ≤ m := by rw [hm1]; exact Int.emod_nonneg _ (by decide)
      have b2 : m < 2147483647 := by rw [hm1]; exact Int.emod_lt_of_pos _ (by decide)
      have HS := Lib.hid (show hfold (zs.take (k + 1)) 11 = (hfold (zs.take k) 11 * 1000003 + m + 13) % 2147483647 by rw [hm1, hze]; exact hfold_take zs k (by omega) _)
      have HM := Lib.hid hm
      clear hze hc hr hz hlen hm hm1
      go_wp2_with (go_at_call 49; refine (Mod_spec z _ hzk ⟨by decide, by decide⟩ _).mono ?_; rw [← HM.out]; rintro e w' ⟨rfl, rfl⟩)
      go_round
      case rel => exact ⟨k + 1, by omega, by go_num, by rw [HS.out]⟩
      case measure => simp [intOf]; omega
    · obtain rfl : k = n := by omega
      have HS := Lib.hid (show hfold (zs.take k) 11 = hfold zs 11 by rw [List.take_of_length_le (by omega)])
      clear hlen
      go_wp2
      go_ret
      exact ⟨ret_int HS.out, rfl⟩

theorem KeyedHash_spec (key : Int) (A : Option Addr) (n c : Nat) (zs : List Int) (w : World) (hk : I64 key) (hz : ∀ z ∈ zs, I64 z) (hn : n ≤ 1000000000000) (hr : Rd w w.heap.size A n (zs.map (Value.int .i64))) :
    Calls Try.prog 41 #[.int .i64 key, .slice A n c] w fun e w' => e = .returned (.int .i64 (khash key zs)) ∧ Below w.heap.size w w' := by
  have hlen : zs.length = n := by simpa using hr.1
  have own0 := World.ownsRow_lit (e := 3) (size := 1) (base := w.heap.size) w #[.int .i64 key] 1 (Nat.le_refl _) (by unfold maxLen; omega) rfl
  have hr1 : Rd (w.alloc (.cells #[.int .i64 key] 3)) w.heap.size A (n * 1) (zs.map (Value.int .i64)) := by rw [Nat.mul_one]; exact hr.keep fun b hb => Below.heap_alloc _ _ _ hb
  have HL := Lib.hid (show khash key zs = hfold ([key] ++ zs ++ [key]) 11 from khash_eq key zs)
  have hz' : ∀ z ∈ [key] ++ zs ++ [key], I64 z := by
    intro z h
    simp only [List.mem_append, List.mem_singleton] at h
    rcases h with (rfl | h) | rfl
    · exact hk
    · exact hz z h
    · exact hk
  have HZ := Lib.hid hz'
  clear hlen hz' hz
  go_enter Try.func41, Try.ntmps41
  go_wp2_with (first
    | (at_builtin; refine wpList_append_rd rfl (.tmp 6) (.tmp 7) 39 rfl elInt w.heap.size _ 1 [.int .i64 key] rfl own0 w.heap.size A n c _ rfl hr1 (ints_one _ _) (by omega) (by omega) (by simp) ?_; intro v1 w1 own1 grow1 at1)
    | (at_builtin; refine wpList_append_rd rfl (.tmp 8) (.tmp 10) 39 rfl elInt w.heap.size _ (1 + n) _ rfl (own1.alloc _) (w1.heap.size + 1) _ 1 1 [.int .i64 key] rfl (Rd.one w1 (.int .i64 key) 3) (ints_one .i64 [key]) (by omega) (by omega) (by have := grow1.size; simp at this ⊢; omega) ?_; intro v2 w2 own2 grow2 at2; obtain ⟨A2, c2, rfl, _, _, rd2, _⟩ := Rd.of_own own2)
    | (go_at_call 46; refine (Hash_spec _ _ _ ([key] ++ zs ++ [key]) _ w2.heap.size HZ.out (by omega) (by simpa using rd2)).mono ?_; rintro e w' ⟨rfl, rfl⟩))
  go_ret
  refine ⟨ret_int HL.out.symm, ?_⟩
  have g1 := grow1.size
  simp at g1
  exact ((((Below.refl _ _).alloc (Nat.le_refl _) _).grown grow1 (by simp) (by intro k h; have h1 : some w.heap.size = some k := h; injection h1 with h1; omega)).alloc (by omega) _).grown grow2 (by simp; omega) (by intro k h; have := (own1.lt k h).1; omega)
end Go.Proofs.Ytidefcakodnffaa
