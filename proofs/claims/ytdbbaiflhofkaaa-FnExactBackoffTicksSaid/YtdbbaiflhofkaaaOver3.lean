/-
  Contracts of BackoffTicks, of the program and of the reference.
-/
import Derived.Test.YtdbbaiflhofkaaaOver2
namespace Go.Proofs.Ytdbbaiflhofkaaa
open Go.RowKit

def backE (k : Int) : Int := if inR k 0 6 then k else 6
def backoff (k seed : Int) : Int := 2 ^ (backE k).toNat + khash 19 [seed, backE k] % 2 ^ (backE k).toNat
theorem I64_19 : I64 19 := ⟨by decide, by decide⟩
theorem BackoffTicks_impl (k seed : Int) (hs : I64 seed) (w : World) : Calls Try.prog 18 #[.int .i64 k, .int .i64 seed] w fun e w' => e = .returned (.int .i64 (backoff k seed)) ∧ Below w.heap.size w w' := by
  cases h1 : inR k 0 6
  · skip
    have hr : Rd (w.alloc (.cells #[.int .i64 seed, .int .i64 6] 3)) (w.alloc (.cells #[.int .i64 seed, .int .i64 6] 3)).heap.size (some ⟨w.heap.size, 0, none⟩) 2 ([seed, 6].map (Value.int .i64)) := Rd.of_block (heap_alloc_new w _) (by simp) rfl
    have hz : ∀ z ∈ [seed, 6], I64 z := by intro z h; simp only [List.mem_cons, List.not_mem_nil, or_false] at h; rcases h with rfl | rfl; exact hs; exact ⟨by omega, by omega⟩
    obtain ⟨m, hm⟩ : ∃ m, m = khash 19 [seed, 6] := ⟨_, rfl⟩
    have b := khash_bd 19 [seed, 6]
    rw [← hm] at b
    obtain ⟨b1, b2⟩ := b
    have H := Lib.hid (show 64 + m % 64 = backoff k seed by rw [hm]; simp [backoff, backE, h1])
    have HM := Lib.hid hm
    have HZ := Lib.hid hz
    clear hm hz
    go_enter Try.func18, Try.ntmps18
    go_wp2_with (first
      | (go_at_call 36; refine (InRange _ _ _ _).mono ?_; rintro e w' ⟨rfl, rfl⟩)
      | (go_at_call 41; refine (KeyedHash_impl 19 _ _ _ [seed, 6] _ _ I64_19 HZ.out (by omega) hr).mono ?_; rw [← HM.out]; rintro e w' ⟨rfl, rfl⟩))
    go_ret
    exact ⟨ret_int (by have := H.out; omega), by go_grown⟩
  · obtain ⟨h2, h3⟩ := inR_iff.1 h1
    rcases (show k = 0 ∨ k = 1 ∨ k = 2 ∨ k = 3 ∨ k = 4 ∨ k = 5 ∨ k = 6 by omega) with rfl | rfl | rfl | rfl | rfl | rfl | rfl
    · skip
      have hr : Rd (w.alloc (.cells #[.int .i64 seed, .int .i64 0] 3)) (w.alloc (.cells #[.int .i64 seed, .int .i64 0] 3)).heap.size (some ⟨w.heap.size, 0, none⟩) 2 ([seed, 0].map (Value.int .i64)) := Rd.of_block (heap_alloc_new w _) (by simp) rfl
      have hz : ∀ z ∈ [seed, 0], I64 z := by intro z h; simp only [List.mem_cons, List.not_mem_nil, or_false] at h; rcases h with rfl | rfl; exact hs; exact ⟨by omega, by omega⟩
      obtain ⟨m, hm⟩ : ∃ m, m = khash 19 [seed, 0] := ⟨_, rfl⟩
      have b := khash_bd 19 [seed, 0]
      rw [← hm] at b
      obtain ⟨b1, b2⟩ := b
      have H := Lib.hid (show 1 + m % 1 = backoff 0 seed by rw [hm]; rfl)
      have HM := Lib.hid hm
      have HZ := Lib.hid hz
      clear hm hz
      go_enter Try.func18, Try.ntmps18
      go_wp2_with (first
        | (go_at_call 36; refine (InRange _ _ _ _).mono ?_; rintro e w' ⟨rfl, rfl⟩)
        | (go_at_call 41; refine (KeyedHash_impl 19 _ _ _ [seed, 0] _ _ I64_19 HZ.out (by omega) hr).mono ?_; rw [← HM.out]; rintro e w' ⟨rfl, rfl⟩))
      go_ret
      exact ⟨ret_int (by have := H.out; omega), by go_grown⟩
    · skip
      have hr : Rd (w.alloc (.cells #[.int .i64 seed, .int .i64 1] 3)) (w.alloc (.cells #[.int .i64 seed, .int .i64 1] 3)).heap.size (some ⟨w.heap.size, 0, none⟩) 2 ([seed, 1].map (Value.int .i64)) := Rd.of_block (heap_alloc_new w _) (by simp) rfl
      have hz : ∀ z ∈ [seed, 1], I64 z := by intro z h; simp only [List.mem_cons, List.not_mem_nil, or_false] at h; rcases h with rfl | rfl; exact hs; exact ⟨by omega, by omega⟩
      obtain ⟨m, hm⟩ : ∃ m, m = khash 19 [seed, 1] := ⟨_, rfl⟩
      have b := khash_bd 19 [seed, 1]
      rw [← hm] at b
      obtain ⟨b1, b2⟩ := b
      have H := Lib.hid (show 2 + m % 2 = backoff 1 seed by rw [hm]; rfl)
      have HM := Lib.hid hm
      have HZ := Lib.hid hz
      clear hm hz
      go_enter Try.func18, Try.ntmps18
      go_wp2_with (first
        | (go_at_call 36; refine (InRange _ _ _ _).mono ?_; rintro e w' ⟨rfl, rfl⟩)
        | (go_at_call 41; refine (KeyedHash_impl 19 _ _ _ [seed, 1] _ _ I64_19 HZ.out (by omega) hr).mono ?_; rw [← HM.out]; rintro e w' ⟨rfl, rfl⟩))
      go_ret
      exact ⟨ret_int (by have := H.out; omega), by go_grown⟩
    · skip
      have hr : Rd (w.alloc (.cells #[.int .i64 seed, .int .i64 2] 3)) (w.alloc (.cells #[.int .i64 seed, .int .i64 2] 3)).heap.size (some ⟨w.heap.size, 0, none⟩) 2 ([seed, 2].map (Value.int .i64)) := Rd.of_block (heap_alloc_new w _) (by simp) rfl
      have hz : ∀ z ∈ [seed, 2], I64 z := by intro z h; simp only [List.mem_cons, List.not_mem_nil, or_false] at h; rcases h with rfl | rfl; exact hs; exact ⟨by omega, by omega⟩
      obtain ⟨m, hm⟩ : ∃ m, m = khash 19 [seed, 2] := ⟨_, rfl⟩
      have b := khash_bd 19 [seed, 2]
      rw [← hm] at b
      obtain ⟨b1, b2⟩ := b
      have H := Lib.hid (show 4 + m % 4 = backoff 2 seed by rw [hm]; rfl)
      have HM := Lib.hid hm
      have HZ := Lib.hid hz
      clear hm hz
      go_enter Try.func18, Try.ntmps18
      go_wp2_with (first
        | (go_at_call 36; refine (InRange _ _ _ _).mono ?_; rintro e w' ⟨rfl, rfl⟩)
        | (go_at_call 41; refine (KeyedHash_impl 19 _ _ _ [seed, 2] _ _ I64_19 HZ.out (by omega) hr).mono ?_; rw [← HM.out]; rintro e w' ⟨rfl, rfl⟩))
      go_ret
      exact ⟨ret_int (by have := H.out; omega), by go_grown⟩
    · skip
      have hr : Rd (w.alloc (.cells #[.int .i64 seed, .int .i64 3] 3)) (w.alloc (.cells #[.int .i64 seed, .int .i64 3] 3)).heap.size (some ⟨w.heap.size, 0, none⟩) 2 ([seed, 3].map (Value.int .i64)) := Rd.of_block (heap_alloc_new w _) (by simp) rfl
      have hz : ∀ z ∈ [seed, 3], I64 z := by intro z h; simp only [List.mem_cons, List.not_mem_nil, or_false] at h; rcases h with rfl | rfl; exact hs; exact ⟨by omega, by omega⟩
      obtain ⟨m, hm⟩ : ∃ m, m = khash 19 [seed, 3] := ⟨_, rfl⟩
      have b := khash_bd 19 [seed, 3]
      rw [← hm] at b
      obtain ⟨b1, b2⟩ := b
      have H := Lib.hid (show 8 + m % 8 = backoff 3 seed by rw [hm]; rfl)
      have HM := Lib.hid hm
      have HZ := Lib.hid hz
      clear hm hz
      go_enter Try.func18, Try.ntmps18
      go_wp2_with (first
        | (go_at_call 36; refine (InRange _ _ _ _).mono ?_; rintro e w' ⟨rfl, rfl⟩)
        | (go_at_call 41; refine (KeyedHash_impl 19 _ _ _ [seed, 3] _ _ I64_19 HZ.out (by omega) hr).mono ?_; rw [← HM.out]; rintro e w' ⟨rfl, rfl⟩))
      go_ret
      exact ⟨ret_int (by have := H.out; omega), by go_grown⟩
    · skip
      have hr : Rd (w.alloc (.cells #[.int .i64 seed, .int .i64 4] 3)) (w.alloc (.cells #[.int .i64 seed, .int .i64 4] 3)).heap.size (some ⟨w.heap.size, 0, none⟩) 2 ([seed, 4].map (Value.int .i64)) := Rd.of_block (heap_alloc_new w _) (by simp) rfl
      have hz : ∀ z ∈ [seed, 4], I64 z := by intro z h; simp only [List.mem_cons, List.not_mem_nil, or_false] at h; rcases h with rfl | rfl; exact hs; exact ⟨by omega, by omega⟩
      obtain ⟨m, hm⟩ : ∃ m, m = khash 19 [seed, 4] := ⟨_, rfl⟩
      have b := khash_bd 19 [seed, 4]
      rw [← hm] at b
      obtain ⟨b1, b2⟩ := b
      have H := Lib.hid (show 16 + m % 16 = backoff 4 seed by rw [hm]; rfl)
      have HM := Lib.hid hm
      have HZ := Lib.hid hz
      clear hm hz
      go_enter Try.func18, Try.ntmps18
      go_wp2_with (first
        | (go_at_call 36; refine (InRange _ _ _ _).mono ?_; rintro e w' ⟨rfl, rfl⟩)
        | (go_at_call 41; refine (KeyedHash_impl 19 _ _ _ [seed, 4] _ _ I64_19 HZ.out (by omega) hr).mono ?_; rw [← HM.out]; rintro e w' ⟨rfl, rfl⟩))
      go_ret
      exact ⟨ret_int (by have := H.out; omega), by go_grown⟩
    · skip
      have hr : Rd (w.alloc (.cells #[.int .i64 seed, .int .i64 5] 3)) (w.alloc (.cells #[.int .i64 seed, .int .i64 5] 3)).heap.size (some ⟨w.heap.size, 0, none⟩) 2 ([seed, 5].map (Value.int .i64)) := Rd.of_block (heap_alloc_new w _) (by simp) rfl
      have hz : ∀ z ∈ [seed, 5], I64 z := by intro z h; simp only [List.mem_cons, List.not_mem_nil, or_false] at h; rcases h with rfl | rfl; exact hs; exact ⟨by omega, by omega⟩
      obtain ⟨m, hm⟩ : ∃ m, m = khash 19 [seed, 5] := ⟨_, rfl⟩
      have b := khash_bd 19 [seed, 5]
      rw [← hm] at b
      obtain ⟨b1, b2⟩ := b
      have H := Lib.hid (show 32 + m % 32 = backoff 5 seed by rw [hm]; rfl)
      have HM := Lib.hid hm
      have HZ := Lib.hid hz
      clear hm hz
      go_enter Try.func18, Try.ntmps18
      go_wp2_with (first
        | (go_at_call 36; refine (InRange _ _ _ _).mono ?_; rintro e w' ⟨rfl, rfl⟩)
        | (go_at_call 41; refine (KeyedHash_impl 19 _ _ _ [seed, 5] _ _ I64_19 HZ.out (by omega) hr).mono ?_; rw [← HM.out]; rintro e w' ⟨rfl, rfl⟩))
      go_ret
      exact ⟨ret_int (by have := H.out; omega), by go_grown⟩
    · skip
      have hr : Rd (w.alloc (.cells #[.int .i64 seed, .int .i64 6] 3)) (w.alloc (.cells #[.int .i64 seed, .int .i64 6] 3)).heap.size (some ⟨w.heap.size, 0, none⟩) 2 ([seed, 6].map (Value.int .i64)) := Rd.of_block (heap_alloc_new w _) (by simp) rfl
      have hz : ∀ z ∈ [seed, 6], I64 z := by intro z h; simp only [List.mem_cons, List.not_mem_nil, or_false] at h; rcases h with rfl | rfl; exact hs; exact ⟨by omega, by omega⟩
      obtain ⟨m, hm⟩ : ∃ m, m = khash 19 [seed, 6] := ⟨_, rfl⟩
      have b := khash_bd 19 [seed, 6]
      rw [← hm] at b
      obtain ⟨b1, b2⟩ := b
      have H := Lib.hid (show 64 + m % 64 = backoff 6 seed by rw [hm]; rfl)
      have HM := Lib.hid hm
      have HZ := Lib.hid hz
      clear hm hz
      go_enter Try.func18, Try.ntmps18
      go_wp2_with (first
        | (go_at_call 36; refine (InRange _ _ _ _).mono ?_; rintro e w' ⟨rfl, rfl⟩)
        | (go_at_call 41; refine (KeyedHash_impl 19 _ _ _ [seed, 6] _ _ I64_19 HZ.out (by omega) hr).mono ?_; rw [← HM.out]; rintro e w' ⟨rfl, rfl⟩))
      go_ret
      exact ⟨ret_int (by have := H.out; omega), by go_grown⟩
theorem BackoffTicks_spec (k seed : Int) (hs : I64 seed) (w : World) : Calls Try.prog 17 #[.int .i64 k, .int .i64 seed] w fun e w' => e = .returned (.int .i64 (backoff k seed)) ∧ Below w.heap.size w w' := by
  cases h1 : inR k 0 6
  · skip
    have hr : Rd (w.alloc (.cells #[.int .i64 seed, .int .i64 6] 3)) (w.alloc (.cells #[.int .i64 seed, .int .i64 6] 3)).heap.size (some ⟨w.heap.size, 0, none⟩) 2 ([seed, 6].map (Value.int .i64)) := Rd.of_block (heap_alloc_new w _) (by simp) rfl
    have hz : ∀ z ∈ [seed, 6], I64 z := by intro z h; simp only [List.mem_cons, List.not_mem_nil, or_false] at h; rcases h with rfl | rfl; exact hs; exact ⟨by omega, by omega⟩
    obtain ⟨m, hm⟩ : ∃ m, m = khash 19 [seed, 6] := ⟨_, rfl⟩
    have b := khash_bd 19 [seed, 6]
    rw [← hm] at b
    obtain ⟨b1, b2⟩ := b
    have H := Lib.hid (show 64 + m % 64 = backoff k seed by rw [hm]; simp [backoff, backE, h1])
    have HM := Lib.hid hm
    have HZ := Lib.hid hz
    clear hm hz
    go_enter Try.func17, Try.ntmps17
    go_wp2_with (first
      | (go_at_call 35; refine (l1In _ _ _ _).mono ?_; rintro e w' ⟨rfl, rfl⟩)
      | (go_at_call 40; refine (KeyedHash_spec 19 _ _ _ [seed, 6] _ I64_19 HZ.out (by omega) hr).mono ?_; rw [← HM.out]; rintro e w1 ⟨rfl, hb⟩)
      | (go_at_call 39; refine (Mod_spec _ _ ⟨by omega, by omega⟩ (by unfold I64; decide) _).mono ?_; simp only [gmod]; rintro e w' ⟨rfl, rfl⟩))
    go_ret
    exact ⟨ret_int (by have := H.out; omega), ((Below.refl _ _).alloc (Nat.le_refl _) _).trans (hb.mono (by go_size))⟩
  · obtain ⟨h2, h3⟩ := inR_iff.1 h1
    rcases (show k = 0 ∨ k = 1 ∨ k = 2 ∨ k = 3 ∨ k = 4 ∨ k = 5 ∨ k = 6 by omega) with rfl | rfl | rfl | rfl | rfl | rfl | rfl
    · skip
      have hr : Rd (w.alloc (.cells #[.int .i64 seed, .int .i64 0] 3)) (w.alloc (.cells #[.int .i64 seed, .int .i64 0] 3)).heap.size (some ⟨w.heap.size, 0, none⟩) 2 ([seed, 0].map (Value.int .i64)) := Rd.of_block (heap_alloc_new w _) (by simp) rfl
      have hz : ∀ z ∈ [seed, 0], I64 z := by intro z h; simp only [List.mem_cons, List.not_mem_nil, or_false] at h; rcases h with rfl | rfl; exact hs; exact ⟨by omega, by omega⟩
      obtain ⟨m, hm⟩ : ∃ m, m = khash 19 [seed, 0] := ⟨_, rfl⟩
      have b := khash_bd 19 [seed, 0]
      rw [← hm] at b
      obtain ⟨b1, b2⟩ := b
      have H := Lib.hid (show 1 + m % 1 = backoff 0 seed by rw [hm]; rfl)
      have HM := Lib.hid hm
      have HZ := Lib.hid hz
      clear hm hz
      go_enter Try.func17, Try.ntmps17
      go_wp2_with (first
        | (go_at_call 35; refine (l1In _ _ _ _).mono ?_; rintro e w' ⟨rfl, rfl⟩)
        | (go_at_call 40; refine (KeyedHash_spec 19 _ _ _ [seed, 0] _ I64_19 HZ.out (by omega) hr).mono ?_; rw [← HM.out]; rintro e w1 ⟨rfl, hb⟩)
        | (go_at_call 39; refine (Mod_spec _ _ ⟨by omega, by omega⟩ (by unfold I64; decide) _).mono ?_; simp only [gmod]; rintro e w' ⟨rfl, rfl⟩))
      go_ret
      exact ⟨ret_int (by have := H.out; omega), ((Below.refl _ _).alloc (Nat.le_refl _) _).trans (hb.mono (by go_size))⟩
    · skip
      have hr : Rd (w.alloc (.cells #[.int .i64 seed, .int .i64 1] 3)) (w.alloc (.cells #[.int .i64 seed, .int .i64 1] 3)).heap.size (some ⟨w.heap.size, 0, none⟩) 2 ([seed, 1].map (Value.int .i64)) := Rd.of_block (heap_alloc_new w _) (by simp) rfl
      have hz : ∀ z ∈ [seed, 1], I64 z := by intro z h; simp only [List.mem_cons, List.not_mem_nil, or_false] at h; rcases h with rfl | rfl; exact hs; exact ⟨by omega, by omega⟩
      obtain ⟨m, hm⟩ : ∃ m, m = khash 19 [seed, 1] := ⟨_, rfl⟩
      have b := khash_bd 19 [seed, 1]
      rw [← hm] at b
      obtain ⟨b1, b2⟩ := b
      have H := Lib.hid (show 2 + m % 2 = backoff 1 seed by rw [hm]; rfl)
      have HM := Lib.hid hm
      have HZ := Lib.hid hz
      clear hm hz
      go_enter Try.func17, Try.ntmps17
      go_wp2_with (first
        | (go_at_call 35; refine (l1In _ _ _ _).mono ?_; rintro e w' ⟨rfl, rfl⟩)
        | (go_at_call 40; refine (KeyedHash_spec 19 _ _ _ [seed, 1] _ I64_19 HZ.out (by omega) hr).mono ?_; rw [← HM.out]; rintro e w1 ⟨rfl, hb⟩)
        | (go_at_call 39; refine (Mod_spec _ _ ⟨by omega, by omega⟩ (by unfold I64; decide) _).mono ?_; simp only [gmod]; rintro e w' ⟨rfl, rfl⟩))
      go_ret
      exact ⟨ret_int (by have := H.out; omega), ((Below.refl _ _).alloc (Nat.le_refl _) _).trans (hb.mono (by go_size))⟩
    · skip
      have hr : Rd (w.alloc (.cells #[.int .i64 seed, .int .i64 2] 3)) (w.alloc (.cells #[.int .i64 seed, .int .i64 2] 3)).heap.size (some ⟨w.heap.size, 0, none⟩) 2 ([seed, 2].map (Value.int .i64)) := Rd.of_block (heap_alloc_new w _) (by simp) rfl
      have hz : ∀ z ∈ [seed, 2], I64 z := by intro z h; simp only [List.mem_cons, List.not_mem_nil, or_false] at h; rcases h with rfl | rfl; exact hs; exact ⟨by omega, by omega⟩
      obtain ⟨m, hm⟩ : ∃ m, m = khash 19 [seed, 2] := ⟨_, rfl⟩
      have b := khash_bd 19 [seed, 2]
      rw [← hm] at b
      obtain ⟨b1, b2⟩ := b
      have H := Lib.hid (show 4 + m % 4 = backoff 2 seed by rw [hm]; rfl)
      have HM := Lib.hid hm
      have HZ := Lib.hid hz
      clear hm hz
      go_enter Try.func17, Try.ntmps17
      go_wp2_with (first
        | (go_at_call 35; refine (l1In _ _ _ _).mono ?_; rintro e w' ⟨rfl, rfl⟩)
        | (go_at_call 40; refine (KeyedHash_spec 19 _ _ _ [seed, 2] _ I64_19 HZ.out (by omega) hr).mono ?_; rw [← HM.out]; rintro e w1 ⟨rfl, hb⟩)
        | (go_at_call 39; refine (Mod_spec _ _ ⟨by omega, by omega⟩ (by unfold I64; decide) _).mono ?_; simp only [gmod]; rintro e w' ⟨rfl, rfl⟩))
      go_ret
      exact ⟨ret_int (by have := H.out; omega), ((Below.refl _ _).alloc (Nat.le_refl _) _).trans (hb.mono (by go_size))⟩
    · skip
      have hr : Rd (w.alloc (.cells #[.int .i64 seed, .int .i64 3] 3)) (w.alloc (.cells #[.int .i64 seed, .int .i64 3] 3)).heap.size (some ⟨w.heap.size, 0, none⟩) 2 ([seed, 3].map (Value.int .i64)) := Rd.of_block (heap_alloc_new w _) (by simp) rfl
      have hz : ∀ z ∈ [seed, 3], I64 z := by intro z h; simp only [List.mem_cons, List.not_mem_nil, or_false] at h; rcases h with rfl | rfl; exact hs; exact ⟨by omega, by omega⟩
      obtain ⟨m, hm⟩ : ∃ m, m = khash 19 [seed, 3] := ⟨_, rfl⟩
      have b := khash_bd 19 [seed, 3]
      rw [← hm] at b
      obtain ⟨b1, b2⟩ := b
      have H := Lib.hid (show 8 + m % 8 = backoff 3 seed by rw [hm]; rfl)
      have HM := Lib.hid hm
      have HZ := Lib.hid hz
      clear hm hz
      go_enter Try.func17, Try.ntmps17
      go_wp2_with (first
        | (go_at_call 35; refine (l1In _ _ _ _).mono ?_; rintro e w' ⟨rfl, rfl⟩)
        | (go_at_call 40; refine (KeyedHash_spec 19 _ _ _ [seed, 3] _ I64_19 HZ.out (by omega) hr).mono ?_; rw [← HM.out]; rintro e w1 ⟨rfl, hb⟩)
        | (go_at_call 39; refine (Mod_spec _ _ ⟨by omega, by omega⟩ (by unfold I64; decide) _).mono ?_; simp only [gmod]; rintro e w' ⟨rfl, rfl⟩))
      go_ret
      exact ⟨ret_int (by have := H.out; omega), ((Below.refl _ _).alloc (Nat.le_refl _) _).trans (hb.mono (by go_size))⟩
    · skip
      have hr : Rd (w.alloc (.cells #[.int .i64 seed, .int .i64 4] 3)) (w.alloc (.cells #[.int .i64 seed, .int .i64 4] 3)).heap.size (some ⟨w.heap.size, 0, none⟩) 2 ([seed, 4].map (Value.int .i64)) := Rd.of_block (heap_alloc_new w _) (by simp) rfl
      have hz : ∀ z ∈ [seed, 4], I64 z := by intro z h; simp only [List.mem_cons, List.not_mem_nil, or_false] at h; rcases h with rfl | rfl; exact hs; exact ⟨by omega, by omega⟩
      obtain ⟨m, hm⟩ : ∃ m, m = khash 19 [seed, 4] := ⟨_, rfl⟩
      have b := khash_bd 19 [seed, 4]
      rw [← hm] at b
      obtain ⟨b1, b2⟩ := b
      have H := Lib.hid (show 16 + m % 16 = backoff 4 seed by rw [hm]; rfl)
      have HM := Lib.hid hm
      have HZ := Lib.hid hz
      clear hm hz
      go_enter Try.func17, Try.ntmps17
      go_wp2_with (first
        | (go_at_call 35; refine (l1In _ _ _ _).mono ?_; rintro e w' ⟨rfl, rfl⟩)
        | (go_at_call 40; refine (KeyedHash_spec 19 _ _ _ [seed, 4] _ I64_19 HZ.out (by omega) hr).mono ?_; rw [← HM.out]; rintro e w1 ⟨rfl, hb⟩)
        | (go_at_call 39; refine (Mod_spec _ _ ⟨by omega, by omega⟩ (by unfold I64; decide) _).mono ?_; simp only [gmod]; rintro e w' ⟨rfl, rfl⟩))
      go_ret
      exact ⟨ret_int (by have := H.out; omega), ((Below.refl _ _).alloc (Nat.le_refl _) _).trans (hb.mono (by go_size))⟩
    · skip
      have hr : Rd (w.alloc (.cells #[.int .i64 seed, .int .i64 5] 3)) (w.alloc (.cells #[.int .i64 seed, .int .i64 5] 3)).heap.size (some ⟨w.heap.size, 0, none⟩) 2 ([seed, 5].map (Value.int .i64)) := Rd.of_block (heap_alloc_new w _) (by simp) rfl
      have hz : ∀ z ∈ [seed, 5], I64 z := by intro z h; simp only [List.mem_cons, List.not_mem_nil, or_false] at h; rcases h with rfl | rfl; exact hs; exact ⟨by omega, by omega⟩
      obtain ⟨m, hm⟩ : ∃ m, m = khash 19 [seed, 5] := ⟨_, rfl⟩
      have b := khash_bd 19 [seed, 5]
      rw [← hm] at b
      obtain ⟨b1, b2⟩ := b
      have H := Lib.hid (show 32 + m % 32 = backoff 5 seed by rw [hm]; rfl)
      have HM := Lib.hid hm
      have HZ := Lib.hid hz
      clear hm hz
      go_enter Try.func17, Try.ntmps17
      go_wp2_with (first
        | (go_at_call 35; refine (l1In _ _ _ _).mono ?_; rintro e w' ⟨rfl, rfl⟩)
        | (go_at_call 40; refine (KeyedHash_spec 19 _ _ _ [seed, 5] _ I64_19 HZ.out (by omega) hr).mono ?_; rw [← HM.out]; rintro e w1 ⟨rfl, hb⟩)
        | (go_at_call 39; refine (Mod_spec _ _ ⟨by omega, by omega⟩ (by unfold I64; decide) _).mono ?_; simp only [gmod]; rintro e w' ⟨rfl, rfl⟩))
      go_ret
      exact ⟨ret_int (by have := H.out; omega), ((Below.refl _ _).alloc (Nat.le_refl _) _).trans (hb.mono (by go_size))⟩
    · skip
      have hr : Rd (w.alloc (.cells #[.int .i64 seed, .int .i64 6] 3)) (w.alloc (.cells #[.int .i64 seed, .int .i64 6] 3)).heap.size (some ⟨w.heap.size, 0, none⟩) 2 ([seed, 6].map (Value.int .i64)) := Rd.of_block (heap_alloc_new w _) (by simp) rfl
      have hz : ∀ z ∈ [seed, 6], I64 z := by intro z h; simp only [List.mem_cons, List.not_mem_nil, or_false] at h; rcases h with rfl | rfl; exact hs; exact ⟨by omega, by omega⟩
      obtain ⟨m, hm⟩ : ∃ m, m = khash 19 [seed, 6] := ⟨_, rfl⟩
      have b := khash_bd 19 [seed, 6]
      rw [← hm] at b
      obtain ⟨b1, b2⟩ := b
      have H := Lib.hid (show 64 + m % 64 = backoff 6 seed by rw [hm]; rfl)
      have HM := Lib.hid hm
      have HZ := Lib.hid hz
      clear hm hz
      go_enter Try.func17, Try.ntmps17
      go_wp2_with (first
        | (go_at_call 35; refine (l1In _ _ _ _).mono ?_; rintro e w' ⟨rfl, rfl⟩)
        | (go_at_call 40; refine (KeyedHash_spec 19 _ _ _ [seed, 6] _ I64_19 HZ.out (by omega) hr).mono ?_; rw [← HM.out]; rintro e w1 ⟨rfl, hb⟩)
        | (go_at_call 39; refine (Mod_spec _ _ ⟨by omega, by omega⟩ (by unfold I64; decide) _).mono ?_; simp only [gmod]; rintro e w' ⟨rfl, rfl⟩))
      go_ret
      exact ⟨ret_int (by have := H.out; omega), ((Below.refl _ _).alloc (Nat.le_refl _) _).trans (hb.mono (by go_size))⟩
end Go.Proofs.Ytdbbaiflhofkaaa
