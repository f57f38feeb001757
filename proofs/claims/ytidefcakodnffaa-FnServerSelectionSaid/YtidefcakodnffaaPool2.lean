/-
  Contracts of RendezvousWeight, SetServerUp and eqServerPool.
-/
import Derived.Test.YtidefcakodnffaaPool
import Derived.Handy
namespace Go.Proofs.Ytidefcakodnffaa
open Go.RowKit

def rweight (i key : Int) : Int := khash 17 [i, key] * khash 17 [i, key] % 2147483647
theorem rweight_bd (i key : Int) : 0 ≤ rweight i key ∧ rweight i key < 2147483647 := by unfold rweight; omega
theorem sq_bd {m : Int} (h0 : 0 ≤ m) (h1 : m < 2147483647) : 0 ≤ m * m ∧ m * m ≤ 4611686014132420609 :=
  ⟨Int.mul_nonneg h0 h0, by have := Int.mul_le_mul (show m ≤ 2147483647 by omega) (show m ≤ 2147483647 by omega) h0 (by decide); simpa using this⟩
theorem I64_17 : I64 17 := ⟨by decide, by decide⟩

theorem RendezvousWeight_impl (i key : Int) (hi : I64 i) (hk : I64 key) (w : World) : Calls Try.prog 19 #[.int .i64 i, .int .i64 key] w fun e w' => e = .returned (.int .i64 (rweight i key)) ∧ Below w.heap.size w w' := by
  have hr : Rd (w.alloc (.cells #[.int .i64 i, .int .i64 key] 3)) (w.alloc (.cells #[.int .i64 i, .int .i64 key] 3)).heap.size (some ⟨w.heap.size, 0, none⟩) 2 ([i, key].map (Value.int .i64)) := Rd.of_block (heap_alloc_new w _) (by simp) rfl
  have hz : ∀ z ∈ [i, key], I64 z := by simp [hi, hk]
  obtain ⟨m, hm⟩ : ∃ m, m = khash 17 [i, key] := ⟨_, rfl⟩
  have b := khash_bd 17 [i, key]
  rw [← hm] at b
  obtain ⟨b1, b2⟩ := b
  obtain ⟨b3, b4⟩ := sq_bd b1 b2
  have H := Lib.hid (show m * m % 2147483647 = rweight i key by rw [hm]; rfl)
  have HM := Lib.hid hm
  have HZ := Lib.hid hz
  clear hm hz
  go_enter Try.func19, Try.ntmps19
  go_wp2_with (go_at_call 42; refine (KeyedHash_impl 17 _ _ _ [i, key] _ _ I64_17 HZ.out (by omega) hr).mono ?_; rw [← HM.out]; rintro e w' ⟨rfl, rfl⟩)
  go_ret
  exact ⟨ret_int H.out, by go_grown⟩

theorem RendezvousWeight_spec (i key : Int) (hi : I64 i) (hk : I64 key) (w : World) : Calls Try.prog 18 #[.int .i64 i, .int .i64 key] w fun e w' => e = .returned (.int .i64 (rweight i key)) ∧ Below w.heap.size w w' := by
  have hr : Rd (w.alloc (.cells #[.int .i64 i, .int .i64 key] 3)) (w.alloc (.cells #[.int .i64 i, .int .i64 key] 3)).heap.size (some ⟨w.heap.size, 0, none⟩) 2 ([i, key].map (Value.int .i64)) := Rd.of_block (heap_alloc_new w _) (by simp) rfl
  have hz : ∀ z ∈ [i, key], I64 z := by simp [hi, hk]
  obtain ⟨m, hm⟩ : ∃ m, m = khash 17 [i, key] := ⟨_, rfl⟩
  have b := khash_bd 17 [i, key]
  rw [← hm] at b
  obtain ⟨b1, b2⟩ := b
  obtain ⟨b3, b4⟩ := sq_bd b1 b2
  have H := Lib.hid (show m * m % 2147483647 = rweight i key by rw [hm]; rfl)
  have HM := Lib.hid hm
  have HZ := Lib.hid hz
  clear hm hz
  go_enter Try.func18, Try.ntmps18
  go_wp2_with (go_at_call 41; refine (KeyedHash_spec 17 _ _ _ [i, key] _ I64_17 HZ.out (by omega) hr).mono ?_; rw [← HM.out]; rintro e w1 ⟨rfl, hb⟩)
  go_ret
  exact ⟨ret_int H.out, ((Below.refl _ _).alloc (Nat.le_refl _) _).trans (hb.mono (by go_size))⟩

theorem eqServerPool (s u s' u' : Int) (w : World) : Calls Try.prog 24 #[.agg #[.int .i64 s, .int .i64 u], .agg #[.int .i64 s', .int .i64 u']] w fun e w' => e = .returned (.bool (s == s' && u == u')) ∧ Below w.heap.size w w' := by
  cases h1 : s == s'
  · have h1' : (s != s') = true := by simp [bne, h1]
    go_enter Try.func24, Try.ntmps24
    go_wp2
    go_ret
    exact ⟨rfl, by go_grown⟩
  · have h1' : (s != s') = false := by simp [bne, h1]
    cases h2 : u == u'
    · have h2' : (u != u') = true := by simp [bne, h2]
      go_enter Try.func24, Try.ntmps24
      go_wp2
      go_ret
      exact ⟨rfl, by go_grown⟩
    · have h2' : (u != u') = false := by simp [bne, h2]
      go_enter Try.func24, Try.ntmps24
      go_wp2
      go_ret
      exact ⟨rfl, by go_grown⟩

def setU (s u i : Int) (up : Bool) : Int := if vpool s u && inR i 0 (s - 1) then (if up then bits BinOp.or IntKind.i64 u (wrap64 (2 ^ i.toNat)) else bits BinOp.andNot IntKind.i64 u (wrap64 (2 ^ i.toNat))) else u
theorem SetServerUp_impl (s u i : Int) (up : Bool) (hs : I64 s) (hi : I64 i) (w : World) : Calls Try.prog 23 #[.agg #[.int .i64 s, .int .i64 u], .int .i64 i, .bool up] w fun e w' => e = .returned (.agg #[.int .i64 s, .int .i64 (setU s u i up)]) ∧ Below w.heap.size w w' := by
  obtain ⟨hs1, hs2⟩ := hs
  obtain ⟨hi1, hi2⟩ := hi
  cases h1 : vpool s u
  · have H := Lib.hid (show setU s u i up = u by simp [setU, h1])
    go_enter Try.func23, Try.ntmps23
    go_wp2_with (first
    | (go_at_call 15; refine (IsValidPool_impl _ _ _).mono ?_; rintro e w1 ⟨rfl, hb1⟩; obtain ⟨hc1, hf1⟩ := bcell hb1; have hc1_0 := fun o => hc1 (w.heap.size) o (by go_size); have hf1_0 := fun o => hf1 (w.heap.size) o (by go_size); have hc1_1 := fun o => hc1 (w.heap.size + 1) o (by go_size); have hf1_1 := fun o => hf1 (w.heap.size + 1) o (by go_size); clear hc1 hf1; have hz1_0 : w.heap.size < w1.heap.size := (by have := hb1.size; first | omega | (simp at this; omega)); have hz1_1 : w.heap.size + 1 < w1.heap.size := (by have := hb1.size; first | omega | (simp at this; omega)); have hB1 : Below w.heap.size w w1 := Below.trans (by go_grown) (hb1.mono (by go_size)))
    | (go_at_call 40; refine (InRange _ _ _ _).mono ?_; rintro e w' ⟨rfl, rfl⟩))
    refine bodyPost_ret (v := .agg #[.int .i64 s, .int .i64 (u)]) (by simp [results, Try.results23, go_sem, *]) rfl ⟨by rw [H.out], by go_grown⟩
  · obtain ⟨v1, v2, v3, v4⟩ := vpool_bd h1
    cases h2 : inR i 0 (s - 1)
    · have H := Lib.hid (show setU s u i up = u by simp [setU, h2])
      go_enter Try.func23, Try.ntmps23
      go_wp2_with (first
    | (go_at_call 15; refine (IsValidPool_impl _ _ _).mono ?_; rintro e w1 ⟨rfl, hb1⟩; obtain ⟨hc1, hf1⟩ := bcell hb1; have hc1_0 := fun o => hc1 (w.heap.size) o (by go_size); have hf1_0 := fun o => hf1 (w.heap.size) o (by go_size); have hc1_1 := fun o => hc1 (w.heap.size + 1) o (by go_size); have hf1_1 := fun o => hf1 (w.heap.size + 1) o (by go_size); clear hc1 hf1; have hz1_0 : w.heap.size < w1.heap.size := (by have := hb1.size; first | omega | (simp at this; omega)); have hz1_1 : w.heap.size + 1 < w1.heap.size := (by have := hb1.size; first | omega | (simp at this; omega)); have hB1 : Below w.heap.size w w1 := Below.trans (by go_grown) (hb1.mono (by go_size)))
    | (go_at_call 40; refine (InRange _ _ _ _).mono ?_; rintro e w' ⟨rfl, rfl⟩))
      refine bodyPost_ret (v := .agg #[.int .i64 s, .int .i64 (u)]) (by simp [results, Try.results23, go_sem, *]) rfl ⟨by rw [H.out], by go_grown⟩
    · obtain ⟨h3, h4⟩ := inR_iff.1 h2
      cases up
      · have H := Lib.hid (show setU s u i false = bits BinOp.andNot IntKind.i64 u (wrap64 (2 ^ i.toNat)) by simp [setU, h1, h2])
        go_enter Try.func23, Try.ntmps23
        go_wp2_with (first
    | (go_at_call 15; refine (IsValidPool_impl _ _ _).mono ?_; rintro e w1 ⟨rfl, hb1⟩; obtain ⟨hc1, hf1⟩ := bcell hb1; have hc1_0 := fun o => hc1 (w.heap.size) o (by go_size); have hf1_0 := fun o => hf1 (w.heap.size) o (by go_size); have hc1_1 := fun o => hc1 (w.heap.size + 1) o (by go_size); have hf1_1 := fun o => hf1 (w.heap.size + 1) o (by go_size); clear hc1 hf1; have hz1_0 : w.heap.size < w1.heap.size := (by have := hb1.size; first | omega | (simp at this; omega)); have hz1_1 : w.heap.size + 1 < w1.heap.size := (by have := hb1.size; first | omega | (simp at this; omega)); have hB1 : Below w.heap.size w w1 := Below.trans (by go_grown) (hb1.mono (by go_size)))
    | (go_at_call 40; refine (InRange _ _ _ _).mono ?_; rintro e w' ⟨rfl, rfl⟩))

        go_region
        all_goals go_wp2
        refine bodyPost_ret (v := .agg #[.int .i64 s, .int .i64 (bits BinOp.andNot IntKind.i64 u (wrap64 (2 ^ i.toNat)))]) (by simp [results, Try.results23, go_sem, *]) rfl ⟨by rw [H.out], by go_grown⟩
      · have H := Lib.hid (show setU s u i true = bits BinOp.or IntKind.i64 u (wrap64 (2 ^ i.toNat)) by simp [setU, h1, h2])
        go_enter Try.func23, Try.ntmps23
        go_wp2_with (first
    | (go_at_call 15; refine (IsValidPool_impl _ _ _).mono ?_; rintro e w1 ⟨rfl, hb1⟩; obtain ⟨hc1, hf1⟩ := bcell hb1; have hc1_0 := fun o => hc1 (w.heap.size) o (by go_size); have hf1_0 := fun o => hf1 (w.heap.size) o (by go_size); have hc1_1 := fun o => hc1 (w.heap.size + 1) o (by go_size); have hf1_1 := fun o => hf1 (w.heap.size + 1) o (by go_size); clear hc1 hf1; have hz1_0 : w.heap.size < w1.heap.size := (by have := hb1.size; first | omega | (simp at this; omega)); have hz1_1 : w.heap.size + 1 < w1.heap.size := (by have := hb1.size; first | omega | (simp at this; omega)); have hB1 : Below w.heap.size w w1 := Below.trans (by go_grown) (hb1.mono (by go_size)))
    | (go_at_call 40; refine (InRange _ _ _ _).mono ?_; rintro e w' ⟨rfl, rfl⟩))

        go_region
        all_goals go_wp2
        refine bodyPost_ret (v := .agg #[.int .i64 s, .int .i64 (bits BinOp.or IntKind.i64 u (wrap64 (2 ^ i.toNat)))]) (by simp [results, Try.results23, go_sem, *]) rfl ⟨by rw [H.out], by go_grown⟩

theorem SetServerUp_spec (s u i : Int) (up : Bool) (hs : I64 s) (hi : I64 i) (w : World) : Calls Try.prog 22 #[.agg #[.int .i64 s, .int .i64 u], .int .i64 i, .bool up] w fun e w' => e = .returned (.agg #[.int .i64 s, .int .i64 (setU s u i up)]) ∧ Below w.heap.size w w' := by
  obtain ⟨hs1, hs2⟩ := hs
  obtain ⟨hi1, hi2⟩ := hi
  cases h1 : vpool s u
  · have H := Lib.hid (show setU s u i up = u by simp [setU, h1])
    go_enter Try.func22, Try.ntmps22
    go_wp2_with (first
    | (go_at_call 13; refine (IsValidPool_spec _ _ _).mono ?_; rintro e w1 ⟨rfl, hb1⟩; obtain ⟨hc1, hf1⟩ := bcell hb1; have hc1_0 := fun o => hc1 (w.heap.size) o (by go_size); have hf1_0 := fun o => hf1 (w.heap.size) o (by go_size); have hc1_1 := fun o => hc1 (w.heap.size + 1) o (by go_size); have hf1_1 := fun o => hf1 (w.heap.size + 1) o (by go_size); clear hc1 hf1; have hz1_0 : w.heap.size < w1.heap.size := (by have := hb1.size; first | omega | (simp at this; omega)); have hz1_1 : w.heap.size + 1 < w1.heap.size := (by have := hb1.size; first | omega | (simp at this; omega)); have hB1 : Below w.heap.size w w1 := Below.trans (by go_grown) (hb1.mono (by go_size)))
    | (go_at_call 39; refine (l1In _ _ _ _).mono ?_; rintro e w' ⟨rfl, rfl⟩))
    refine bodyPost_ret (v := .agg #[.int .i64 s, .int .i64 (u)]) (by simp [results, Try.results22, go_sem, *]) rfl ⟨by rw [H.out], by go_grown⟩
  · obtain ⟨v1, v2, v3, v4⟩ := vpool_bd h1
    cases h2 : inR i 0 (s - 1)
    · have H := Lib.hid (show setU s u i up = u by simp [setU, h2])
      go_enter Try.func22, Try.ntmps22
      go_wp2_with (first
    | (go_at_call 13; refine (IsValidPool_spec _ _ _).mono ?_; rintro e w1 ⟨rfl, hb1⟩; obtain ⟨hc1, hf1⟩ := bcell hb1; have hc1_0 := fun o => hc1 (w.heap.size) o (by go_size); have hf1_0 := fun o => hf1 (w.heap.size) o (by go_size); have hc1_1 := fun o => hc1 (w.heap.size + 1) o (by go_size); have hf1_1 := fun o => hf1 (w.heap.size + 1) o (by go_size); clear hc1 hf1; have hz1_0 : w.heap.size < w1.heap.size := (by have := hb1.size; first | omega | (simp at this; omega)); have hz1_1 : w.heap.size + 1 < w1.heap.size := (by have := hb1.size; first | omega | (simp at this; omega)); have hB1 : Below w.heap.size w w1 := Below.trans (by go_grown) (hb1.mono (by go_size)))
    | (go_at_call 39; refine (l1In _ _ _ _).mono ?_; rintro e w' ⟨rfl, rfl⟩))
      refine bodyPost_ret (v := .agg #[.int .i64 s, .int .i64 (u)]) (by simp [results, Try.results22, go_sem, *]) rfl ⟨by rw [H.out], by go_grown⟩
    · obtain ⟨h3, h4⟩ := inR_iff.1 h2
      cases up
      · have H := Lib.hid (show setU s u i false = bits BinOp.andNot IntKind.i64 u (wrap64 (2 ^ i.toNat)) by simp [setU, h1, h2])
        go_enter Try.func22, Try.ntmps22
        go_wp2_with (first
    | (go_at_call 13; refine (IsValidPool_spec _ _ _).mono ?_; rintro e w1 ⟨rfl, hb1⟩; obtain ⟨hc1, hf1⟩ := bcell hb1; have hc1_0 := fun o => hc1 (w.heap.size) o (by go_size); have hf1_0 := fun o => hf1 (w.heap.size) o (by go_size); have hc1_1 := fun o => hc1 (w.heap.size + 1) o (by go_size); have hf1_1 := fun o => hf1 (w.heap.size + 1) o (by go_size); clear hc1 hf1; have hz1_0 : w.heap.size < w1.heap.size := (by have := hb1.size; first | omega | (simp at this; omega)); have hz1_1 : w.heap.size + 1 < w1.heap.size := (by have := hb1.size; first | omega | (simp at this; omega)); have hB1 : Below w.heap.size w w1 := Below.trans (by go_grown) (hb1.mono (by go_size)))
    | (go_at_call 39; refine (l1In _ _ _ _).mono ?_; rintro e w' ⟨rfl, rfl⟩))

        go_region
        all_goals go_wp2
        refine bodyPost_ret (v := .agg #[.int .i64 s, .int .i64 (bits BinOp.andNot IntKind.i64 u (wrap64 (2 ^ i.toNat)))]) (by simp [results, Try.results22, go_sem, *]) rfl ⟨by rw [H.out], by go_grown⟩
      · have H := Lib.hid (show setU s u i true = bits BinOp.or IntKind.i64 u (wrap64 (2 ^ i.toNat)) by simp [setU, h1, h2])
        go_enter Try.func22, Try.ntmps22
        go_wp2_with (first
    | (go_at_call 13; refine (IsValidPool_spec _ _ _).mono ?_; rintro e w1 ⟨rfl, hb1⟩; obtain ⟨hc1, hf1⟩ := bcell hb1; have hc1_0 := fun o => hc1 (w.heap.size) o (by go_size); have hf1_0 := fun o => hf1 (w.heap.size) o (by go_size); have hc1_1 := fun o => hc1 (w.heap.size + 1) o (by go_size); have hf1_1 := fun o => hf1 (w.heap.size + 1) o (by go_size); clear hc1 hf1; have hz1_0 : w.heap.size < w1.heap.size := (by have := hb1.size; first | omega | (simp at this; omega)); have hz1_1 : w.heap.size + 1 < w1.heap.size := (by have := hb1.size; first | omega | (simp at this; omega)); have hB1 : Below w.heap.size w w1 := Below.trans (by go_grown) (hb1.mono (by go_size)))
    | (go_at_call 39; refine (l1In _ _ _ _).mono ?_; rintro e w' ⟨rfl, rfl⟩))

        go_region
        all_goals go_wp2
        refine bodyPost_ret (v := .agg #[.int .i64 s, .int .i64 (bits BinOp.or IntKind.i64 u (wrap64 (2 ^ i.toNat)))]) (by simp [results, Try.results22, go_sem, *]) rfl ⟨by rw [H.out], by go_grown⟩

end Go.Proofs.Ytidefcakodnffaa
