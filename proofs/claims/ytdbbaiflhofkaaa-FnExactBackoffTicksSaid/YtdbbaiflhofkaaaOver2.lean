/-
  Contracts of AdmitRequest and BackoffTicks, of the program and of the reference.
-/
import Derived.Test.YtdbbaiflhofkaaaOver
namespace Go.Proofs.Ytdbbaiflhofkaaa
open Go.RowKit

theorem admP_bad {c a t k now : Int} (h : (vdoor c a t && inR now t 1000000000000) = false) : admP c a t k now = (a, t, false) := by simp [admP, h]
theorem admP_late {c a t k now : Int} (h : (vdoor c a t && inR now t 1000000000000) = true) (h1 : t < now) (h2 : climit c 0 now k ≤ 0) : admP c a t k now = (0, now, false) := by simp [admP, h, h1, h2]
theorem admP_late1 {c a t k now : Int} (h : (vdoor c a t && inR now t 1000000000000) = true) (h1 : t < now) (h2 : ¬ climit c 0 now k ≤ 0) : admP c a t k now = (1, now, true) := by simp [admP, h, h1, h2]
theorem admP_now {c a t k : Int} (h : (vdoor c a t && inR t t 1000000000000) = true) (h2 : climit c a t k ≤ a) : admP c a t k t = (a, t, false) := by simp [admP, h, h2]
theorem admP_now1 {c a t k : Int} (h : (vdoor c a t && inR t t 1000000000000) = true) (h2 : ¬ climit c a t k ≤ a) : admP c a t k t = (a + 1, t, true) := by simp [admP, h, h2]
theorem AdmitRequest_impl (c a t k now : Int) (hk : I64 k) (hn : I64 now) (w : World) : Calls Try.prog 22 #[.agg #[.int .i64 c, .int .i64 a, .int .i64 t], .int .i64 k, .int .i64 now] w fun e w' => e = .returned (.tuple #[.agg #[.int .i64 c, .int .i64 (admP c a t k now).1, .int .i64 (admP c a t k now).2.1], .bool (admP c a t k now).2.2]) ∧ Below w.heap.size w w' := by
  obtain ⟨hn1, hn2⟩ := hn
  cases h1 : vdoor c a t
  · have H := Lib.hid (admP_bad (k := k) (c := c) (a := a) (t := t) (now := now) (by simp [h1]))
    go_enter Try.func22, Try.ntmps22
    go_wp2_with (first
    | (go_at_call 14; refine (IsValidOC_impl _ _ _ _).mono ?_; rintro e w1 ⟨rfl, hb1⟩; obtain ⟨hc1, hf1⟩ := bcell hb1; have hc1_0 := fun o => hc1 (w.heap.size) o (by go_size); have hf1_0 := fun o => hf1 (w.heap.size) o (by go_size); have hc1_1 := fun o => hc1 (w.heap.size + 1) o (by go_size); have hf1_1 := fun o => hf1 (w.heap.size + 1) o (by go_size); clear hc1 hf1; have hz1_0 : w.heap.size < w1.heap.size := (by have := hb1.size; first | omega | (simp at this; omega)); have hz1_1 : w.heap.size + 1 < w1.heap.size := (by have := hb1.size; first | omega | (simp at this; omega)); have hB1 : Below w.heap.size w w1 := Below.trans (by go_grown) (hb1.mono (by go_size)))
    | (go_at_call 36; refine (InRange _ _ _ _).mono ?_; rintro e w' ⟨rfl, rfl⟩))
    refine bodyPost_ret (v := .tuple #[.agg #[.int .i64 c, .int .i64 a, .int .i64 t], .bool false]) (by simp [results, Try.results22, go_sem, *]) rfl ⟨by rw [H.out], by go_grown⟩
  · obtain ⟨v1, v2, v3, v4, v5, v6⟩ := vdoor_bd h1
    clear v6
    cases h2 : inR now t 1000000000000
    · have H := Lib.hid (admP_bad (k := k) (c := c) (a := a) (t := t) (now := now) (by simp [h2]))
      go_enter Try.func22, Try.ntmps22
      go_wp2_with (first
    | (go_at_call 14; refine (IsValidOC_impl _ _ _ _).mono ?_; rintro e w1 ⟨rfl, hb1⟩; obtain ⟨hc1, hf1⟩ := bcell hb1; have hc1_0 := fun o => hc1 (w.heap.size) o (by go_size); have hf1_0 := fun o => hf1 (w.heap.size) o (by go_size); have hc1_1 := fun o => hc1 (w.heap.size + 1) o (by go_size); have hf1_1 := fun o => hf1 (w.heap.size + 1) o (by go_size); clear hc1 hf1; have hz1_0 : w.heap.size < w1.heap.size := (by have := hb1.size; first | omega | (simp at this; omega)); have hz1_1 : w.heap.size + 1 < w1.heap.size := (by have := hb1.size; first | omega | (simp at this; omega)); have hB1 : Below w.heap.size w w1 := Below.trans (by go_grown) (hb1.mono (by go_size)))
    | (go_at_call 36; refine (InRange _ _ _ _).mono ?_; rintro e w' ⟨rfl, rfl⟩))
      refine bodyPost_ret (v := .tuple #[.agg #[.int .i64 c, .int .i64 a, .int .i64 t], .bool false]) (by simp [results, Try.results22, go_sem, *]) rfl ⟨by rw [H.out], by go_grown⟩
    · obtain ⟨h3, h4⟩ := inR_iff.1 h2
      clear h4
      have hb := show (vdoor c a t && inR now t 1000000000000) = true by simp [h1, h2]
      by_cases h5 : t < now
      · skip
        by_cases h6 : climit c 0 now k ≤ 0
        · have H := Lib.hid (admP_late hb h5 h6)
          clear hb
          obtain ⟨L, hL⟩ : ∃ L, L = climit c 0 now k := ⟨_, rfl⟩
          have HL := Lib.hid hL
          rw [← hL] at h6
          clear hL
          go_enter Try.func22, Try.ntmps22
          go_wp2_with (first
    | (go_at_call 14; refine (IsValidOC_impl _ _ _ _).mono ?_; rintro e w1 ⟨rfl, hb1⟩; obtain ⟨hc1, hf1⟩ := bcell hb1; have hc1_0 := fun o => hc1 (w.heap.size) o (by go_size); have hf1_0 := fun o => hf1 (w.heap.size) o (by go_size); have hc1_1 := fun o => hc1 (w.heap.size + 1) o (by go_size); have hf1_1 := fun o => hf1 (w.heap.size + 1) o (by go_size); clear hc1 hf1; have hz1_0 : w.heap.size < w1.heap.size := (by have := hb1.size; first | omega | (simp at this; omega)); have hz1_1 : w.heap.size + 1 < w1.heap.size := (by have := hb1.size; first | omega | (simp at this; omega)); have hB1 : Below w.heap.size w w1 := Below.trans (by go_grown) (hb1.mono (by go_size)))
    | (go_at_call 36; refine (InRange _ _ _ _).mono ?_; rintro e w' ⟨rfl, rfl⟩))
          go_region_held3 (fun w' => w'.cell? ⟨w.heap.size, 0, none⟩ = some (.int .i64 c) ∧ w'.cell? ⟨w.heap.size, 1, none⟩ = some (.int .i64 0) ∧ w'.cell? ⟨w.heap.size, 2, none⟩ = some (.int .i64 now) ∧ w'.cell? ⟨w.heap.size + 1, 0, none⟩ = some (.int .i64 0) ∧ w'.cell? ⟨w.heap.size + 1, 1, none⟩ = some (.int .i64 0) ∧ w'.cell? ⟨w.heap.size + 1, 2, none⟩ = some (.int .i64 0)) (first | assumption | (refine ⟨?_, ?_, ?_, ?_, ?_, ?_⟩ <;> assumption) | (simp [*, go_sem]; done) | (simp [*, go_sem, World.cell?_alloc_past]; done))
            (first
              | (go_at_call 16; (with_reducible refine (ClassLimit_impl c 0 now k hk _).mono ?_); rw [← HL.out]; rintro e w2 ⟨rfl, hb2⟩; have hz2_0 : w.heap.size < w2.heap.size := (by have := hb2.size; first | omega | (simp at this; omega)); have hz2_1 : w.heap.size + 1 < w2.heap.size := (by have := hb2.size; first | omega | (simp at this; omega)); have hS2 : w2.cell? ⟨w.heap.size, 0, none⟩ = some (.int .i64 c) ∧ w2.cell? ⟨w.heap.size, 1, none⟩ = some (.int .i64 0) ∧ w2.cell? ⟨w.heap.size, 2, none⟩ = some (.int .i64 now) ∧ w2.cell? ⟨w.heap.size + 1, 0, none⟩ = some (.int .i64 0) ∧ w2.cell? ⟨w.heap.size + 1, 1, none⟩ = some (.int .i64 0) ∧ w2.cell? ⟨w.heap.size + 1, 2, none⟩ = some (.int .i64 0) := ⟨(hb2.cell (p := ⟨w.heap.size, 0, none⟩) (by go_size)).trans (by first | assumption | (simp [go_sem]; done) | (simp [*, go_sem]; done) | simp [*, go_sem, World.cell?_alloc_past]), (hb2.cell (p := ⟨w.heap.size, 1, none⟩) (by go_size)).trans (by first | assumption | (simp [go_sem]; done) | (simp [*, go_sem]; done) | simp [*, go_sem, World.cell?_alloc_past]), (hb2.cell (p := ⟨w.heap.size, 2, none⟩) (by go_size)).trans (by first | assumption | (simp [go_sem]; done) | (simp [*, go_sem]; done) | simp [*, go_sem, World.cell?_alloc_past]), (hb2.cell (p := ⟨w.heap.size + 1, 0, none⟩) (by go_size)).trans (by first | assumption | (simp [go_sem]; done) | (simp [*, go_sem]; done) | simp [*, go_sem, World.cell?_alloc_past]), (hb2.cell (p := ⟨w.heap.size + 1, 1, none⟩) (by go_size)).trans (by first | assumption | (simp [go_sem]; done) | (simp [*, go_sem]; done) | simp [*, go_sem, World.cell?_alloc_past]), (hb2.cell (p := ⟨w.heap.size + 1, 2, none⟩) (by go_size)).trans (by first | assumption | (simp [go_sem]; done) | (simp [*, go_sem]; done) | simp [*, go_sem, World.cell?_alloc_past])⟩; have hy2 : w.heap.size ≤ w2.heap.size := (by have := hb2.size; first | omega | (simp at this; omega)); have hT2 : Below w.heap.size w w2 := Below.trans (by go_grown) (hb2.mono (by go_size))))
          have fz2_0 : ∀ o, w2.frozen? ⟨w.heap.size + 1, o, none⟩ = false := fun o => ((bcell hb2).2 (w.heap.size + 1) o (by go_size)).trans (by first | (simp [*, go_sem]; done) | (simp [*, go_sem, World.frozen?_alloc_past]; done))
          have fz2_1 : ∀ o, w2.frozen? ⟨w.heap.size, o, none⟩ = false := fun o => ((bcell hb2).2 (w.heap.size) o (by go_size)).trans (by first | (simp [*, go_sem]; done) | (simp [*, go_sem, World.frozen?_alloc_past]; done))
          have Tw2 : Below w.heap.size w w2 := Below.trans (by go_grown) (hb2.mono (by go_size))
          have Zw2 := Tw2.size
          have BW : Below w.heap.size w w2 := Tw2
          go_wp2
          refine bodyPost_ret (v := .tuple #[.agg #[.int .i64 c, .int .i64 0, .int .i64 now], .bool false]) (by simp [results, Try.results22, go_sem, *]) rfl ⟨by rw [H.out], by go_grown⟩
        · have H := Lib.hid (admP_late1 hb h5 h6)
          clear hb
          obtain ⟨L, hL⟩ : ∃ L, L = climit c 0 now k := ⟨_, rfl⟩
          have HL := Lib.hid hL
          rw [← hL] at h6
          clear hL
          go_enter Try.func22, Try.ntmps22
          go_wp2_with (first
    | (go_at_call 14; refine (IsValidOC_impl _ _ _ _).mono ?_; rintro e w1 ⟨rfl, hb1⟩; obtain ⟨hc1, hf1⟩ := bcell hb1; have hc1_0 := fun o => hc1 (w.heap.size) o (by go_size); have hf1_0 := fun o => hf1 (w.heap.size) o (by go_size); have hc1_1 := fun o => hc1 (w.heap.size + 1) o (by go_size); have hf1_1 := fun o => hf1 (w.heap.size + 1) o (by go_size); clear hc1 hf1; have hz1_0 : w.heap.size < w1.heap.size := (by have := hb1.size; first | omega | (simp at this; omega)); have hz1_1 : w.heap.size + 1 < w1.heap.size := (by have := hb1.size; first | omega | (simp at this; omega)); have hB1 : Below w.heap.size w w1 := Below.trans (by go_grown) (hb1.mono (by go_size)))
    | (go_at_call 36; refine (InRange _ _ _ _).mono ?_; rintro e w' ⟨rfl, rfl⟩))
          go_region_held3 (fun w' => w'.cell? ⟨w.heap.size, 0, none⟩ = some (.int .i64 c) ∧ w'.cell? ⟨w.heap.size, 1, none⟩ = some (.int .i64 0) ∧ w'.cell? ⟨w.heap.size, 2, none⟩ = some (.int .i64 now) ∧ w'.cell? ⟨w.heap.size + 1, 0, none⟩ = some (.int .i64 0) ∧ w'.cell? ⟨w.heap.size + 1, 1, none⟩ = some (.int .i64 0) ∧ w'.cell? ⟨w.heap.size + 1, 2, none⟩ = some (.int .i64 0)) (first | assumption | (refine ⟨?_, ?_, ?_, ?_, ?_, ?_⟩ <;> assumption) | (simp [*, go_sem]; done) | (simp [*, go_sem, World.cell?_alloc_past]; done))
            (first
              | (go_at_call 16; (with_reducible refine (ClassLimit_impl c 0 now k hk _).mono ?_); rw [← HL.out]; rintro e w2 ⟨rfl, hb2⟩; have hz2_0 : w.heap.size < w2.heap.size := (by have := hb2.size; first | omega | (simp at this; omega)); have hz2_1 : w.heap.size + 1 < w2.heap.size := (by have := hb2.size; first | omega | (simp at this; omega)); have hS2 : w2.cell? ⟨w.heap.size, 0, none⟩ = some (.int .i64 c) ∧ w2.cell? ⟨w.heap.size, 1, none⟩ = some (.int .i64 0) ∧ w2.cell? ⟨w.heap.size, 2, none⟩ = some (.int .i64 now) ∧ w2.cell? ⟨w.heap.size + 1, 0, none⟩ = some (.int .i64 0) ∧ w2.cell? ⟨w.heap.size + 1, 1, none⟩ = some (.int .i64 0) ∧ w2.cell? ⟨w.heap.size + 1, 2, none⟩ = some (.int .i64 0) := ⟨(hb2.cell (p := ⟨w.heap.size, 0, none⟩) (by go_size)).trans (by first | assumption | (simp [go_sem]; done) | (simp [*, go_sem]; done) | simp [*, go_sem, World.cell?_alloc_past]), (hb2.cell (p := ⟨w.heap.size, 1, none⟩) (by go_size)).trans (by first | assumption | (simp [go_sem]; done) | (simp [*, go_sem]; done) | simp [*, go_sem, World.cell?_alloc_past]), (hb2.cell (p := ⟨w.heap.size, 2, none⟩) (by go_size)).trans (by first | assumption | (simp [go_sem]; done) | (simp [*, go_sem]; done) | simp [*, go_sem, World.cell?_alloc_past]), (hb2.cell (p := ⟨w.heap.size + 1, 0, none⟩) (by go_size)).trans (by first | assumption | (simp [go_sem]; done) | (simp [*, go_sem]; done) | simp [*, go_sem, World.cell?_alloc_past]), (hb2.cell (p := ⟨w.heap.size + 1, 1, none⟩) (by go_size)).trans (by first | assumption | (simp [go_sem]; done) | (simp [*, go_sem]; done) | simp [*, go_sem, World.cell?_alloc_past]), (hb2.cell (p := ⟨w.heap.size + 1, 2, none⟩) (by go_size)).trans (by first | assumption | (simp [go_sem]; done) | (simp [*, go_sem]; done) | simp [*, go_sem, World.cell?_alloc_past])⟩; have hy2 : w.heap.size ≤ w2.heap.size := (by have := hb2.size; first | omega | (simp at this; omega)); have hT2 : Below w.heap.size w w2 := Below.trans (by go_grown) (hb2.mono (by go_size))))
          have fz2_0 : ∀ o, w2.frozen? ⟨w.heap.size + 1, o, none⟩ = false := fun o => ((bcell hb2).2 (w.heap.size + 1) o (by go_size)).trans (by first | (simp [*, go_sem]; done) | (simp [*, go_sem, World.frozen?_alloc_past]; done))
          have fz2_1 : ∀ o, w2.frozen? ⟨w.heap.size, o, none⟩ = false := fun o => ((bcell hb2).2 (w.heap.size) o (by go_size)).trans (by first | (simp [*, go_sem]; done) | (simp [*, go_sem, World.frozen?_alloc_past]; done))
          have Tw2 : Below w.heap.size w w2 := Below.trans (by go_grown) (hb2.mono (by go_size))
          have Zw2 := Tw2.size
          have BW : Below w.heap.size w w2 := Tw2
          go_wp2
          refine bodyPost_ret (v := .tuple #[.agg #[.int .i64 c, .int .i64 1, .int .i64 now], .bool true]) (by simp [results, Try.results22, go_sem, *]) rfl ⟨by rw [H.out], by go_grown⟩
      · obtain rfl : now = t := by omega
        clear h5
        by_cases h6 : climit c a now k ≤ a
        · have H := Lib.hid (admP_now hb h6)
          clear hb
          obtain ⟨L, hL⟩ : ∃ L, L = climit c a now k := ⟨_, rfl⟩
          have HL := Lib.hid hL
          rw [← hL] at h6
          clear hL
          go_enter Try.func22, Try.ntmps22
          go_wp2_with (first
    | (go_at_call 14; refine (IsValidOC_impl _ _ _ _).mono ?_; rintro e w1 ⟨rfl, hb1⟩; obtain ⟨hc1, hf1⟩ := bcell hb1; have hc1_0 := fun o => hc1 (w.heap.size) o (by go_size); have hf1_0 := fun o => hf1 (w.heap.size) o (by go_size); have hc1_1 := fun o => hc1 (w.heap.size + 1) o (by go_size); have hf1_1 := fun o => hf1 (w.heap.size + 1) o (by go_size); clear hc1 hf1; have hz1_0 : w.heap.size < w1.heap.size := (by have := hb1.size; first | omega | (simp at this; omega)); have hz1_1 : w.heap.size + 1 < w1.heap.size := (by have := hb1.size; first | omega | (simp at this; omega)); have hB1 : Below w.heap.size w w1 := Below.trans (by go_grown) (hb1.mono (by go_size)))
    | (go_at_call 36; refine (InRange _ _ _ _).mono ?_; rintro e w' ⟨rfl, rfl⟩))
          go_region_held3 (fun w' => w'.cell? ⟨w.heap.size, 0, none⟩ = some (.int .i64 c) ∧ w'.cell? ⟨w.heap.size, 1, none⟩ = some (.int .i64 a) ∧ w'.cell? ⟨w.heap.size, 2, none⟩ = some (.int .i64 now) ∧ w'.cell? ⟨w.heap.size + 1, 0, none⟩ = some (.int .i64 0) ∧ w'.cell? ⟨w.heap.size + 1, 1, none⟩ = some (.int .i64 0) ∧ w'.cell? ⟨w.heap.size + 1, 2, none⟩ = some (.int .i64 0)) (first | assumption | (refine ⟨?_, ?_, ?_, ?_, ?_, ?_⟩ <;> assumption) | (simp [*, go_sem]; done) | (simp [*, go_sem, World.cell?_alloc_past]; done))
            (first
              | (go_at_call 16; (with_reducible refine (ClassLimit_impl c a now k hk _).mono ?_); rw [← HL.out]; rintro e w2 ⟨rfl, hb2⟩; have hz2_0 : w.heap.size < w2.heap.size := (by have := hb2.size; first | omega | (simp at this; omega)); have hz2_1 : w.heap.size + 1 < w2.heap.size := (by have := hb2.size; first | omega | (simp at this; omega)); have hS2 : w2.cell? ⟨w.heap.size, 0, none⟩ = some (.int .i64 c) ∧ w2.cell? ⟨w.heap.size, 1, none⟩ = some (.int .i64 a) ∧ w2.cell? ⟨w.heap.size, 2, none⟩ = some (.int .i64 now) ∧ w2.cell? ⟨w.heap.size + 1, 0, none⟩ = some (.int .i64 0) ∧ w2.cell? ⟨w.heap.size + 1, 1, none⟩ = some (.int .i64 0) ∧ w2.cell? ⟨w.heap.size + 1, 2, none⟩ = some (.int .i64 0) := ⟨(hb2.cell (p := ⟨w.heap.size, 0, none⟩) (by go_size)).trans (by first | assumption | (simp [go_sem]; done) | (simp [*, go_sem]; done) | simp [*, go_sem, World.cell?_alloc_past]), (hb2.cell (p := ⟨w.heap.size, 1, none⟩) (by go_size)).trans (by first | assumption | (simp [go_sem]; done) | (simp [*, go_sem]; done) | simp [*, go_sem, World.cell?_alloc_past]), (hb2.cell (p := ⟨w.heap.size, 2, none⟩) (by go_size)).trans (by first | assumption | (simp [go_sem]; done) | (simp [*, go_sem]; done) | simp [*, go_sem, World.cell?_alloc_past]), (hb2.cell (p := ⟨w.heap.size + 1, 0, none⟩) (by go_size)).trans (by first | assumption | (simp [go_sem]; done) | (simp [*, go_sem]; done) | simp [*, go_sem, World.cell?_alloc_past]), (hb2.cell (p := ⟨w.heap.size + 1, 1, none⟩) (by go_size)).trans (by first | assumption | (simp [go_sem]; done) | (simp [*, go_sem]; done) | simp [*, go_sem, World.cell?_alloc_past]), (hb2.cell (p := ⟨w.heap.size + 1, 2, none⟩) (by go_size)).trans (by first | assumption | (simp [go_sem]; done) | (simp [*, go_sem]; done) | simp [*, go_sem, World.cell?_alloc_past])⟩; have hy2 : w.heap.size ≤ w2.heap.size := (by have := hb2.size; first | omega | (simp at this; omega)); have hT2 : Below w.heap.size w w2 := Below.trans (by go_grown) (hb2.mono (by go_size))))
          have fz2_0 : ∀ o, w2.frozen? ⟨w.heap.size + 1, o, none⟩ = false := fun o => ((bcell hb2).2 (w.heap.size + 1) o (by go_size)).trans (by first | (simp [*, go_sem]; done) | (simp [*, go_sem, World.frozen?_alloc_past]; done))
          have fz2_1 : ∀ o, w2.frozen? ⟨w.heap.size, o, none⟩ = false := fun o => ((bcell hb2).2 (w.heap.size) o (by go_size)).trans (by first | (simp [*, go_sem]; done) | (simp [*, go_sem, World.frozen?_alloc_past]; done))
          have Tw2 : Below w.heap.size w w2 := Below.trans (by go_grown) (hb2.mono (by go_size))
          have Zw2 := Tw2.size
          have BW : Below w.heap.size w w2 := Tw2
          go_wp2
          refine bodyPost_ret (v := .tuple #[.agg #[.int .i64 c, .int .i64 a, .int .i64 now], .bool false]) (by simp [results, Try.results22, go_sem, *]) rfl ⟨by rw [H.out], by go_grown⟩
        · have H := Lib.hid (admP_now1 hb h6)
          clear hb
          obtain ⟨L, hL⟩ : ∃ L, L = climit c a now k := ⟨_, rfl⟩
          have HL := Lib.hid hL
          rw [← hL] at h6
          clear hL
          go_enter Try.func22, Try.ntmps22
          go_wp2_with (first
    | (go_at_call 14; refine (IsValidOC_impl _ _ _ _).mono ?_; rintro e w1 ⟨rfl, hb1⟩; obtain ⟨hc1, hf1⟩ := bcell hb1; have hc1_0 := fun o => hc1 (w.heap.size) o (by go_size); have hf1_0 := fun o => hf1 (w.heap.size) o (by go_size); have hc1_1 := fun o => hc1 (w.heap.size + 1) o (by go_size); have hf1_1 := fun o => hf1 (w.heap.size + 1) o (by go_size); clear hc1 hf1; have hz1_0 : w.heap.size < w1.heap.size := (by have := hb1.size; first | omega | (simp at this; omega)); have hz1_1 : w.heap.size + 1 < w1.heap.size := (by have := hb1.size; first | omega | (simp at this; omega)); have hB1 : Below w.heap.size w w1 := Below.trans (by go_grown) (hb1.mono (by go_size)))
    | (go_at_call 36; refine (InRange _ _ _ _).mono ?_; rintro e w' ⟨rfl, rfl⟩))
          go_region_held3 (fun w' => w'.cell? ⟨w.heap.size, 0, none⟩ = some (.int .i64 c) ∧ w'.cell? ⟨w.heap.size, 1, none⟩ = some (.int .i64 a) ∧ w'.cell? ⟨w.heap.size, 2, none⟩ = some (.int .i64 now) ∧ w'.cell? ⟨w.heap.size + 1, 0, none⟩ = some (.int .i64 0) ∧ w'.cell? ⟨w.heap.size + 1, 1, none⟩ = some (.int .i64 0) ∧ w'.cell? ⟨w.heap.size + 1, 2, none⟩ = some (.int .i64 0)) (first | assumption | (refine ⟨?_, ?_, ?_, ?_, ?_, ?_⟩ <;> assumption) | (simp [*, go_sem]; done) | (simp [*, go_sem, World.cell?_alloc_past]; done))
            (first
              | (go_at_call 16; (with_reducible refine (ClassLimit_impl c a now k hk _).mono ?_); rw [← HL.out]; rintro e w2 ⟨rfl, hb2⟩; have hz2_0 : w.heap.size < w2.heap.size := (by have := hb2.size; first | omega | (simp at this; omega)); have hz2_1 : w.heap.size + 1 < w2.heap.size := (by have := hb2.size; first | omega | (simp at this; omega)); have hS2 : w2.cell? ⟨w.heap.size, 0, none⟩ = some (.int .i64 c) ∧ w2.cell? ⟨w.heap.size, 1, none⟩ = some (.int .i64 a) ∧ w2.cell? ⟨w.heap.size, 2, none⟩ = some (.int .i64 now) ∧ w2.cell? ⟨w.heap.size + 1, 0, none⟩ = some (.int .i64 0) ∧ w2.cell? ⟨w.heap.size + 1, 1, none⟩ = some (.int .i64 0) ∧ w2.cell? ⟨w.heap.size + 1, 2, none⟩ = some (.int .i64 0) := ⟨(hb2.cell (p := ⟨w.heap.size, 0, none⟩) (by go_size)).trans (by first | assumption | (simp [go_sem]; done) | (simp [*, go_sem]; done) | simp [*, go_sem, World.cell?_alloc_past]), (hb2.cell (p := ⟨w.heap.size, 1, none⟩) (by go_size)).trans (by first | assumption | (simp [go_sem]; done) | (simp [*, go_sem]; done) | simp [*, go_sem, World.cell?_alloc_past]), (hb2.cell (p := ⟨w.heap.size, 2, none⟩) (by go_size)).trans (by first | assumption | (simp [go_sem]; done) | (simp [*, go_sem]; done) | simp [*, go_sem, World.cell?_alloc_past]), (hb2.cell (p := ⟨w.heap.size + 1, 0, none⟩) (by go_size)).trans (by first | assumption | (simp [go_sem]; done) | (simp [*, go_sem]; done) | simp [*, go_sem, World.cell?_alloc_past]), (hb2.cell (p := ⟨w.heap.size + 1, 1, none⟩) (by go_size)).trans (by first | assumption | (simp [go_sem]; done) | (simp [*, go_sem]; done) | simp [*, go_sem, World.cell?_alloc_past]), (hb2.cell (p := ⟨w.heap.size + 1, 2, none⟩) (by go_size)).trans (by first | assumption | (simp [go_sem]; done) | (simp [*, go_sem]; done) | simp [*, go_sem, World.cell?_alloc_past])⟩; have hy2 : w.heap.size ≤ w2.heap.size := (by have := hb2.size; first | omega | (simp at this; omega)); have hT2 : Below w.heap.size w w2 := Below.trans (by go_grown) (hb2.mono (by go_size))))
          have fz2_0 : ∀ o, w2.frozen? ⟨w.heap.size + 1, o, none⟩ = false := fun o => ((bcell hb2).2 (w.heap.size + 1) o (by go_size)).trans (by first | (simp [*, go_sem]; done) | (simp [*, go_sem, World.frozen?_alloc_past]; done))
          have fz2_1 : ∀ o, w2.frozen? ⟨w.heap.size, o, none⟩ = false := fun o => ((bcell hb2).2 (w.heap.size) o (by go_size)).trans (by first | (simp [*, go_sem]; done) | (simp [*, go_sem, World.frozen?_alloc_past]; done))
          have Tw2 : Below w.heap.size w w2 := Below.trans (by go_grown) (hb2.mono (by go_size))
          have Zw2 := Tw2.size
          have BW : Below w.heap.size w w2 := Tw2
          go_wp2
          refine bodyPost_ret (v := .tuple #[.agg #[.int .i64 c, .int .i64 (a + 1), .int .i64 now], .bool true]) (by simp [results, Try.results22, go_sem, *]) rfl ⟨by rw [H.out], by go_grown⟩
theorem AdmitRequest_spec (c a t k now : Int) (hk : I64 k) (hn : I64 now) (w : World) : Calls Try.prog 21 #[.agg #[.int .i64 c, .int .i64 a, .int .i64 t], .int .i64 k, .int .i64 now] w fun e w' => e = .returned (.tuple #[.agg #[.int .i64 c, .int .i64 (admP c a t k now).1, .int .i64 (admP c a t k now).2.1], .bool (admP c a t k now).2.2]) ∧ Below w.heap.size w w' := by
  obtain ⟨hn1, hn2⟩ := hn
  cases h1 : vdoor c a t
  · have H := Lib.hid (admP_bad (k := k) (c := c) (a := a) (t := t) (now := now) (by simp [h1]))
    go_enter Try.func21, Try.ntmps21
    go_wp2_with (first
    | (go_at_call 12; refine (IsValidOC_spec _ _ _ _).mono ?_; rintro e w1 ⟨rfl, hb1⟩; obtain ⟨hc1, hf1⟩ := bcell hb1; have hc1_0 := fun o => hc1 (w.heap.size) o (by go_size); have hf1_0 := fun o => hf1 (w.heap.size) o (by go_size); have hc1_1 := fun o => hc1 (w.heap.size + 1) o (by go_size); have hf1_1 := fun o => hf1 (w.heap.size + 1) o (by go_size); clear hc1 hf1; have hz1_0 : w.heap.size < w1.heap.size := (by have := hb1.size; first | omega | (simp at this; omega)); have hz1_1 : w.heap.size + 1 < w1.heap.size := (by have := hb1.size; first | omega | (simp at this; omega)); have hB1 : Below w.heap.size w w1 := Below.trans (by go_grown) (hb1.mono (by go_size)))
    | (go_at_call 35; refine (l1In _ _ _ _).mono ?_; rintro e w' ⟨rfl, rfl⟩))
    refine bodyPost_ret (v := .tuple #[.agg #[.int .i64 c, .int .i64 a, .int .i64 t], .bool false]) (by simp [results, Try.results21, go_sem, *]) rfl ⟨by rw [H.out], by go_grown⟩
  · obtain ⟨v1, v2, v3, v4, v5, v6⟩ := vdoor_bd h1
    clear v6
    cases h2 : inR now t 1000000000000
    · have H := Lib.hid (admP_bad (k := k) (c := c) (a := a) (t := t) (now := now) (by simp [h2]))
      go_enter Try.func21, Try.ntmps21
      go_wp2_with (first
    | (go_at_call 12; refine (IsValidOC_spec _ _ _ _).mono ?_; rintro e w1 ⟨rfl, hb1⟩; obtain ⟨hc1, hf1⟩ := bcell hb1; have hc1_0 := fun o => hc1 (w.heap.size) o (by go_size); have hf1_0 := fun o => hf1 (w.heap.size) o (by go_size); have hc1_1 := fun o => hc1 (w.heap.size + 1) o (by go_size); have hf1_1 := fun o => hf1 (w.heap.size + 1) o (by go_size); clear hc1 hf1; have hz1_0 : w.heap.size < w1.heap.size := (by have := hb1.size; first | omega | (simp at this; omega)); have hz1_1 : w.heap.size + 1 < w1.heap.size := (by have := hb1.size; first | omega | (simp at this; omega)); have hB1 : Below w.heap.size w w1 := Below.trans (by go_grown) (hb1.mono (by go_size)))
    | (go_at_call 35; refine (l1In _ _ _ _).mono ?_; rintro e w' ⟨rfl, rfl⟩))
      refine bodyPost_ret (v := .tuple #[.agg #[.int .i64 c, .int .i64 a, .int .i64 t], .bool false]) (by simp [results, Try.results21, go_sem, *]) rfl ⟨by rw [H.out], by go_grown⟩
    · obtain ⟨h3, h4⟩ := inR_iff.1 h2
      clear h4
      have hb := show (vdoor c a t && inR now t 1000000000000) = true by simp [h1, h2]
      by_cases h5 : t < now
      · skip
        by_cases h6 : climit c 0 now k ≤ 0
        · have H := Lib.hid (admP_late hb h5 h6)
          clear hb
          obtain ⟨L, hL⟩ : ∃ L, L = climit c 0 now k := ⟨_, rfl⟩
          have HL := Lib.hid hL
          rw [← hL] at h6
          clear hL
          go_enter Try.func21, Try.ntmps21
          go_wp2_with (first
    | (go_at_call 12; refine (IsValidOC_spec _ _ _ _).mono ?_; rintro e w1 ⟨rfl, hb1⟩; obtain ⟨hc1, hf1⟩ := bcell hb1; have hc1_0 := fun o => hc1 (w.heap.size) o (by go_size); have hf1_0 := fun o => hf1 (w.heap.size) o (by go_size); have hc1_1 := fun o => hc1 (w.heap.size + 1) o (by go_size); have hf1_1 := fun o => hf1 (w.heap.size + 1) o (by go_size); clear hc1 hf1; have hz1_0 : w.heap.size < w1.heap.size := (by have := hb1.size; first | omega | (simp at this; omega)); have hz1_1 : w.heap.size + 1 < w1.heap.size := (by have := hb1.size; first | omega | (simp at this; omega)); have hB1 : Below w.heap.size w w1 := Below.trans (by go_grown) (hb1.mono (by go_size)))
    | (go_at_call 35; refine (l1In _ _ _ _).mono ?_; rintro e w' ⟨rfl, rfl⟩))
          go_region_held3 (fun w' => w'.cell? ⟨w1.heap.size, 0, none⟩ = some (.int .i64 c) ∧ w'.cell? ⟨w1.heap.size, 1, none⟩ = some (.int .i64 0) ∧ w'.cell? ⟨w1.heap.size, 2, none⟩ = some (.int .i64 now) ∧ w'.cell? ⟨w.heap.size + 1, 0, none⟩ = some (.int .i64 0) ∧ w'.cell? ⟨w.heap.size + 1, 1, none⟩ = some (.int .i64 0) ∧ w'.cell? ⟨w.heap.size + 1, 2, none⟩ = some (.int .i64 0)) (first | assumption | (refine ⟨?_, ?_, ?_, ?_, ?_, ?_⟩ <;> assumption) | (simp [*, go_sem]; done) | (simp [*, go_sem, World.cell?_alloc_past]; done))
            (first
              | (go_at_call 15; (with_reducible refine (ClassLimit_spec c 0 now k hk _).mono ?_); rw [← HL.out]; rintro e w2 ⟨rfl, hb2⟩; have hz2_0 : w.heap.size < w2.heap.size := (by have := hb2.size; first | omega | (simp at this; omega)); have hz2_1 : w.heap.size + 1 < w2.heap.size := (by have := hb2.size; first | omega | (simp at this; omega)); have hz2_2 : w1.heap.size < w2.heap.size := (by have := hb2.size; first | omega | (simp at this; omega)); have hS2 : w2.cell? ⟨w1.heap.size, 0, none⟩ = some (.int .i64 c) ∧ w2.cell? ⟨w1.heap.size, 1, none⟩ = some (.int .i64 0) ∧ w2.cell? ⟨w1.heap.size, 2, none⟩ = some (.int .i64 now) ∧ w2.cell? ⟨w.heap.size + 1, 0, none⟩ = some (.int .i64 0) ∧ w2.cell? ⟨w.heap.size + 1, 1, none⟩ = some (.int .i64 0) ∧ w2.cell? ⟨w.heap.size + 1, 2, none⟩ = some (.int .i64 0) := ⟨(hb2.cell (p := ⟨w1.heap.size, 0, none⟩) (by go_size)).trans (by first | assumption | (simp [go_sem]; done) | (simp [*, go_sem]; done) | simp [*, go_sem, World.cell?_alloc_past]), (hb2.cell (p := ⟨w1.heap.size, 1, none⟩) (by go_size)).trans (by first | assumption | (simp [go_sem]; done) | (simp [*, go_sem]; done) | simp [*, go_sem, World.cell?_alloc_past]), (hb2.cell (p := ⟨w1.heap.size, 2, none⟩) (by go_size)).trans (by first | assumption | (simp [go_sem]; done) | (simp [*, go_sem]; done) | simp [*, go_sem, World.cell?_alloc_past]), (hb2.cell (p := ⟨w.heap.size + 1, 0, none⟩) (by go_size)).trans (by first | assumption | (simp [go_sem]; done) | (simp [*, go_sem]; done) | simp [*, go_sem, World.cell?_alloc_past]), (hb2.cell (p := ⟨w.heap.size + 1, 1, none⟩) (by go_size)).trans (by first | assumption | (simp [go_sem]; done) | (simp [*, go_sem]; done) | simp [*, go_sem, World.cell?_alloc_past]), (hb2.cell (p := ⟨w.heap.size + 1, 2, none⟩) (by go_size)).trans (by first | assumption | (simp [go_sem]; done) | (simp [*, go_sem]; done) | simp [*, go_sem, World.cell?_alloc_past])⟩; have hy2 : w.heap.size ≤ w2.heap.size := (by have := hb2.size; first | omega | (simp at this; omega)); have hT2 : Below w.heap.size w w2 := Below.trans (by go_grown) (hb2.mono (by go_size))))
          have fz2_0 : ∀ o, w2.frozen? ⟨w.heap.size + 1, o, none⟩ = false := fun o => ((bcell hb2).2 (w.heap.size + 1) o (by go_size)).trans (by first | (simp [*, go_sem]; done) | (simp [*, go_sem, World.frozen?_alloc_past]; done))
          have fz2_1 : ∀ o, w2.frozen? ⟨w1.heap.size, o, none⟩ = false := fun o => ((bcell hb2).2 (w1.heap.size) o (by go_size)).trans (by first | (simp [*, go_sem]; done) | (simp [*, go_sem, World.frozen?_alloc_past]; done))
          have Tw2 : Below w.heap.size w w2 := Below.trans (by go_grown) (hb2.mono (by go_size))
          have Zw2 := Tw2.size
          have BW : Below w.heap.size w w2 := Tw2
          go_wp2
          refine bodyPost_ret (v := .tuple #[.agg #[.int .i64 c, .int .i64 0, .int .i64 now], .bool false]) (by simp [results, Try.results21, go_sem, *]) rfl ⟨by rw [H.out], by go_grown⟩
        · have H := Lib.hid (admP_late1 hb h5 h6)
          clear hb
          obtain ⟨L, hL⟩ : ∃ L, L = climit c 0 now k := ⟨_, rfl⟩
          have HL := Lib.hid hL
          rw [← hL] at h6
          clear hL
          go_enter Try.func21, Try.ntmps21
          go_wp2_with (first
    | (go_at_call 12; refine (IsValidOC_spec _ _ _ _).mono ?_; rintro e w1 ⟨rfl, hb1⟩; obtain ⟨hc1, hf1⟩ := bcell hb1; have hc1_0 := fun o => hc1 (w.heap.size) o (by go_size); have hf1_0 := fun o => hf1 (w.heap.size) o (by go_size); have hc1_1 := fun o => hc1 (w.heap.size + 1) o (by go_size); have hf1_1 := fun o => hf1 (w.heap.size + 1) o (by go_size); clear hc1 hf1; have hz1_0 : w.heap.size < w1.heap.size := (by have := hb1.size; first | omega | (simp at this; omega)); have hz1_1 : w.heap.size + 1 < w1.heap.size := (by have := hb1.size; first | omega | (simp at this; omega)); have hB1 : Below w.heap.size w w1 := Below.trans (by go_grown) (hb1.mono (by go_size)))
    | (go_at_call 35; refine (l1In _ _ _ _).mono ?_; rintro e w' ⟨rfl, rfl⟩))
          go_region_held3 (fun w' => w'.cell? ⟨w1.heap.size, 0, none⟩ = some (.int .i64 c) ∧ w'.cell? ⟨w1.heap.size, 1, none⟩ = some (.int .i64 0) ∧ w'.cell? ⟨w1.heap.size, 2, none⟩ = some (.int .i64 now) ∧ w'.cell? ⟨w.heap.size + 1, 0, none⟩ = some (.int .i64 0) ∧ w'.cell? ⟨w.heap.size + 1, 1, none⟩ = some (.int .i64 0) ∧ w'.cell? ⟨w.heap.size + 1, 2, none⟩ = some (.int .i64 0)) (first | assumption | (refine ⟨?_, ?_, ?_, ?_, ?_, ?_⟩ <;> assumption) | (simp [*, go_sem]; done) | (simp [*, go_sem, World.cell?_alloc_past]; done))
            (first
              | (go_at_call 15; (with_reducible refine (ClassLimit_spec c 0 now k hk _).mono ?_); rw [← HL.out]; rintro e w2 ⟨rfl, hb2⟩; have hz2_0 : w.heap.size < w2.heap.size := (by have := hb2.size; first | omega | (simp at this; omega)); have hz2_1 : w.heap.size + 1 < w2.heap.size := (by have := hb2.size; first | omega | (simp at this; omega)); have hz2_2 : w1.heap.size < w2.heap.size := (by have := hb2.size; first | omega | (simp at this; omega)); have hS2 : w2.cell? ⟨w1.heap.size, 0, none⟩ = some (.int .i64 c) ∧ w2.cell? ⟨w1.heap.size, 1, none⟩ = some (.int .i64 0) ∧ w2.cell? ⟨w1.heap.size, 2, none⟩ = some (.int .i64 now) ∧ w2.cell? ⟨w.heap.size + 1, 0, none⟩ = some (.int .i64 0) ∧ w2.cell? ⟨w.heap.size + 1, 1, none⟩ = some (.int .i64 0) ∧ w2.cell? ⟨w.heap.size + 1, 2, none⟩ = some (.int .i64 0) := ⟨(hb2.cell (p := ⟨w1.heap.size, 0, none⟩) (by go_size)).trans (by first | assumption | (simp [go_sem]; done) | (simp [*, go_sem]; done) | simp [*, go_sem, World.cell?_alloc_past]), (hb2.cell (p := ⟨w1.heap.size, 1, none⟩) (by go_size)).trans (by first | assumption | (simp [go_sem]; done) | (simp [*, go_sem]; done) | simp [*, go_sem, World.cell?_alloc_past]), (hb2.cell (p := ⟨w1.heap.size, 2, none⟩) (by go_size)).trans (by first | assumption | (simp [go_sem]; done) | (simp [*, go_sem]; done) | simp [*, go_sem, World.cell?_alloc_past]), (hb2.cell (p := ⟨w.heap.size + 1, 0, none⟩) (by go_size)).trans (by first | assumption | (simp [go_sem]; done) | (simp [*, go_sem]; done) | simp [*, go_sem, World.cell?_alloc_past]), (hb2.cell (p := ⟨w.heap.size + 1, 1, none⟩) (by go_size)).trans (by first | assumption | (simp [go_sem]; done) | (simp [*, go_sem]; done) | simp [*, go_sem, World.cell?_alloc_past]), (hb2.cell (p := ⟨w.heap.size + 1, 2, none⟩) (by go_size)).trans (by first | assumption | (simp [go_sem]; done) | (simp [*, go_sem]; done) | simp [*, go_sem, World.cell?_alloc_past])⟩; have hy2 : w.heap.size ≤ w2.heap.size := (by have := hb2.size; first | omega | (simp at this; omega)); have hT2 : Below w.heap.size w w2 := Below.trans (by go_grown) (hb2.mono (by go_size))))
          have fz2_0 : ∀ o, w2.frozen? ⟨w.heap.size + 1, o, none⟩ = false := fun o => ((bcell hb2).2 (w.heap.size + 1) o (by go_size)).trans (by first | (simp [*, go_sem]; done) | (simp [*, go_sem, World.frozen?_alloc_past]; done))
          have fz2_1 : ∀ o, w2.frozen? ⟨w1.heap.size, o, none⟩ = false := fun o => ((bcell hb2).2 (w1.heap.size) o (by go_size)).trans (by first | (simp [*, go_sem]; done) | (simp [*, go_sem, World.frozen?_alloc_past]; done))
          have Tw2 : Below w.heap.size w w2 := Below.trans (by go_grown) (hb2.mono (by go_size))
          have Zw2 := Tw2.size
          have BW : Below w.heap.size w w2 := Tw2
          go_wp2
          refine bodyPost_ret (v := .tuple #[.agg #[.int .i64 c, .int .i64 1, .int .i64 now], .bool true]) (by simp [results, Try.results21, go_sem, *]) rfl ⟨by rw [H.out], by go_grown⟩
      · obtain rfl : now = t := by omega
        clear h5
        by_cases h6 : climit c a now k ≤ a
        · have H := Lib.hid (admP_now hb h6)
          clear hb
          obtain ⟨L, hL⟩ : ∃ L, L = climit c a now k := ⟨_, rfl⟩
          have HL := Lib.hid hL
          rw [← hL] at h6
          clear hL
          go_enter Try.func21, Try.ntmps21
          go_wp2_with (first
    | (go_at_call 12; refine (IsValidOC_spec _ _ _ _).mono ?_; rintro e w1 ⟨rfl, hb1⟩; obtain ⟨hc1, hf1⟩ := bcell hb1; have hc1_0 := fun o => hc1 (w.heap.size) o (by go_size); have hf1_0 := fun o => hf1 (w.heap.size) o (by go_size); have hc1_1 := fun o => hc1 (w.heap.size + 1) o (by go_size); have hf1_1 := fun o => hf1 (w.heap.size + 1) o (by go_size); clear hc1 hf1; have hz1_0 : w.heap.size < w1.heap.size := (by have := hb1.size; first | omega | (simp at this; omega)); have hz1_1 : w.heap.size + 1 < w1.heap.size := (by have := hb1.size; first | omega | (simp at this; omega)); have hB1 : Below w.heap.size w w1 := Below.trans (by go_grown) (hb1.mono (by go_size)))
    | (go_at_call 35; refine (l1In _ _ _ _).mono ?_; rintro e w' ⟨rfl, rfl⟩))
          go_region_held3 (fun w' => w'.cell? ⟨w1.heap.size, 0, none⟩ = some (.int .i64 c) ∧ w'.cell? ⟨w1.heap.size, 1, none⟩ = some (.int .i64 a) ∧ w'.cell? ⟨w1.heap.size, 2, none⟩ = some (.int .i64 now) ∧ w'.cell? ⟨w.heap.size + 1, 0, none⟩ = some (.int .i64 0) ∧ w'.cell? ⟨w.heap.size + 1, 1, none⟩ = some (.int .i64 0) ∧ w'.cell? ⟨w.heap.size + 1, 2, none⟩ = some (.int .i64 0)) (first | assumption | (refine ⟨?_, ?_, ?_, ?_, ?_, ?_⟩ <;> assumption) | (simp [*, go_sem]; done) | (simp [*, go_sem, World.cell?_alloc_past]; done))
            (first
              | (go_at_call 15; (with_reducible refine (ClassLimit_spec c a now k hk _).mono ?_); rw [← HL.out]; rintro e w2 ⟨rfl, hb2⟩; have hz2_0 : w.heap.size < w2.heap.size := (by have := hb2.size; first | omega | (simp at this; omega)); have hz2_1 : w.heap.size + 1 < w2.heap.size := (by have := hb2.size; first | omega | (simp at this; omega)); have hz2_2 : w1.heap.size < w2.heap.size := (by have := hb2.size; first | omega | (simp at this; omega)); have hS2 : w2.cell? ⟨w1.heap.size, 0, none⟩ = some (.int .i64 c) ∧ w2.cell? ⟨w1.heap.size, 1, none⟩ = some (.int .i64 a) ∧ w2.cell? ⟨w1.heap.size, 2, none⟩ = some (.int .i64 now) ∧ w2.cell? ⟨w.heap.size + 1, 0, none⟩ = some (.int .i64 0) ∧ w2.cell? ⟨w.heap.size + 1, 1, none⟩ = some (.int .i64 0) ∧ w2.cell? ⟨w.heap.size + 1, 2, none⟩ = some (.int .i64 0) := ⟨(hb2.cell (p := ⟨w1.heap.size, 0, none⟩) (by go_size)).trans (by first | assumption | (simp [go_sem]; done) | (simp [*, go_sem]; done) | simp [*, go_sem, World.cell?_alloc_past]), (hb2.cell (p := ⟨w1.heap.size, 1, none⟩) (by go_size)).trans (by first | assumption | (simp [go_sem]; done) | (simp [*, go_sem]; done) | simp [*, go_sem, World.cell?_alloc_past]), (hb2.cell (p := ⟨w1.heap.size, 2, none⟩) (by go_size)).trans (by first | assumption | (simp [go_sem]; done) | (simp [*, go_sem]; done) | simp [*, go_sem, World.cell?_alloc_past]), (hb2.cell (p := ⟨w.heap.size + 1, 0, none⟩) (by go_size)).trans (by first | assumption | (simp [go_sem]; done) | (simp [*, go_sem]; done) | simp [*, go_sem, World.cell?_alloc_past]), (hb2.cell (p := ⟨w.heap.size + 1, 1, none⟩) (by go_size)).trans (by first | assumption | (simp [go_sem]; done) | (simp [*, go_sem]; done) | simp [*, go_sem, World.cell?_alloc_past]), (hb2.cell (p := ⟨w.heap.size + 1, 2, none⟩) (by go_size)).trans (by first | assumption | (simp [go_sem]; done) | (simp [*, go_sem]; done) | simp [*, go_sem, World.cell?_alloc_past])⟩; have hy2 : w.heap.size ≤ w2.heap.size := (by have := hb2.size; first | omega | (simp at this; omega)); have hT2 : Below w.heap.size w w2 := Below.trans (by go_grown) (hb2.mono (by go_size))))
          have fz2_0 : ∀ o, w2.frozen? ⟨w.heap.size + 1, o, none⟩ = false := fun o => ((bcell hb2).2 (w.heap.size + 1) o (by go_size)).trans (by first | (simp [*, go_sem]; done) | (simp [*, go_sem, World.frozen?_alloc_past]; done))
          have fz2_1 : ∀ o, w2.frozen? ⟨w1.heap.size, o, none⟩ = false := fun o => ((bcell hb2).2 (w1.heap.size) o (by go_size)).trans (by first | (simp [*, go_sem]; done) | (simp [*, go_sem, World.frozen?_alloc_past]; done))
          have Tw2 : Below w.heap.size w w2 := Below.trans (by go_grown) (hb2.mono (by go_size))
          have Zw2 := Tw2.size
          have BW : Below w.heap.size w w2 := Tw2
          go_wp2
          refine bodyPost_ret (v := .tuple #[.agg #[.int .i64 c, .int .i64 a, .int .i64 now], .bool false]) (by simp [results, Try.results21, go_sem, *]) rfl ⟨by rw [H.out], by go_grown⟩
        · have H := Lib.hid (admP_now1 hb h6)
          clear hb
          obtain ⟨L, hL⟩ : ∃ L, L = climit c a now k := ⟨_, rfl⟩
          have HL := Lib.hid hL
          rw [← hL] at h6
          clear hL
          go_enter Try.func21, Try.ntmps21
          go_wp2_with (first
    | (go_at_call 12; refine (IsValidOC_spec _ _ _ _).mono ?_; rintro e w1 ⟨rfl, hb1⟩; obtain ⟨hc1, hf1⟩ := bcell hb1; have hc1_0 := fun o => hc1 (w.heap.size) o (by go_size); have hf1_0 := fun o => hf1 (w.heap.size) o (by go_size); have hc1_1 := fun o => hc1 (w.heap.size + 1) o (by go_size); have hf1_1 := fun o => hf1 (w.heap.size + 1) o (by go_size); clear hc1 hf1; have hz1_0 : w.heap.size < w1.heap.size := (by have := hb1.size; first | omega | (simp at this; omega)); have hz1_1 : w.heap.size + 1 < w1.heap.size := (by have := hb1.size; first | omega | (simp at this; omega)); have hB1 : Below w.heap.size w w1 := Below.trans (by go_grown) (hb1.mono (by go_size)))
    | (go_at_call 35; refine (l1In _ _ _ _).mono ?_; rintro e w' ⟨rfl, rfl⟩))
          go_region_held3 (fun w' => w'.cell? ⟨w1.heap.size, 0, none⟩ = some (.int .i64 c) ∧ w'.cell? ⟨w1.heap.size, 1, none⟩ = some (.int .i64 a) ∧ w'.cell? ⟨w1.heap.size, 2, none⟩ = some (.int .i64 now) ∧ w'.cell? ⟨w.heap.size + 1, 0, none⟩ = some (.int .i64 0) ∧ w'.cell? ⟨w.heap.size + 1, 1, none⟩ = some (.int .i64 0) ∧ w'.cell? ⟨w.heap.size + 1, 2, none⟩ = some (.int .i64 0)) (first | assumption | (refine ⟨?_, ?_, ?_, ?_, ?_, ?_⟩ <;> assumption) | (simp [*, go_sem]; done) | (simp [*, go_sem, World.cell?_alloc_past]; done))
            (first
              | (go_at_call 15; (with_reducible refine (ClassLimit_spec c a now k hk _).mono ?_); rw [← HL.out]; rintro e w2 ⟨rfl, hb2⟩; have hz2_0 : w.heap.size < w2.heap.size := (by have := hb2.size; first | omega | (simp at this; omega)); have hz2_1 : w.heap.size + 1 < w2.heap.size := (by have := hb2.size; first | omega | (simp at this; omega)); have hz2_2 : w1.heap.size < w2.heap.size := (by have := hb2.size; first | omega | (simp at this; omega)); have hS2 : w2.cell? ⟨w1.heap.size, 0, none⟩ = some (.int .i64 c) ∧ w2.cell? ⟨w1.heap.size, 1, none⟩ = some (.int .i64 a) ∧ w2.cell? ⟨w1.heap.size, 2, none⟩ = some (.int .i64 now) ∧ w2.cell? ⟨w.heap.size + 1, 0, none⟩ = some (.int .i64 0) ∧ w2.cell? ⟨w.heap.size + 1, 1, none⟩ = some (.int .i64 0) ∧ w2.cell? ⟨w.heap.size + 1, 2, none⟩ = some (.int .i64 0) := ⟨(hb2.cell (p := ⟨w1.heap.size, 0, none⟩) (by go_size)).trans (by first | assumption | (simp [go_sem]; done) | (simp [*, go_sem]; done) | simp [*, go_sem, World.cell?_alloc_past]), (hb2.cell (p := ⟨w1.heap.size, 1, none⟩) (by go_size)).trans (by first | assumption | (simp [go_sem]; done) | (simp [*, go_sem]; done) | simp [*, go_sem, World.cell?_alloc_past]), (hb2.cell (p := ⟨w1.heap.size, 2, none⟩) (by go_size)).trans (by first | assumption | (simp [go_sem]; done) | (simp [*, go_sem]; done) | simp [*, go_sem, World.cell?_alloc_past]), (hb2.cell (p := ⟨w.heap.size + 1, 0, none⟩) (by go_size)).trans (by first | assumption | (simp [go_sem]; done) | (simp [*, go_sem]; done) | simp [*, go_sem, World.cell?_alloc_past]), (hb2.cell (p := ⟨w.heap.size + 1, 1, none⟩) (by go_size)).trans (by first | assumption | (simp [go_sem]; done) | (simp [*, go_sem]; done) | simp [*, go_sem, World.cell?_alloc_past]), (hb2.cell (p := ⟨w.heap.size + 1, 2, none⟩) (by go_size)).trans (by first | assumption | (simp [go_sem]; done) | (simp [*, go_sem]; done) | simp [*, go_sem, World.cell?_alloc_past])⟩; have hy2 : w.heap.size ≤ w2.heap.size := (by have := hb2.size; first | omega | (simp at this; omega)); have hT2 : Below w.heap.size w w2 := Below.trans (by go_grown) (hb2.mono (by go_size))))
          have fz2_0 : ∀ o, w2.frozen? ⟨w.heap.size + 1, o, none⟩ = false := fun o => ((bcell hb2).2 (w.heap.size + 1) o (by go_size)).trans (by first | (simp [*, go_sem]; done) | (simp [*, go_sem, World.frozen?_alloc_past]; done))
          have fz2_1 : ∀ o, w2.frozen? ⟨w1.heap.size, o, none⟩ = false := fun o => ((bcell hb2).2 (w1.heap.size) o (by go_size)).trans (by first | (simp [*, go_sem]; done) | (simp [*, go_sem, World.frozen?_alloc_past]; done))
          have Tw2 : Below w.heap.size w w2 := Below.trans (by go_grown) (hb2.mono (by go_size))
          have Zw2 := Tw2.size
          have BW : Below w.heap.size w w2 := Tw2
          go_wp2
          refine bodyPost_ret (v := .tuple #[.agg #[.int .i64 c, .int .i64 (a + 1), .int .i64 now], .bool true]) (by simp [results, Try.results21, go_sem, *]) rfl ⟨by rw [H.out], by go_grown⟩
end Go.Proofs.Ytdbbaiflhofkaaa
