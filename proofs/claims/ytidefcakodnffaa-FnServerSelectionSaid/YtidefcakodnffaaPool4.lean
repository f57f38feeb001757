/-
  Contracts of BackupServer; the walks of the laws FnExactSelectServer and FnExactBackupServer.
-/
import Derived.Test.YtidefcakodnffaaPool3
import Derived.Test.YtidefcakodnffaaTypes
import Derived.Handy
namespace Go.Proofs.Ytidefcakodnffaa
open Go.RowKit

theorem select_bd (s u key : Int) : -1 ≤ select s u key ∧ select s u key ≤ 5 := by
  unfold select
  cases h : vpool s u
  · simp
  · obtain ⟨v1, v2, _⟩ := vpool_bd h
    have := selP_bd s u key s.toNat
    rw [if_pos rfl]; omega
def backup (s u key : Int) : Int := select s (setU s u (select s u key) false) key
theorem BackupServer_impl (s u key : Int) (hs : I64 s) (hk : I64 key) (w : World) : Calls Try.prog 28 #[.agg #[.int .i64 s, .int .i64 u], .int .i64 key] w fun e w' => e = .returned (.int .i64 (backup s u key)) ∧ Below w.heap.size w w' := by
  obtain ⟨m, hm⟩ : ∃ m, m = select s u key := ⟨_, rfl⟩
  have hb := select_bd s u key
  have HB := Lib.hid (show select s (setU s u m false) key = backup s u key by rw [hm]; rfl)
  rw [← hm] at hb
  have hmi : I64 m := ⟨by omega, by omega⟩
  have HM := Lib.hid hm
  clear hm
  obtain ⟨u2, hu2⟩ : ∃ u2, u2 = setU s u m false := ⟨_, rfl⟩
  rw [← hu2] at HB
  have HU := Lib.hid hu2
  clear hu2
  go_enter Try.func28, Try.ntmps28
  go_wp2_with fail
  go_region_held3 (fun w' => w'.cell? ⟨w.heap.size, 0, none⟩ = some (.int .i64 s) ∧ w'.cell? ⟨w.heap.size, 1, none⟩ = some (.int .i64 u)) (first | assumption | (simp [go_sem]; done))
    (first
      | (go_at_call 26; (with_reducible refine (SelectServer_impl s u key hs hk _).mono ?_); rw [← HM.out]; rintro e w1 ⟨rfl, hb1⟩; have hz1 : w.heap.size < w1.heap.size := (by have := hb1.size; first | omega | (simp at this; omega)); have S1 : w1.cell? ⟨w.heap.size, 0, none⟩ = some (.int .i64 s) ∧ w1.cell? ⟨w.heap.size, 1, none⟩ = some (.int .i64 u) := ⟨(hb1.cell (p := ⟨w.heap.size, 0, none⟩) (by go_size)).trans (by first | (simp [go_sem]; done) | simp [*, go_sem]), (hb1.cell (p := ⟨w.heap.size, 1, none⟩) (by go_size)).trans (by first | (simp [go_sem]; done) | simp [*, go_sem])⟩; have hB1 : Below w.heap.size w w1 := Below.trans (by go_grown) (hb1.mono (by go_size)))
      | (go_at_call 23; (with_reducible refine (SetServerUp_impl s u m false hs hmi _).mono ?_); rw [← HU.out]; rintro e w2 ⟨rfl, hb2⟩; have hz2 : w.heap.size < w2.heap.size := (by have := hb2.size; first | omega | (simp at this; omega)); have S2 : w2.cell? ⟨w.heap.size, 0, none⟩ = some (.int .i64 s) ∧ w2.cell? ⟨w.heap.size, 1, none⟩ = some (.int .i64 u) := ⟨(hb2.cell (p := ⟨w.heap.size, 0, none⟩) (by go_size)).trans (by first | (simp [go_sem]; done) | simp [*, go_sem]), (hb2.cell (p := ⟨w.heap.size, 1, none⟩) (by go_size)).trans (by first | (simp [go_sem]; done) | simp [*, go_sem])⟩; have hB2 : Below w.heap.size w w2 := Below.trans (by go_grown) (hb2.mono (by go_size)))
      | (go_at_call 26; (with_reducible refine (SelectServer_impl s u2 key hs hk _).mono ?_); rintro e w3 ⟨rfl, hb3⟩; have hz3 : w.heap.size < w3.heap.size := (by have := hb3.size; first | omega | (simp at this; omega)); have S3 : w3.cell? ⟨w.heap.size, 0, none⟩ = some (.int .i64 s) ∧ w3.cell? ⟨w.heap.size, 1, none⟩ = some (.int .i64 u) := ⟨(hb3.cell (p := ⟨w.heap.size, 0, none⟩) (by go_size)).trans (by first | (simp [go_sem]; done) | simp [*, go_sem]), (hb3.cell (p := ⟨w.heap.size, 1, none⟩) (by go_size)).trans (by first | (simp [go_sem]; done) | simp [*, go_sem])⟩; have hB3 : Below w.heap.size w w3 := Below.trans (by go_grown) (hb3.mono (by go_size))))
  go_wp2
  go_ret
  exact ⟨ret_int HB.out, by go_grown⟩
theorem BackupServer_spec (s u key : Int) (hs : I64 s) (hk : I64 key) (w : World) : Calls Try.prog 27 #[.agg #[.int .i64 s, .int .i64 u], .int .i64 key] w fun e w' => e = .returned (.int .i64 (backup s u key)) ∧ Below w.heap.size w w' := by
  obtain ⟨m, hm⟩ : ∃ m, m = select s u key := ⟨_, rfl⟩
  have hb := select_bd s u key
  have HB := Lib.hid (show select s (setU s u m false) key = backup s u key by rw [hm]; rfl)
  rw [← hm] at hb
  have hmi : I64 m := ⟨by omega, by omega⟩
  have HM := Lib.hid hm
  clear hm
  obtain ⟨u2, hu2⟩ : ∃ u2, u2 = setU s u m false := ⟨_, rfl⟩
  rw [← hu2] at HB
  have HU := Lib.hid hu2
  clear hu2
  go_enter Try.func27, Try.ntmps27
  go_wp2_with fail
  go_region_held3 (fun w' => w'.cell? ⟨w.heap.size, 0, none⟩ = some (.int .i64 s) ∧ w'.cell? ⟨w.heap.size, 1, none⟩ = some (.int .i64 u)) (first | assumption | (simp [go_sem]; done))
    (first
      | (go_at_call 25; (with_reducible refine (SelectServer_spec s u key hs hk _).mono ?_); rw [← HM.out]; rintro e w1 ⟨rfl, hb1⟩; have hz1 : w.heap.size < w1.heap.size := (by have := hb1.size; first | omega | (simp at this; omega)); have S1 : w1.cell? ⟨w.heap.size, 0, none⟩ = some (.int .i64 s) ∧ w1.cell? ⟨w.heap.size, 1, none⟩ = some (.int .i64 u) := ⟨(hb1.cell (p := ⟨w.heap.size, 0, none⟩) (by go_size)).trans (by first | (simp [go_sem]; done) | simp [*, go_sem]), (hb1.cell (p := ⟨w.heap.size, 1, none⟩) (by go_size)).trans (by first | (simp [go_sem]; done) | simp [*, go_sem])⟩; have hB1 : Below w.heap.size w w1 := Below.trans (by go_grown) (hb1.mono (by go_size)))
      | (go_at_call 22; (with_reducible refine (SetServerUp_spec s u m false hs hmi _).mono ?_); rw [← HU.out]; rintro e w2 ⟨rfl, hb2⟩; have hz2 : w.heap.size < w2.heap.size := (by have := hb2.size; first | omega | (simp at this; omega)); have S2 : w2.cell? ⟨w.heap.size, 0, none⟩ = some (.int .i64 s) ∧ w2.cell? ⟨w.heap.size, 1, none⟩ = some (.int .i64 u) := ⟨(hb2.cell (p := ⟨w.heap.size, 0, none⟩) (by go_size)).trans (by first | (simp [go_sem]; done) | simp [*, go_sem]), (hb2.cell (p := ⟨w.heap.size, 1, none⟩) (by go_size)).trans (by first | (simp [go_sem]; done) | simp [*, go_sem])⟩; have hB2 : Below w.heap.size w w2 := Below.trans (by go_grown) (hb2.mono (by go_size)))
      | (go_at_call 25; (with_reducible refine (SelectServer_spec s u2 key hs hk _).mono ?_); rintro e w3 ⟨rfl, hb3⟩; have hz3 : w.heap.size < w3.heap.size := (by have := hb3.size; first | omega | (simp at this; omega)); have S3 : w3.cell? ⟨w.heap.size, 0, none⟩ = some (.int .i64 s) ∧ w3.cell? ⟨w.heap.size, 1, none⟩ = some (.int .i64 u) := ⟨(hb3.cell (p := ⟨w.heap.size, 0, none⟩) (by go_size)).trans (by first | (simp [go_sem]; done) | simp [*, go_sem]), (hb3.cell (p := ⟨w.heap.size, 1, none⟩) (by go_size)).trans (by first | (simp [go_sem]; done) | simp [*, go_sem])⟩; have hB3 : Below w.heap.size w w3 := Below.trans (by go_grown) (hb3.mono (by go_size))))
  go_wp2
  go_ret
  exact ⟨ret_int HB.out, by go_grown⟩
theorem walkFnExactSelectServer (v0 v1 : Value) (W : World) (i0 : InServerPool23 W W.heap.size v0) (i1 : InInt3 W W.heap.size v1) : Calls Try.prog 8 #[v0, v1] W (Tr W) := by
  obtain ⟨s, u, rfl, hs, hu⟩ := i0
  obtain ⟨k, rfl, hk⟩ := i1
  go_enter Try.func8, Try.ntmps8
  go_wp2_with fail
  refine (toServerPool _ _ _).mono ?_
  rintro e w1 ⟨rfl, hb1⟩
  obtain ⟨hc1, hf1⟩ := bcell hb1
  have hz1_0 : W.heap.size < w1.heap.size := (by have := hb1.size; first | omega | (simp at this; omega))
  have hc1_0 := fun o => hc1 (W.heap.size) o (by go_size)
  have hf1_0 := fun o => hf1 (W.heap.size) o (by go_size)
  clear hc1 hf1
  have hy1 : W.heap.size ≤ w1.heap.size := (by have := hb1.size; first | omega | (simp at this; omega))
  have hB1 : Below W.heap.size W w1 := Below.trans (by go_grown) (hb1.mono (by go_size))
  go_wp2_with fail
  refine (SelectServer_spec _ _ _ hs hk _).mono ?_
  rintro e w2 ⟨rfl, hb2⟩
  obtain ⟨hc2, hf2⟩ := bcell hb2
  have hz2_0 : W.heap.size < w2.heap.size := (by have := hb2.size; first | omega | (simp at this; omega))
  have hc2_0 := fun o => hc2 (W.heap.size) o (by go_size)
  have hf2_0 := fun o => hf2 (W.heap.size) o (by go_size)
  clear hc2 hf2
  have hy2 : W.heap.size ≤ w2.heap.size := (by have := hb2.size; first | omega | (simp at this; omega))
  have hB2 : Below W.heap.size W w2 := Below.trans (by go_grown) (hb2.mono (by go_size))
  go_wp2_with fail
  refine (toServerPool _ _ _).mono ?_
  rintro e w3 ⟨rfl, hb3⟩
  obtain ⟨hc3, hf3⟩ := bcell hb3
  have hz3_0 : W.heap.size < w3.heap.size := (by have := hb3.size; first | omega | (simp at this; omega))
  have hc3_0 := fun o => hc3 (W.heap.size) o (by go_size)
  have hf3_0 := fun o => hf3 (W.heap.size) o (by go_size)
  clear hc3 hf3
  have hy3 : W.heap.size ≤ w3.heap.size := (by have := hb3.size; first | omega | (simp at this; omega))
  have hB3 : Below W.heap.size W w3 := Below.trans (by go_grown) (hb3.mono (by go_size))
  go_wp2_with fail
  refine (SelectServer_impl _ _ _ hs hk _).mono ?_
  rintro e w4 ⟨rfl, hb4⟩
  obtain ⟨hc4, hf4⟩ := bcell hb4
  have hz4_0 : W.heap.size < w4.heap.size := (by have := hb4.size; first | omega | (simp at this; omega))
  have hc4_0 := fun o => hc4 (W.heap.size) o (by go_size)
  have hf4_0 := fun o => hf4 (W.heap.size) o (by go_size)
  clear hc4 hf4
  have hy4 : W.heap.size ≤ w4.heap.size := (by have := hb4.size; first | omega | (simp at this; omega))
  have hB4 : Below W.heap.size W w4 := Below.trans (by go_grown) (hb4.mono (by go_size))
  go_wp2
  go_ret
  exact ⟨rfl, by go_grown⟩
theorem walkFnExactBackupServer (v0 v1 : Value) (W : World) (i0 : InServerPool23 W W.heap.size v0) (i1 : InInt3 W W.heap.size v1) : Calls Try.prog 9 #[v0, v1] W (Tr W) := by
  obtain ⟨s, u, rfl, hs, hu⟩ := i0
  obtain ⟨k, rfl, hk⟩ := i1
  go_enter Try.func9, Try.ntmps9
  go_wp2_with fail
  refine (toServerPool _ _ _).mono ?_
  rintro e w1 ⟨rfl, hb1⟩
  obtain ⟨hc1, hf1⟩ := bcell hb1
  have hz1_0 : W.heap.size < w1.heap.size := (by have := hb1.size; first | omega | (simp at this; omega))
  have hc1_0 := fun o => hc1 (W.heap.size) o (by go_size)
  have hf1_0 := fun o => hf1 (W.heap.size) o (by go_size)
  clear hc1 hf1
  have hy1 : W.heap.size ≤ w1.heap.size := (by have := hb1.size; first | omega | (simp at this; omega))
  have hB1 : Below W.heap.size W w1 := Below.trans (by go_grown) (hb1.mono (by go_size))
  go_wp2_with fail
  refine (BackupServer_spec _ _ _ hs hk _).mono ?_
  rintro e w2 ⟨rfl, hb2⟩
  obtain ⟨hc2, hf2⟩ := bcell hb2
  have hz2_0 : W.heap.size < w2.heap.size := (by have := hb2.size; first | omega | (simp at this; omega))
  have hc2_0 := fun o => hc2 (W.heap.size) o (by go_size)
  have hf2_0 := fun o => hf2 (W.heap.size) o (by go_size)
  clear hc2 hf2
  have hy2 : W.heap.size ≤ w2.heap.size := (by have := hb2.size; first | omega | (simp at this; omega))
  have hB2 : Below W.heap.size W w2 := Below.trans (by go_grown) (hb2.mono (by go_size))
  go_wp2_with fail
  refine (toServerPool _ _ _).mono ?_
  rintro e w3 ⟨rfl, hb3⟩
  obtain ⟨hc3, hf3⟩ := bcell hb3
  have hz3_0 : W.heap.size < w3.heap.size := (by have := hb3.size; first | omega | (simp at this; omega))
  have hc3_0 := fun o => hc3 (W.heap.size) o (by go_size)
  have hf3_0 := fun o => hf3 (W.heap.size) o (by go_size)
  clear hc3 hf3
  have hy3 : W.heap.size ≤ w3.heap.size := (by have := hb3.size; first | omega | (simp at this; omega))
  have hB3 : Below W.heap.size W w3 := Below.trans (by go_grown) (hb3.mono (by go_size))
  go_wp2_with fail
  refine (BackupServer_impl _ _ _ hs hk _).mono ?_
  rintro e w4 ⟨rfl, hb4⟩
  obtain ⟨hc4, hf4⟩ := bcell hb4
  have hz4_0 : W.heap.size < w4.heap.size := (by have := hb4.size; first | omega | (simp at this; omega))
  have hc4_0 := fun o => hc4 (W.heap.size) o (by go_size)
  have hf4_0 := fun o => hf4 (W.heap.size) o (by go_size)
  clear hc4 hf4
  have hy4 : W.heap.size ≤ w4.heap.size := (by have := hb4.size; first | omega | (simp at this; omega))
  have hB4 : Below W.heap.size W w4 := Below.trans (by go_grown) (hb4.mono (by go_size))
  go_wp2
  go_ret
  exact ⟨rfl, by go_grown⟩
end Go.Proofs.Ytidefcakodnffaa
