/-
  The walk of the law FnExactMovedSessions: the law's text returns true.
-/
import Derived.Test.YtidefcakodnffaaPool6
import Derived.Test.YtidefcakodnffaaTypes
import Derived.Test.YtidefcakodnffaaMem2
import Derived.Handy
import Derived.Deep.RegionHeld3
namespace Go.Proofs.Ytidefcakodnffaa
open Go.RowKit

theorem sameB_self (l : List Int) : sameB l l = true := by simp [sameB]
set_option maxHeartbeats 2000000 in
theorem walkFnExactMovedSessions (v0 v1 v2 : Value) (W : World) (i0 : InServerPool23 W W.heap.size v0) (i1 : InServerPool23 W W.heap.size v1) (i2 : InInts39 W W.heap.size v2) : Calls Try.prog 11 #[v0, v1, v2] W (Tr W) := by
  obtain ⟨s, u, rfl, hs, hu⟩ := i0
  obtain ⟨s', u', rfl, hs', hu'⟩ := i1
  obtain ⟨A, n, c, zs, rfl, hnc, hcm, RA, hwf⟩ := i2
  have hz : ∀ z ∈ zs, I64 z := fun z h => bounds_i64 (hwf z h)
  have hlen : zs.length = n := by simpa using RA.1
  have hml : (moved s u s' u' zs).length ≤ n := by have := List.length_filter_le (movedB s u s' u') zs; unfold moved; omega
  unfold maxLen at hcm
  by_cases hn : n ≤ 1048576
  · obtain ⟨L, hL⟩ : ∃ L, L = moved s u s' u' zs := ⟨_, rfl⟩
    rw [← hL] at hml
    have HL := Lib.hid hL
    have HZ := Lib.hid hz
    clear hL hz hwf hlen
    have hsl := sameB_self L
    have hsz := sameB_self zs
    go_enter Try.func11, Try.ntmps11
    go_wp2_with fail
    go_region_held3 (fun w' => w'.cell? ⟨W.heap.size, 0, none⟩ = some (.int .i64 s) ∧ w'.cell? ⟨W.heap.size, 1, none⟩ = some (.int .i64 u) ∧ w'.cell? ⟨W.heap.size + 1, 0, none⟩ = some (.int .i64 s') ∧ w'.cell? ⟨W.heap.size + 1, 1, none⟩ = some (.int .i64 u')) (first | assumption | (refine ⟨?_, ?_, ?_, ?_⟩ <;> assumption) | (simp [*, go_sem]; done) | (simp [*, go_sem, World.cell?_alloc_past]; done))
      (first
        | (go_at_call 14; (with_reducible refine (toServerPool s u _).mono ?_); rintro e w1 ⟨rfl, hb1⟩; have hz1_0 : W.heap.size < w1.heap.size := (by have := hb1.size; first | omega | (simp at this; omega)); have hz1_1 : W.heap.size + 1 < w1.heap.size := (by have := hb1.size; first | omega | (simp at this; omega)); have hS1 : w1.cell? ⟨W.heap.size, 0, none⟩ = some (.int .i64 s) ∧ w1.cell? ⟨W.heap.size, 1, none⟩ = some (.int .i64 u) ∧ w1.cell? ⟨W.heap.size + 1, 0, none⟩ = some (.int .i64 s') ∧ w1.cell? ⟨W.heap.size + 1, 1, none⟩ = some (.int .i64 u') := ⟨(hb1.cell (p := ⟨W.heap.size, 0, none⟩) (by go_size)).trans (by first | assumption | (simp [go_sem]; done) | (simp [*, go_sem]; done) | simp [*, go_sem, World.cell?_alloc_past]), (hb1.cell (p := ⟨W.heap.size, 1, none⟩) (by go_size)).trans (by first | assumption | (simp [go_sem]; done) | (simp [*, go_sem]; done) | simp [*, go_sem, World.cell?_alloc_past]), (hb1.cell (p := ⟨W.heap.size + 1, 0, none⟩) (by go_size)).trans (by first | assumption | (simp [go_sem]; done) | (simp [*, go_sem]; done) | simp [*, go_sem, World.cell?_alloc_past]), (hb1.cell (p := ⟨W.heap.size + 1, 1, none⟩) (by go_size)).trans (by first | assumption | (simp [go_sem]; done) | (simp [*, go_sem]; done) | simp [*, go_sem, World.cell?_alloc_past])⟩; have hy1 : W.heap.size ≤ w1.heap.size := (by have := hb1.size; first | omega | (simp at this; omega)); have hT1 : Below W.heap.size W w1 := Below.trans (by go_grown) (hb1.mono (by go_size)))
        | (go_at_call 14; (with_reducible refine (toServerPool s' u' _).mono ?_); rintro e w2 ⟨rfl, hb2⟩; have hz2_0 : W.heap.size < w2.heap.size := (by have := hb2.size; first | omega | (simp at this; omega)); have hz2_1 : W.heap.size + 1 < w2.heap.size := (by have := hb2.size; first | omega | (simp at this; omega)); have hS2 : w2.cell? ⟨W.heap.size, 0, none⟩ = some (.int .i64 s) ∧ w2.cell? ⟨W.heap.size, 1, none⟩ = some (.int .i64 u) ∧ w2.cell? ⟨W.heap.size + 1, 0, none⟩ = some (.int .i64 s') ∧ w2.cell? ⟨W.heap.size + 1, 1, none⟩ = some (.int .i64 u') := ⟨(hb2.cell (p := ⟨W.heap.size, 0, none⟩) (by go_size)).trans (by first | assumption | (simp [go_sem]; done) | (simp [*, go_sem]; done) | simp [*, go_sem, World.cell?_alloc_past]), (hb2.cell (p := ⟨W.heap.size, 1, none⟩) (by go_size)).trans (by first | assumption | (simp [go_sem]; done) | (simp [*, go_sem]; done) | simp [*, go_sem, World.cell?_alloc_past]), (hb2.cell (p := ⟨W.heap.size + 1, 0, none⟩) (by go_size)).trans (by first | assumption | (simp [go_sem]; done) | (simp [*, go_sem]; done) | simp [*, go_sem, World.cell?_alloc_past]), (hb2.cell (p := ⟨W.heap.size + 1, 1, none⟩) (by go_size)).trans (by first | assumption | (simp [go_sem]; done) | (simp [*, go_sem]; done) | simp [*, go_sem, World.cell?_alloc_past])⟩; have hy2 : W.heap.size ≤ w2.heap.size := (by have := hb2.size; first | omega | (simp at this; omega)); have hT2 : Below W.heap.size W w2 := Below.trans (by go_grown) (hb2.mono (by go_size)))
        | (go_at_call 33; (with_reducible refine (toIntS A n c zs _ hn ((RA.below hT2).more hy2)).mono ?_); rintro e w3 ⟨rfl, own3, hb3⟩; have hz3_0 : W.heap.size < w3.heap.size := (by have := hb3.size; first | omega | (simp at this; omega)); have hz3_1 : W.heap.size + 1 < w3.heap.size := (by have := hb3.size; first | omega | (simp at this; omega)); have hS3 : w3.cell? ⟨W.heap.size, 0, none⟩ = some (.int .i64 s) ∧ w3.cell? ⟨W.heap.size, 1, none⟩ = some (.int .i64 u) ∧ w3.cell? ⟨W.heap.size + 1, 0, none⟩ = some (.int .i64 s') ∧ w3.cell? ⟨W.heap.size + 1, 1, none⟩ = some (.int .i64 u') := ⟨(hb3.cell (p := ⟨W.heap.size, 0, none⟩) (by go_size)).trans (by first | assumption | (simp [go_sem]; done) | (simp [*, go_sem]; done) | simp [*, go_sem, World.cell?_alloc_past]), (hb3.cell (p := ⟨W.heap.size, 1, none⟩) (by go_size)).trans (by first | assumption | (simp [go_sem]; done) | (simp [*, go_sem]; done) | simp [*, go_sem, World.cell?_alloc_past]), (hb3.cell (p := ⟨W.heap.size + 1, 0, none⟩) (by go_size)).trans (by first | assumption | (simp [go_sem]; done) | (simp [*, go_sem]; done) | simp [*, go_sem, World.cell?_alloc_past]), (hb3.cell (p := ⟨W.heap.size + 1, 1, none⟩) (by go_size)).trans (by first | assumption | (simp [go_sem]; done) | (simp [*, go_sem]; done) | simp [*, go_sem, World.cell?_alloc_past])⟩; have hy3 : W.heap.size ≤ w3.heap.size := (by have := hb3.size; first | omega | (simp at this; omega)); have hT3 : Below W.heap.size W w3 := Below.trans (by go_grown) (hb3.mono (by go_size)))
        | (go_at_call 32; (with_reducible refine (MovedSessions_spec s u s' u' _ n n zs _ hs hs' HZ.out hn (rd_own own3)).mono ?_); rw [← HL.out]; rintro e w4 ⟨v4, rfl, own4, hb4⟩; have hz4_0 : W.heap.size < w4.heap.size := (by have := hb4.size; first | omega | (simp at this; omega)); have hz4_1 : W.heap.size + 1 < w4.heap.size := (by have := hb4.size; first | omega | (simp at this; omega)); have hS4 : w4.cell? ⟨W.heap.size, 0, none⟩ = some (.int .i64 s) ∧ w4.cell? ⟨W.heap.size, 1, none⟩ = some (.int .i64 u) ∧ w4.cell? ⟨W.heap.size + 1, 0, none⟩ = some (.int .i64 s') ∧ w4.cell? ⟨W.heap.size + 1, 1, none⟩ = some (.int .i64 u') := ⟨(hb4.cell (p := ⟨W.heap.size, 0, none⟩) (by go_size)).trans (by first | assumption | (simp [go_sem]; done) | (simp [*, go_sem]; done) | simp [*, go_sem, World.cell?_alloc_past]), (hb4.cell (p := ⟨W.heap.size, 1, none⟩) (by go_size)).trans (by first | assumption | (simp [go_sem]; done) | (simp [*, go_sem]; done) | simp [*, go_sem, World.cell?_alloc_past]), (hb4.cell (p := ⟨W.heap.size + 1, 0, none⟩) (by go_size)).trans (by first | assumption | (simp [go_sem]; done) | (simp [*, go_sem]; done) | simp [*, go_sem, World.cell?_alloc_past]), (hb4.cell (p := ⟨W.heap.size + 1, 1, none⟩) (by go_size)).trans (by first | assumption | (simp [go_sem]; done) | (simp [*, go_sem]; done) | simp [*, go_sem, World.cell?_alloc_past])⟩; have hy4 : W.heap.size ≤ w4.heap.size := (by have := hb4.size; first | omega | (simp at this; omega)); have hT4 : Below W.heap.size W w4 := Below.trans (by go_grown) (hb4.mono (by go_size))))
    have Tw1 : Below W.heap.size W w1 := Below.trans (by go_grown) (hb1.mono (by go_size))
    have Zw1 := Tw1.size
    replace RA := rd_below RA Tw1 (by omega)
    have BW : Below W.heap.size W w1 := Tw1
    have Tw2 : Below w1.heap.size w1 w2 := Below.trans (by go_grown) (hb2.mono (by go_size))
    have Zw2 := Tw2.size
    replace RA := rd_below RA Tw2 (by omega)
    replace BW := Below.trans BW (Tw2.mono (by omega))
    have Tw3 : Below w2.heap.size w2 w3 := Below.trans (by go_grown) (hb3.mono (by go_size))
    have Zw3 := Tw3.size
    replace RA := rd_below RA Tw3 (by omega)
    replace BW := Below.trans BW (Tw3.mono (by omega))
    have Tw4 : Below w3.heap.size w3 w4 := Below.trans (by go_grown) (hb4.mono (by go_size))
    have Zw4 := Tw4.size
    replace RA := rd_below RA Tw4 (by omega)
    replace BW := Below.trans BW (Tw4.mono (by omega))
    obtain ⟨A4, c4, rfl, hc4a, hc4b⟩ := own_slice own4
    have R0 := rd_own own4
    have C0 := hS4.1
    have C1 := hS4.2.1
    have C2 := hS4.2.2.1
    have C3 := hS4.2.2.2
    go_wp2_with fail
    refine (toIntS A n c zs _ hn (RA.more (by omega))).mono ?_
    rintro e w5 ⟨rfl, ox, hb5⟩
    have Tw5 : Below w4.heap.size w4 w5 := Below.trans (by go_grown) (hb5.mono (by go_size))
    have Zw5 := Tw5.size
    replace RA := rd_below RA Tw5 (by omega)
    replace R0 := rd_below R0 Tw5 (by omega)
    replace C0 := cell_below C0 Tw5
    replace C1 := cell_below C1 Tw5
    replace C2 := cell_below C2 Tw5
    replace C3 := cell_below C3 Tw5
    replace BW := Below.trans BW (Tw5.mono (by omega))
    have hx5 := (ox.lt w4.heap.size rfl).2
    go_wp2_with fail
    go_region_held3 (fun w' => w'.cell? ⟨W.heap.size, 0, none⟩ = some (.int .i64 s) ∧ w'.cell? ⟨W.heap.size, 1, none⟩ = some (.int .i64 u) ∧ w'.cell? ⟨W.heap.size + 1, 0, none⟩ = some (.int .i64 s') ∧ w'.cell? ⟨W.heap.size + 1, 1, none⟩ = some (.int .i64 u')) (first | assumption | (refine ⟨?_, ?_, ?_, ?_⟩ <;> assumption) | (simp [*, go_sem]; done) | (simp [*, go_sem, World.cell?_alloc_past]; done))
      (first
        | (go_at_call 14; (with_reducible refine (toServerPool s u _).mono ?_); rintro e w6 ⟨rfl, hb6⟩; have hz6_0 : W.heap.size < w6.heap.size := (by have := hb6.size; first | omega | (simp at this; omega)); have hz6_1 : W.heap.size + 1 < w6.heap.size := (by have := hb6.size; first | omega | (simp at this; omega)); have hS6 : w6.cell? ⟨W.heap.size, 0, none⟩ = some (.int .i64 s) ∧ w6.cell? ⟨W.heap.size, 1, none⟩ = some (.int .i64 u) ∧ w6.cell? ⟨W.heap.size + 1, 0, none⟩ = some (.int .i64 s') ∧ w6.cell? ⟨W.heap.size + 1, 1, none⟩ = some (.int .i64 u') := ⟨(hb6.cell (p := ⟨W.heap.size, 0, none⟩) (by go_size)).trans (by first | assumption | (simp [go_sem]; done) | (simp [*, go_sem]; done) | simp [*, go_sem, World.cell?_alloc_past]), (hb6.cell (p := ⟨W.heap.size, 1, none⟩) (by go_size)).trans (by first | assumption | (simp [go_sem]; done) | (simp [*, go_sem]; done) | simp [*, go_sem, World.cell?_alloc_past]), (hb6.cell (p := ⟨W.heap.size + 1, 0, none⟩) (by go_size)).trans (by first | assumption | (simp [go_sem]; done) | (simp [*, go_sem]; done) | simp [*, go_sem, World.cell?_alloc_past]), (hb6.cell (p := ⟨W.heap.size + 1, 1, none⟩) (by go_size)).trans (by first | assumption | (simp [go_sem]; done) | (simp [*, go_sem]; done) | simp [*, go_sem, World.cell?_alloc_past])⟩; have hy6 : w5.heap.size ≤ w6.heap.size := (by have := hb6.size; first | omega | (simp at this; omega)); have hT6 : Below w5.heap.size w5 w6 := Below.trans (by go_grown) (hb6.mono (by go_size)))
        | (go_at_call 14; (with_reducible refine (toServerPool s' u' _).mono ?_); rintro e w7 ⟨rfl, hb7⟩; have hz7_0 : W.heap.size < w7.heap.size := (by have := hb7.size; first | omega | (simp at this; omega)); have hz7_1 : W.heap.size + 1 < w7.heap.size := (by have := hb7.size; first | omega | (simp at this; omega)); have hS7 : w7.cell? ⟨W.heap.size, 0, none⟩ = some (.int .i64 s) ∧ w7.cell? ⟨W.heap.size, 1, none⟩ = some (.int .i64 u) ∧ w7.cell? ⟨W.heap.size + 1, 0, none⟩ = some (.int .i64 s') ∧ w7.cell? ⟨W.heap.size + 1, 1, none⟩ = some (.int .i64 u') := ⟨(hb7.cell (p := ⟨W.heap.size, 0, none⟩) (by go_size)).trans (by first | assumption | (simp [go_sem]; done) | (simp [*, go_sem]; done) | simp [*, go_sem, World.cell?_alloc_past]), (hb7.cell (p := ⟨W.heap.size, 1, none⟩) (by go_size)).trans (by first | assumption | (simp [go_sem]; done) | (simp [*, go_sem]; done) | simp [*, go_sem, World.cell?_alloc_past]), (hb7.cell (p := ⟨W.heap.size + 1, 0, none⟩) (by go_size)).trans (by first | assumption | (simp [go_sem]; done) | (simp [*, go_sem]; done) | simp [*, go_sem, World.cell?_alloc_past]), (hb7.cell (p := ⟨W.heap.size + 1, 1, none⟩) (by go_size)).trans (by first | assumption | (simp [go_sem]; done) | (simp [*, go_sem]; done) | simp [*, go_sem, World.cell?_alloc_past])⟩; have hy7 : w5.heap.size ≤ w7.heap.size := (by have := hb7.size; first | omega | (simp at this; omega)); have hT7 : Below w5.heap.size w5 w7 := Below.trans (by go_grown) (hb7.mono (by go_size)))
        | (go_at_call 34; (with_reducible refine (MovedSessions_impl s u s' u' _ n n zs _ hs hs' HZ.out hn (rd_own (own_below ox hT7))).mono ?_); rw [← HL.out]; rintro e w8 ⟨v8, rfl, og, hb8⟩; have hz8_0 : W.heap.size < w8.heap.size := (by have := hb8.size; first | omega | (simp at this; omega)); have hz8_1 : W.heap.size + 1 < w8.heap.size := (by have := hb8.size; first | omega | (simp at this; omega)); have hS8 : w8.cell? ⟨W.heap.size, 0, none⟩ = some (.int .i64 s) ∧ w8.cell? ⟨W.heap.size, 1, none⟩ = some (.int .i64 u) ∧ w8.cell? ⟨W.heap.size + 1, 0, none⟩ = some (.int .i64 s') ∧ w8.cell? ⟨W.heap.size + 1, 1, none⟩ = some (.int .i64 u') := ⟨(hb8.cell (p := ⟨W.heap.size, 0, none⟩) (by go_size)).trans (by first | assumption | (simp [go_sem]; done) | (simp [*, go_sem]; done) | simp [*, go_sem, World.cell?_alloc_past]), (hb8.cell (p := ⟨W.heap.size, 1, none⟩) (by go_size)).trans (by first | assumption | (simp [go_sem]; done) | (simp [*, go_sem]; done) | simp [*, go_sem, World.cell?_alloc_past]), (hb8.cell (p := ⟨W.heap.size + 1, 0, none⟩) (by go_size)).trans (by first | assumption | (simp [go_sem]; done) | (simp [*, go_sem]; done) | simp [*, go_sem, World.cell?_alloc_past]), (hb8.cell (p := ⟨W.heap.size + 1, 1, none⟩) (by go_size)).trans (by first | assumption | (simp [go_sem]; done) | (simp [*, go_sem]; done) | simp [*, go_sem, World.cell?_alloc_past])⟩; have hy8 : w5.heap.size ≤ w8.heap.size := (by have := hb8.size; first | omega | (simp at this; omega)); have hT8 : Below w5.heap.size w5 w8 := Below.trans (by go_grown) (hb8.mono (by go_size))))
    have Tw6 : Below w5.heap.size w5 w6 := Below.trans (by go_grown) (hb6.mono (by go_size))
    have Zw6 := Tw6.size
    replace RA := rd_below RA Tw6 (by omega)
    replace R0 := rd_below R0 Tw6 (by omega)
    replace C0 := cell_below C0 Tw6
    replace C1 := cell_below C1 Tw6
    replace C2 := cell_below C2 Tw6
    replace C3 := cell_below C3 Tw6
    replace ox := own_below ox Tw6
    replace BW := Below.trans BW (Tw6.mono (by omega))
    have Tw7 : Below w6.heap.size w6 w7 := Below.trans (by go_grown) (hb7.mono (by go_size))
    have Zw7 := Tw7.size
    replace RA := rd_below RA Tw7 (by omega)
    replace R0 := rd_below R0 Tw7 (by omega)
    replace C0 := cell_below C0 Tw7
    replace C1 := cell_below C1 Tw7
    replace C2 := cell_below C2 Tw7
    replace C3 := cell_below C3 Tw7
    replace ox := own_below ox Tw7
    replace BW := Below.trans BW (Tw7.mono (by omega))
    have Tw8 : Below w7.heap.size w7 w8 := Below.trans (by go_grown) (hb8.mono (by go_size))
    have Zw8 := Tw8.size
    replace RA := rd_below RA Tw8 (by omega)
    replace R0 := rd_below R0 Tw8 (by omega)
    replace C0 := cell_below C0 Tw8
    replace C1 := cell_below C1 Tw8
    replace C2 := cell_below C2 Tw8
    replace C3 := cell_below C3 Tw8
    replace ox := own_below ox Tw8
    replace BW := Below.trans BW (Tw8.mono (by omega))
    obtain ⟨Ag, cg, rfl, hcga, hcgb⟩ := own_slice og
    go_wp2_with fail
    refine (eqIntS _ _ _ _ _ _ L L _ _ (by omega) (by omega) (rd_own og) (R0.more (by omega))).mono ?_
    rintro e w9 ⟨rfl, hb9⟩
    have Tw9 : Below w8.heap.size w8 w9 := Below.trans (by go_grown) (hb9.mono (by go_size))
    have Zw9 := Tw9.size
    replace RA := rd_below RA Tw9 (by omega)
    replace R0 := rd_below R0 Tw9 (by omega)
    replace C0 := cell_below C0 Tw9
    replace C1 := cell_below C1 Tw9
    replace C2 := cell_below C2 Tw9
    replace C3 := cell_below C3 Tw9
    replace ox := own_below ox Tw9
    replace og := own_below og Tw9
    replace BW := Below.trans BW (Tw9.mono (by omega))
    go_wp2_with fail
    refine (toIntS A n c zs _ hn (RA.more (by omega))).mono ?_
    rintro e w10 ⟨rfl, oy, hb10⟩
    have Tw10 : Below w9.heap.size w9 w10 := Below.trans (by go_grown) (hb10.mono (by go_size))
    have Zw10 := Tw10.size
    replace RA := rd_below RA Tw10 (by omega)
    replace R0 := rd_below R0 Tw10 (by omega)
    replace C0 := cell_below C0 Tw10
    replace C1 := cell_below C1 Tw10
    replace C2 := cell_below C2 Tw10
    replace C3 := cell_below C3 Tw10
    replace ox := own_below ox Tw10
    replace og := own_below og Tw10
    replace BW := Below.trans BW (Tw10.mono (by omega))
    go_wp2_with fail
    refine (eqIntS _ _ _ _ _ _ zs zs _ _ (by omega) (by omega) (rd_own ox) (rd_own oy)).mono ?_
    rintro e w11 ⟨rfl, hb11⟩
    have Tw11 : Below w10.heap.size w10 w11 := Below.trans (by go_grown) (hb11.mono (by go_size))
    have Zw11 := Tw11.size
    replace RA := rd_below RA Tw11 (by omega)
    replace R0 := rd_below R0 Tw11 (by omega)
    replace C0 := cell_below C0 Tw11
    replace C1 := cell_below C1 Tw11
    replace C2 := cell_below C2 Tw11
    replace C3 := cell_below C3 Tw11
    replace ox := own_below ox Tw11
    replace og := own_below og Tw11
    replace oy := own_below oy Tw11
    replace BW := Below.trans BW (Tw11.mono (by omega))
    go_wp2_with fail
    refine (markIntS _ n _ 1 _ _ (by decide) (by decide) hn ox).mono ?_
    rintro e w12 ⟨rfl, o12, G12⟩
    have Zw12 := G12.size
    replace RA := rd_grown RA G12 (by omega) (fun k h => by have := (ox.lt k h).1; omega)
    replace R0 := rd_grown R0 G12 (by omega) (fun k h => by have := (ox.lt k h).1; omega)
    replace C0 := cell_grown C0 G12 (fun h => by have := (ox.lt _ h).1; omega)
    replace C1 := cell_grown C1 G12 (fun h => by have := (ox.lt _ h).1; omega)
    replace C2 := cell_grown C2 G12 (fun h => by have := (ox.lt _ h).1; omega)
    replace C3 := cell_grown C3 G12 (fun h => by have := (ox.lt _ h).1; omega)
    replace og := World.ownsRow.kept og G12 (Or.inr (own_block (m := w4.heap.size) og (by omega)))
    replace BW := Below.grown BW G12 (by omega) (fun k h => by have := (ox.lt k h).1; omega)
    replace ox := o12
    go_wp2_with fail
    refine (eqIntS _ _ _ _ _ _ L L _ _ (by omega) (by omega) (rd_own og) (R0.more (by omega))).mono ?_
    rintro e w13 ⟨rfl, hb13⟩
    have Tw13 : Below w12.heap.size w12 w13 := Below.trans (by go_grown) (hb13.mono (by go_size))
    have Zw13 := Tw13.size
    replace RA := rd_below RA Tw13 (by omega)
    replace R0 := rd_below R0 Tw13 (by omega)
    replace C0 := cell_below C0 Tw13
    replace C1 := cell_below C1 Tw13
    replace C2 := cell_below C2 Tw13
    replace C3 := cell_below C3 Tw13
    replace ox := own_below ox Tw13
    replace og := own_below og Tw13
    replace BW := Below.trans BW (Tw13.mono (by omega))
    go_wp2_with fail
    refine (markIntS _ L.length _ 1 _ _ (by decide) (by decide) (by omega) og).mono ?_
    rintro e w14 ⟨rfl, o14, G14⟩
    have Zw14 := G14.size
    replace RA := rd_grown RA G14 (by omega) (fun k h => by have := (og.lt k h).1; omega)
    replace R0 := rd_grown R0 G14 (by omega) (fun k h => by have := (og.lt k h).1; omega)
    replace C0 := cell_grown C0 G14 (fun h => by have := (og.lt _ h).1; omega)
    replace C1 := cell_grown C1 G14 (fun h => by have := (og.lt _ h).1; omega)
    replace C2 := cell_grown C2 G14 (fun h => by have := (og.lt _ h).1; omega)
    replace C3 := cell_grown C3 G14 (fun h => by have := (og.lt _ h).1; omega)
    replace ox := World.ownsRow.kept ox G14 (Or.inr (fun e => (own_block (m := w4.heap.size) og (by omega)) e.symm))
    replace BW := Below.grown BW G14 (by omega) (fun k h => by have := (og.lt k h).1; omega)
    replace og := o14
    go_wp2_with fail
    refine (heldIntS _ L.length _ 1 _ _ (by decide) (by decide) (by omega) (rd_own og)).mono ?_
    rintro e w' ⟨rfl, rfl⟩
    go_wp2_with fail
    go_region_held3 (fun w' => w'.cell? ⟨W.heap.size, 0, none⟩ = some (.int .i64 s) ∧ w'.cell? ⟨W.heap.size, 1, none⟩ = some (.int .i64 u) ∧ w'.cell? ⟨W.heap.size + 1, 0, none⟩ = some (.int .i64 s') ∧ w'.cell? ⟨W.heap.size + 1, 1, none⟩ = some (.int .i64 u')) (first | assumption | (refine ⟨?_, ?_, ?_, ?_⟩ <;> assumption) | (simp [*, go_sem]; done) | (simp [*, go_sem, World.cell?_alloc_past]; done))
      (first
        | (go_at_call 14; (with_reducible refine (toServerPool s u _).mono ?_); rintro e w15 ⟨rfl, hb15⟩; have hz15_0 : W.heap.size < w15.heap.size := (by have := hb15.size; first | omega | (simp at this; omega)); have hz15_1 : W.heap.size + 1 < w15.heap.size := (by have := hb15.size; first | omega | (simp at this; omega)); have hS15 : w15.cell? ⟨W.heap.size, 0, none⟩ = some (.int .i64 s) ∧ w15.cell? ⟨W.heap.size, 1, none⟩ = some (.int .i64 u) ∧ w15.cell? ⟨W.heap.size + 1, 0, none⟩ = some (.int .i64 s') ∧ w15.cell? ⟨W.heap.size + 1, 1, none⟩ = some (.int .i64 u') := ⟨(hb15.cell (p := ⟨W.heap.size, 0, none⟩) (by go_size)).trans (by first | assumption | (simp [go_sem]; done) | (simp [*, go_sem]; done) | simp [*, go_sem, World.cell?_alloc_past]), (hb15.cell (p := ⟨W.heap.size, 1, none⟩) (by go_size)).trans (by first | assumption | (simp [go_sem]; done) | (simp [*, go_sem]; done) | simp [*, go_sem, World.cell?_alloc_past]), (hb15.cell (p := ⟨W.heap.size + 1, 0, none⟩) (by go_size)).trans (by first | assumption | (simp [go_sem]; done) | (simp [*, go_sem]; done) | simp [*, go_sem, World.cell?_alloc_past]), (hb15.cell (p := ⟨W.heap.size + 1, 1, none⟩) (by go_size)).trans (by first | assumption | (simp [go_sem]; done) | (simp [*, go_sem]; done) | simp [*, go_sem, World.cell?_alloc_past])⟩; have hy15 : w14.heap.size ≤ w15.heap.size := (by have := hb15.size; first | omega | (simp at this; omega)); have hT15 : Below w14.heap.size w14 w15 := Below.trans (by go_grown) (hb15.mono (by go_size)))
        | (go_at_call 14; (with_reducible refine (toServerPool s' u' _).mono ?_); rintro e w16 ⟨rfl, hb16⟩; have hz16_0 : W.heap.size < w16.heap.size := (by have := hb16.size; first | omega | (simp at this; omega)); have hz16_1 : W.heap.size + 1 < w16.heap.size := (by have := hb16.size; first | omega | (simp at this; omega)); have hS16 : w16.cell? ⟨W.heap.size, 0, none⟩ = some (.int .i64 s) ∧ w16.cell? ⟨W.heap.size, 1, none⟩ = some (.int .i64 u) ∧ w16.cell? ⟨W.heap.size + 1, 0, none⟩ = some (.int .i64 s') ∧ w16.cell? ⟨W.heap.size + 1, 1, none⟩ = some (.int .i64 u') := ⟨(hb16.cell (p := ⟨W.heap.size, 0, none⟩) (by go_size)).trans (by first | assumption | (simp [go_sem]; done) | (simp [*, go_sem]; done) | simp [*, go_sem, World.cell?_alloc_past]), (hb16.cell (p := ⟨W.heap.size, 1, none⟩) (by go_size)).trans (by first | assumption | (simp [go_sem]; done) | (simp [*, go_sem]; done) | simp [*, go_sem, World.cell?_alloc_past]), (hb16.cell (p := ⟨W.heap.size + 1, 0, none⟩) (by go_size)).trans (by first | assumption | (simp [go_sem]; done) | (simp [*, go_sem]; done) | simp [*, go_sem, World.cell?_alloc_past]), (hb16.cell (p := ⟨W.heap.size + 1, 1, none⟩) (by go_size)).trans (by first | assumption | (simp [go_sem]; done) | (simp [*, go_sem]; done) | simp [*, go_sem, World.cell?_alloc_past])⟩; have hy16 : w14.heap.size ≤ w16.heap.size := (by have := hb16.size; first | omega | (simp at this; omega)); have hT16 : Below w14.heap.size w14 w16 := Below.trans (by go_grown) (hb16.mono (by go_size)))
        | (go_at_call 33; (with_reducible refine (toIntS A n c zs _ hn ((rd_below RA hT16 (by omega)).more (by omega))).mono ?_); rintro e w17 ⟨rfl, own17, hb17⟩; have hz17_0 : W.heap.size < w17.heap.size := (by have := hb17.size; first | omega | (simp at this; omega)); have hz17_1 : W.heap.size + 1 < w17.heap.size := (by have := hb17.size; first | omega | (simp at this; omega)); have hS17 : w17.cell? ⟨W.heap.size, 0, none⟩ = some (.int .i64 s) ∧ w17.cell? ⟨W.heap.size, 1, none⟩ = some (.int .i64 u) ∧ w17.cell? ⟨W.heap.size + 1, 0, none⟩ = some (.int .i64 s') ∧ w17.cell? ⟨W.heap.size + 1, 1, none⟩ = some (.int .i64 u') := ⟨(hb17.cell (p := ⟨W.heap.size, 0, none⟩) (by go_size)).trans (by first | assumption | (simp [go_sem]; done) | (simp [*, go_sem]; done) | simp [*, go_sem, World.cell?_alloc_past]), (hb17.cell (p := ⟨W.heap.size, 1, none⟩) (by go_size)).trans (by first | assumption | (simp [go_sem]; done) | (simp [*, go_sem]; done) | simp [*, go_sem, World.cell?_alloc_past]), (hb17.cell (p := ⟨W.heap.size + 1, 0, none⟩) (by go_size)).trans (by first | assumption | (simp [go_sem]; done) | (simp [*, go_sem]; done) | simp [*, go_sem, World.cell?_alloc_past]), (hb17.cell (p := ⟨W.heap.size + 1, 1, none⟩) (by go_size)).trans (by first | assumption | (simp [go_sem]; done) | (simp [*, go_sem]; done) | simp [*, go_sem, World.cell?_alloc_past])⟩; have hy17 : w14.heap.size ≤ w17.heap.size := (by have := hb17.size; first | omega | (simp at this; omega)); have hT17 : Below w14.heap.size w14 w17 := Below.trans (by go_grown) (hb17.mono (by go_size)))
        | (go_at_call 34; (with_reducible refine (MovedSessions_impl s u s' u' _ n n zs _ hs hs' HZ.out hn (rd_own own17)).mono ?_); rw [← HL.out]; rintro e w18 ⟨v18, rfl, oh, hb18⟩; have hz18_0 : W.heap.size < w18.heap.size := (by have := hb18.size; first | omega | (simp at this; omega)); have hz18_1 : W.heap.size + 1 < w18.heap.size := (by have := hb18.size; first | omega | (simp at this; omega)); have hS18 : w18.cell? ⟨W.heap.size, 0, none⟩ = some (.int .i64 s) ∧ w18.cell? ⟨W.heap.size, 1, none⟩ = some (.int .i64 u) ∧ w18.cell? ⟨W.heap.size + 1, 0, none⟩ = some (.int .i64 s') ∧ w18.cell? ⟨W.heap.size + 1, 1, none⟩ = some (.int .i64 u') := ⟨(hb18.cell (p := ⟨W.heap.size, 0, none⟩) (by go_size)).trans (by first | assumption | (simp [go_sem]; done) | (simp [*, go_sem]; done) | simp [*, go_sem, World.cell?_alloc_past]), (hb18.cell (p := ⟨W.heap.size, 1, none⟩) (by go_size)).trans (by first | assumption | (simp [go_sem]; done) | (simp [*, go_sem]; done) | simp [*, go_sem, World.cell?_alloc_past]), (hb18.cell (p := ⟨W.heap.size + 1, 0, none⟩) (by go_size)).trans (by first | assumption | (simp [go_sem]; done) | (simp [*, go_sem]; done) | simp [*, go_sem, World.cell?_alloc_past]), (hb18.cell (p := ⟨W.heap.size + 1, 1, none⟩) (by go_size)).trans (by first | assumption | (simp [go_sem]; done) | (simp [*, go_sem]; done) | simp [*, go_sem, World.cell?_alloc_past])⟩; have hy18 : w14.heap.size ≤ w18.heap.size := (by have := hb18.size; first | omega | (simp at this; omega)); have hT18 : Below w14.heap.size w14 w18 := Below.trans (by go_grown) (hb18.mono (by go_size))))
    have Tw15 : Below w14.heap.size w14 w15 := Below.trans (by go_grown) (hb15.mono (by go_size))
    have Zw15 := Tw15.size
    replace RA := rd_below RA Tw15 (by omega)
    replace R0 := rd_below R0 Tw15 (by omega)
    replace C0 := cell_below C0 Tw15
    replace C1 := cell_below C1 Tw15
    replace C2 := cell_below C2 Tw15
    replace C3 := cell_below C3 Tw15
    replace ox := own_below ox Tw15
    replace og := own_below og Tw15
    replace BW := Below.trans BW (Tw15.mono (by omega))
    have Tw16 : Below w15.heap.size w15 w16 := Below.trans (by go_grown) (hb16.mono (by go_size))
    have Zw16 := Tw16.size
    replace RA := rd_below RA Tw16 (by omega)
    replace R0 := rd_below R0 Tw16 (by omega)
    replace C0 := cell_below C0 Tw16
    replace C1 := cell_below C1 Tw16
    replace C2 := cell_below C2 Tw16
    replace C3 := cell_below C3 Tw16
    replace ox := own_below ox Tw16
    replace og := own_below og Tw16
    replace BW := Below.trans BW (Tw16.mono (by omega))
    have Tw17 : Below w16.heap.size w16 w17 := Below.trans (by go_grown) (hb17.mono (by go_size))
    have Zw17 := Tw17.size
    replace RA := rd_below RA Tw17 (by omega)
    replace R0 := rd_below R0 Tw17 (by omega)
    replace C0 := cell_below C0 Tw17
    replace C1 := cell_below C1 Tw17
    replace C2 := cell_below C2 Tw17
    replace C3 := cell_below C3 Tw17
    replace ox := own_below ox Tw17
    replace og := own_below og Tw17
    replace BW := Below.trans BW (Tw17.mono (by omega))
    have Tw18 : Below w17.heap.size w17 w18 := Below.trans (by go_grown) (hb18.mono (by go_size))
    have Zw18 := Tw18.size
    replace RA := rd_below RA Tw18 (by omega)
    replace R0 := rd_below R0 Tw18 (by omega)
    replace C0 := cell_below C0 Tw18
    replace C1 := cell_below C1 Tw18
    replace C2 := cell_below C2 Tw18
    replace C3 := cell_below C3 Tw18
    replace ox := own_below ox Tw18
    replace og := own_below og Tw18
    replace BW := Below.trans BW (Tw18.mono (by omega))
    obtain ⟨Ah, ch, rfl, hcha, hchb⟩ := own_slice oh
    go_wp2_with fail
    refine (eqIntS _ _ _ _ _ _ L L _ _ (by omega) (by omega) (rd_own oh) (R0.more (by omega))).mono ?_
    rintro e w19 ⟨rfl, hb19⟩
    have Tw19 : Below w18.heap.size w18 w19 := Below.trans (by go_grown) (hb19.mono (by go_size))
    have Zw19 := Tw19.size
    replace RA := rd_below RA Tw19 (by omega)
    replace R0 := rd_below R0 Tw19 (by omega)
    replace C0 := cell_below C0 Tw19
    replace C1 := cell_below C1 Tw19
    replace C2 := cell_below C2 Tw19
    replace C3 := cell_below C3 Tw19
    replace ox := own_below ox Tw19
    replace og := own_below og Tw19
    replace oh := own_below oh Tw19
    replace BW := Below.trans BW (Tw19.mono (by omega))
    go_wp2_with fail
    refine (heldIntS _ L.length _ 1 _ _ (by decide) (by decide) (by omega) (rd_own og)).mono ?_
    rintro e w' ⟨rfl, rfl⟩
    go_wp2
    go_ret
    exact ⟨rfl, BW⟩
  · go_enter Try.func11, Try.ntmps11
    go_wp2
    go_ret
    exact ⟨rfl, by go_grown⟩
end Go.Proofs.Ytidefcakodnffaa
