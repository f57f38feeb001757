/-
  Contracts of MovedSessions, of the program and of the reference.
-/
import Derived.Test.YtidefcakodnffaaPool4
import Derived.Test.YtidefcakodnffaaInts
import Derived.Test.YtidefcakodnffaaMem2
import Derived.Handy
namespace Go.Proofs.Ytidefcakodnffaa
open Go.RowKit

def movedB (s u s' u' k : Int) : Bool := select s u k != select s' u' k
def moved (s u s' u' : Int) (zs : List Int) : List Int := zs.filter (movedB s u s' u')
theorem moved_yes {s u s' u' : Int} {zs : List Int} {k : Nat} (hk : k < zs.length) (h : movedB s u s' u' zs[k] = true) : moved s u s' u' (zs.take (k + 1)) = moved s u s' u' (zs.take k) ++ [zs[k]] := by
  unfold moved
  rw [List.take_succ_eq_append_getElem hk, List.filter_append, List.filter_cons_of_pos h, List.filter_nil]
theorem moved_no {s u s' u' : Int} {zs : List Int} {k : Nat} (hk : k < zs.length) (h : movedB s u s' u' zs[k] = false) : moved s u s' u' (zs.take (k + 1)) = moved s u s' u' (zs.take k) := by
  unfold moved
  rw [List.take_succ_eq_append_getElem hk, List.filter_append, List.filter_cons_of_neg (by simp [h]), List.filter_nil, List.append_nil]
theorem moved_le (s u s' u' : Int) (zs : List Int) (k : Nat) : (moved s u s' u' (zs.take k)).length ≤ k :=
  Nat.le_trans (List.length_filter_le _ _) (List.length_take_le _ _)
theorem MovedSessions_impl (s u s' u' : Int) (A : Option Addr) (n c : Nat) (zs : List Int) (w : World) (hs : I64 s) (hs' : I64 s') (hz : ∀ z ∈ zs, I64 z) (hn : n ≤ 1048576) (hr : Rd w w.heap.size A n (zs.map (Value.int .i64))) :
    Calls Try.prog 34 #[.agg #[.int .i64 s, .int .i64 u], .agg #[.int .i64 s', .int .i64 u'], .slice A n c] w fun e w' => ∃ v, e = .returned v ∧ w'.ownsRow w.heap.size 3 1 v (moved s u s' u' zs).length ((moved s u s' u' zs).map (Value.int .i64)) ∧ Below w.heap.size w w' := by
  have hlen : zs.length = n := by simpa using hr.1
  go_enter Try.func34, Try.ntmps34
  go_wp2_with fail
  go_loopw [7, 13] (fun v7 v13 wr => ∃ k : Nat, k ≤ n ∧ v13 = .int .i64 k ∧ wr.ownsRow (w.heap.size + 2) 3 1 v7 (moved s u s' u' (zs.take k)).length ((moved s u s' u' (zs.take k)).map (Value.int .i64)) ∧ (wr.cell? ⟨w.heap.size, 0, none⟩ = some (.int .i64 s) ∧ wr.cell? ⟨w.heap.size, 1, none⟩ = some (.int .i64 u) ∧ wr.cell? ⟨w.heap.size + 1, 0, none⟩ = some (.int .i64 s') ∧ wr.cell? ⟨w.heap.size + 1, 1, none⟩ = some (.int .i64 u')) ∧ w.heap.size + 2 ≤ wr.heap.size ∧ Below w.heap.size w wr) (fun _ v13 _ => n - (intOf v13).toNat)
  case atStart => exact ⟨0, Nat.zero_le _, rfl, own_lit_at #[] 0 _ (by simp) (by omega) (Nat.zero_le _) rfl, ⟨by simp [go_sem, World.cell?_alloc_past], by simp [go_sem, World.cell?_alloc_past], by simp [go_sem, World.cell?_alloc_past], by simp [go_sem, World.cell?_alloc_past]⟩, by go_size, by go_grown⟩
  case round =>
    obtain ⟨k, hkn, rfl, own, ⟨c0, c1, c2, c3⟩, hzr, hBr⟩ := hrel
    by_cases hlt : k < n
    · obtain ⟨b, off, rfl, hbB, hc⟩ := hr.2 (by omega)
      obtain ⟨z, hze⟩ : ∃ z, z = zs[k]'(by omega) := ⟨_, rfl⟩
      have hcellw := hc k (.int .i64 z) (by simp [hze, show k < zs.length by omega])
      have hcell : wr.cell? ⟨b, off + k, none⟩ = some (.int .i64 z) := (hBr.cell (p := ⟨b, off + k, none⟩) hbB).trans hcellw
      have hzk : I64 z := by rw [hze]; exact hz _ (List.getElem_mem _)
      have hml := moved_le s u s' u' zs k
      have hbz : b < wr.heap.size := by omega
      have hi0 : (0 : Int) ≤ (k : Int) := by omega
      have hi1 : (k : Int) < (n : Int) := by omega
      have hw0 : w.heap.size < wr.heap.size := by omega
      have hw1 : w.heap.size + 1 < wr.heap.size := by omega
      obtain ⟨L, hL⟩ : ∃ L, L = moved s u s' u' (zs.take k) := ⟨_, rfl⟩
      rw [← hL] at own hml
      obtain ⟨m, hm⟩ : ∃ m, m = select s u z := ⟨_, rfl⟩
      obtain ⟨m2, hm2⟩ : ∃ m2, m2 = select s' u' z := ⟨_, rfl⟩
      have HM := Lib.hid hm
      have HM2 := Lib.hid hm2
      by_cases hmm : m = m2
      · have hmb : (m != m2) = false := by simp [bne, hmm]
        have HS := Lib.hid (show moved s u s' u' (zs.take (k + 1)) = L by rw [hL]; exact moved_no (by omega) (by rw [← hze, movedB, ← hm, ← hm2]; exact hmb))
        clear hL hm hm2 hmm hze hc hcellw hr hz hlen
        go_wp2_with fail
        go_region_held3 (fun w' => w'.cell? ⟨w.heap.size, 0, none⟩ = some (.int .i64 s) ∧ w'.cell? ⟨w.heap.size, 1, none⟩ = some (.int .i64 u) ∧ w'.cell? ⟨w.heap.size + 1, 0, none⟩ = some (.int .i64 s') ∧ w'.cell? ⟨w.heap.size + 1, 1, none⟩ = some (.int .i64 u')) (first | assumption | (refine ⟨?_, ?_, ?_, ?_⟩ <;> assumption) | (simp [*, go_sem]; done))
          (first
            | (go_at_call 26; (with_reducible refine (SelectServer_impl s u z hs hzk _).mono ?_); rw [← HM.out]; rintro e w1 ⟨rfl, hb1⟩; have hz1_0 : w.heap.size < w1.heap.size := (by have := hb1.size; first | omega | (simp at this; omega)); have hz1_1 : w.heap.size + 1 < w1.heap.size := (by have := hb1.size; first | omega | (simp at this; omega)); have hS1 : w1.cell? ⟨w.heap.size, 0, none⟩ = some (.int .i64 s) ∧ w1.cell? ⟨w.heap.size, 1, none⟩ = some (.int .i64 u) ∧ w1.cell? ⟨w.heap.size + 1, 0, none⟩ = some (.int .i64 s') ∧ w1.cell? ⟨w.heap.size + 1, 1, none⟩ = some (.int .i64 u') := ⟨(hb1.cell (p := ⟨w.heap.size, 0, none⟩) (by go_size)).trans (by first | assumption | (simp [go_sem]; done) | simp [*, go_sem]), (hb1.cell (p := ⟨w.heap.size, 1, none⟩) (by go_size)).trans (by first | assumption | (simp [go_sem]; done) | simp [*, go_sem]), (hb1.cell (p := ⟨w.heap.size + 1, 0, none⟩) (by go_size)).trans (by first | assumption | (simp [go_sem]; done) | simp [*, go_sem]), (hb1.cell (p := ⟨w.heap.size + 1, 1, none⟩) (by go_size)).trans (by first | assumption | (simp [go_sem]; done) | simp [*, go_sem])⟩; have hy1 : w.heap.size ≤ w1.heap.size := (by have := hb1.size; first | omega | (simp at this; omega)); have hB1 : Below w.heap.size w w1 := Below.trans (by go_grown) (hb1.mono (by go_size)))
            | (go_at_call 26; (with_reducible refine (SelectServer_impl s' u' z hs' hzk _).mono ?_); rw [← HM2.out]; rintro e w2 ⟨rfl, hb2⟩; have hz2_0 : w.heap.size < w2.heap.size := (by have := hb2.size; first | omega | (simp at this; omega)); have hz2_1 : w.heap.size + 1 < w2.heap.size := (by have := hb2.size; first | omega | (simp at this; omega)); have hS2 : w2.cell? ⟨w.heap.size, 0, none⟩ = some (.int .i64 s) ∧ w2.cell? ⟨w.heap.size, 1, none⟩ = some (.int .i64 u) ∧ w2.cell? ⟨w.heap.size + 1, 0, none⟩ = some (.int .i64 s') ∧ w2.cell? ⟨w.heap.size + 1, 1, none⟩ = some (.int .i64 u') := ⟨(hb2.cell (p := ⟨w.heap.size, 0, none⟩) (by go_size)).trans (by first | assumption | (simp [go_sem]; done) | simp [*, go_sem]), (hb2.cell (p := ⟨w.heap.size, 1, none⟩) (by go_size)).trans (by first | assumption | (simp [go_sem]; done) | simp [*, go_sem]), (hb2.cell (p := ⟨w.heap.size + 1, 0, none⟩) (by go_size)).trans (by first | assumption | (simp [go_sem]; done) | simp [*, go_sem]), (hb2.cell (p := ⟨w.heap.size + 1, 1, none⟩) (by go_size)).trans (by first | assumption | (simp [go_sem]; done) | simp [*, go_sem])⟩; have hy2 : w.heap.size ≤ w2.heap.size := (by have := hb2.size; first | omega | (simp at this; omega)); have hB2 : Below w.heap.size w w2 := Below.trans (by go_grown) (hb2.mono (by go_size))))
        go_wp2
        go_roundw
        case rel => exact ⟨k + 1, by omega, by go_num, by rw [HS.out]; exact own_below (own_below own.drew hb1) hb2, ⟨hS2.1, hS2.2.1, hS2.2.2.1, hS2.2.2.2⟩, by omega, by go_grown⟩
        case measure => simp [intOf]; omega
      · have hmb : (m != m2) = true := by simp [bne, hmm]
        have HS := Lib.hid (show moved s u s' u' (zs.take (k + 1)) = L ++ [z] by rw [hL, hze]; exact moved_yes (by omega) (by rw [← hze, movedB, ← hm, ← hm2]; exact hmb))
        clear hL hm hm2 hmm hze hc hcellw hr hz hlen
        go_wp2_with fail
        go_region_held3 (fun w' => w'.cell? ⟨w.heap.size, 0, none⟩ = some (.int .i64 s) ∧ w'.cell? ⟨w.heap.size, 1, none⟩ = some (.int .i64 u) ∧ w'.cell? ⟨w.heap.size + 1, 0, none⟩ = some (.int .i64 s') ∧ w'.cell? ⟨w.heap.size + 1, 1, none⟩ = some (.int .i64 u')) (first | assumption | (refine ⟨?_, ?_, ?_, ?_⟩ <;> assumption) | (simp [*, go_sem]; done))
          (first
            | (go_at_call 26; (with_reducible refine (SelectServer_impl s u z hs hzk _).mono ?_); rw [← HM.out]; rintro e w1 ⟨rfl, hb1⟩; have hz1_0 : w.heap.size < w1.heap.size := (by have := hb1.size; first | omega | (simp at this; omega)); have hz1_1 : w.heap.size + 1 < w1.heap.size := (by have := hb1.size; first | omega | (simp at this; omega)); have hS1 : w1.cell? ⟨w.heap.size, 0, none⟩ = some (.int .i64 s) ∧ w1.cell? ⟨w.heap.size, 1, none⟩ = some (.int .i64 u) ∧ w1.cell? ⟨w.heap.size + 1, 0, none⟩ = some (.int .i64 s') ∧ w1.cell? ⟨w.heap.size + 1, 1, none⟩ = some (.int .i64 u') := ⟨(hb1.cell (p := ⟨w.heap.size, 0, none⟩) (by go_size)).trans (by first | assumption | (simp [go_sem]; done) | simp [*, go_sem]), (hb1.cell (p := ⟨w.heap.size, 1, none⟩) (by go_size)).trans (by first | assumption | (simp [go_sem]; done) | simp [*, go_sem]), (hb1.cell (p := ⟨w.heap.size + 1, 0, none⟩) (by go_size)).trans (by first | assumption | (simp [go_sem]; done) | simp [*, go_sem]), (hb1.cell (p := ⟨w.heap.size + 1, 1, none⟩) (by go_size)).trans (by first | assumption | (simp [go_sem]; done) | simp [*, go_sem])⟩; have hy1 : w.heap.size ≤ w1.heap.size := (by have := hb1.size; first | omega | (simp at this; omega)); have hB1 : Below w.heap.size w w1 := Below.trans (by go_grown) (hb1.mono (by go_size)))
            | (go_at_call 26; (with_reducible refine (SelectServer_impl s' u' z hs' hzk _).mono ?_); rw [← HM2.out]; rintro e w2 ⟨rfl, hb2⟩; have hz2_0 : w.heap.size < w2.heap.size := (by have := hb2.size; first | omega | (simp at this; omega)); have hz2_1 : w.heap.size + 1 < w2.heap.size := (by have := hb2.size; first | omega | (simp at this; omega)); have hS2 : w2.cell? ⟨w.heap.size, 0, none⟩ = some (.int .i64 s) ∧ w2.cell? ⟨w.heap.size, 1, none⟩ = some (.int .i64 u) ∧ w2.cell? ⟨w.heap.size + 1, 0, none⟩ = some (.int .i64 s') ∧ w2.cell? ⟨w.heap.size + 1, 1, none⟩ = some (.int .i64 u') := ⟨(hb2.cell (p := ⟨w.heap.size, 0, none⟩) (by go_size)).trans (by first | assumption | (simp [go_sem]; done) | simp [*, go_sem]), (hb2.cell (p := ⟨w.heap.size, 1, none⟩) (by go_size)).trans (by first | assumption | (simp [go_sem]; done) | simp [*, go_sem]), (hb2.cell (p := ⟨w.heap.size + 1, 0, none⟩) (by go_size)).trans (by first | assumption | (simp [go_sem]; done) | simp [*, go_sem]), (hb2.cell (p := ⟨w.heap.size + 1, 1, none⟩) (by go_size)).trans (by first | assumption | (simp [go_sem]; done) | simp [*, go_sem])⟩; have hy2 : w.heap.size ≤ w2.heap.size := (by have := hb2.size; first | omega | (simp at this; omega)); have hB2 : Below w.heap.size w w2 := Below.trans (by go_grown) (hb2.mono (by go_size))))
        have own2 := own_below (own_below own.drew hb1) hb2
        go_wp2_with (at_builtin; refine wpList_append_rd rfl (.tmp 24) (.tmp 26) 39 rfl elInt (w.heap.size + 2) _ L.length _ rfl (own2.alloc _) (w2.heap.size + 1) _ 1 1 [.int .i64 z] rfl (Rd.one w2 (.int .i64 z) 3) (ints_one .i64 [z]) (by omega) (by omega) (by simp; omega) ?_; intro v3 w3 own3 grow3 at3)
        go_roundw
        case rel => exact ⟨k + 1, by omega, by go_num, by rw [HS.out]; simpa using own3, ⟨(grow_far grow3 own2 hz2_0).trans hS2.1, (grow_far grow3 own2 hz2_0).trans hS2.2.1, (grow_far grow3 own2 hz2_1).trans hS2.2.2.1, (grow_far grow3 own2 hz2_1).trans hS2.2.2.2⟩, by have := grow3.size; simp at this; omega, (hB2.alloc (by omega) _).grown grow3 (by simp; omega) (fun j h => by have := (own2.lt j h).1; omega)⟩
        case measure => simp [intOf]; omega
    · obtain rfl : k = n := by omega
      have HS := Lib.hid (show moved s u s' u' (zs.take k) = moved s u s' u' zs by rw [List.take_of_length_le (by omega)])
      clear hlen
      go_wp2
      go_ret
      exact ⟨_, rfl, by rw [← HS.out]; exact own_base own (by omega), hBr⟩
theorem MovedSessions_spec (s u s' u' : Int) (A : Option Addr) (n c : Nat) (zs : List Int) (w : World) (hs : I64 s) (hs' : I64 s') (hz : ∀ z ∈ zs, I64 z) (hn : n ≤ 1048576) (hr : Rd w w.heap.size A n (zs.map (Value.int .i64))) :
    Calls Try.prog 32 #[.agg #[.int .i64 s, .int .i64 u], .agg #[.int .i64 s', .int .i64 u'], .slice A n c] w fun e w' => ∃ v, e = .returned v ∧ w'.ownsRow w.heap.size 3 1 v (moved s u s' u' zs).length ((moved s u s' u' zs).map (Value.int .i64)) ∧ Below w.heap.size w w' := by
  have hlen : zs.length = n := by simpa using hr.1
  go_enter Try.func32, Try.ntmps32
  go_wp2_with fail
  go_loopw [7, 8] (fun v7 v13 wr => ∃ k : Nat, k ≤ n ∧ v13 = .int .i64 k ∧ wr.ownsRow (w.heap.size + 2) 3 1 v7 (moved s u s' u' (zs.take k)).length ((moved s u s' u' (zs.take k)).map (Value.int .i64)) ∧ (wr.cell? ⟨w.heap.size, 0, none⟩ = some (.int .i64 s) ∧ wr.cell? ⟨w.heap.size, 1, none⟩ = some (.int .i64 u) ∧ wr.cell? ⟨w.heap.size + 1, 0, none⟩ = some (.int .i64 s') ∧ wr.cell? ⟨w.heap.size + 1, 1, none⟩ = some (.int .i64 u')) ∧ w.heap.size + 2 ≤ wr.heap.size ∧ Below w.heap.size w wr) (fun _ v13 _ => n - (intOf v13).toNat)
  case atStart => exact ⟨0, Nat.zero_le _, rfl, own_lit_at #[] 0 _ (by simp) (by omega) (Nat.zero_le _) rfl, ⟨by simp [go_sem, World.cell?_alloc_past], by simp [go_sem, World.cell?_alloc_past], by simp [go_sem, World.cell?_alloc_past], by simp [go_sem, World.cell?_alloc_past]⟩, by go_size, by go_grown⟩
  case round =>
    obtain ⟨k, hkn, rfl, own, ⟨c0, c1, c2, c3⟩, hzr, hBr⟩ := hrel
    by_cases hlt : k < n
    · obtain ⟨b, off, rfl, hbB, hc⟩ := hr.2 (by omega)
      obtain ⟨z, hze⟩ : ∃ z, z = zs[k]'(by omega) := ⟨_, rfl⟩
      have hcellw := hc k (.int .i64 z) (by simp [hze, show k < zs.length by omega])
      have hcell : wr.cell? ⟨b, off + k, none⟩ = some (.int .i64 z) := (hBr.cell (p := ⟨b, off + k, none⟩) hbB).trans hcellw
      have hzk : I64 z := by rw [hze]; exact hz _ (List.getElem_mem _)
      have hml := moved_le s u s' u' zs k
      have hbz : b < wr.heap.size := by omega
      have hi0 : (0 : Int) ≤ (k : Int) := by omega
      have hi1 : (k : Int) < (n : Int) := by omega
      have hw0 : w.heap.size < wr.heap.size := by omega
      have hw1 : w.heap.size + 1 < wr.heap.size := by omega
      obtain ⟨L, hL⟩ : ∃ L, L = moved s u s' u' (zs.take k) := ⟨_, rfl⟩
      rw [← hL] at own hml
      obtain ⟨m, hm⟩ : ∃ m, m = select s u z := ⟨_, rfl⟩
      obtain ⟨m2, hm2⟩ : ∃ m2, m2 = select s' u' z := ⟨_, rfl⟩
      have HM := Lib.hid hm
      have HM2 := Lib.hid hm2
      by_cases hmm : m = m2
      · have hmb : (m != m2) = false := by simp [bne, hmm]
        have HS := Lib.hid (show moved s u s' u' (zs.take (k + 1)) = L by rw [hL]; exact moved_no (by omega) (by rw [← hze, movedB, ← hm, ← hm2]; exact hmb))
        clear hL hm hm2 hmm hze hc hcellw hr hz hlen
        go_wp2_with fail
        go_region_held3 (fun w' => w'.cell? ⟨w.heap.size, 0, none⟩ = some (.int .i64 s) ∧ w'.cell? ⟨w.heap.size, 1, none⟩ = some (.int .i64 u) ∧ w'.cell? ⟨w.heap.size + 1, 0, none⟩ = some (.int .i64 s') ∧ w'.cell? ⟨w.heap.size + 1, 1, none⟩ = some (.int .i64 u') ∧ w'.cell? ⟨b, off + k, none⟩ = some (.int .i64 z)) (first | assumption | (refine ⟨?_, ?_, ?_, ?_, ?_⟩ <;> assumption) | (simp [*, go_sem]; done))
          (first
            | (go_at_call 25; (with_reducible refine (SelectServer_spec s u z hs hzk _).mono ?_); rw [← HM.out]; rintro e w1 ⟨rfl, hb1⟩; have hz1_0 : w.heap.size < w1.heap.size := (by have := hb1.size; first | omega | (simp at this; omega)); have hz1_1 : w.heap.size + 1 < w1.heap.size := (by have := hb1.size; first | omega | (simp at this; omega)); have hS1 : w1.cell? ⟨w.heap.size, 0, none⟩ = some (.int .i64 s) ∧ w1.cell? ⟨w.heap.size, 1, none⟩ = some (.int .i64 u) ∧ w1.cell? ⟨w.heap.size + 1, 0, none⟩ = some (.int .i64 s') ∧ w1.cell? ⟨w.heap.size + 1, 1, none⟩ = some (.int .i64 u') ∧ w1.cell? ⟨b, off + k, none⟩ = some (.int .i64 z) := ⟨(hb1.cell (p := ⟨w.heap.size, 0, none⟩) (by go_size)).trans (by first | assumption | (simp [go_sem]; done) | simp [*, go_sem]), (hb1.cell (p := ⟨w.heap.size, 1, none⟩) (by go_size)).trans (by first | assumption | (simp [go_sem]; done) | simp [*, go_sem]), (hb1.cell (p := ⟨w.heap.size + 1, 0, none⟩) (by go_size)).trans (by first | assumption | (simp [go_sem]; done) | simp [*, go_sem]), (hb1.cell (p := ⟨w.heap.size + 1, 1, none⟩) (by go_size)).trans (by first | assumption | (simp [go_sem]; done) | simp [*, go_sem]), (hb1.cell (p := ⟨b, off + k, none⟩) (by go_size)).trans (by first | assumption | (simp [go_sem]; done) | simp [*, go_sem])⟩; have hy1 : w.heap.size ≤ w1.heap.size := (by have := hb1.size; first | omega | (simp at this; omega)); have hB1 : Below w.heap.size w w1 := Below.trans (by go_grown) (hb1.mono (by go_size)))
            | (go_at_call 25; (with_reducible refine (SelectServer_spec s' u' z hs' hzk _).mono ?_); rw [← HM2.out]; rintro e w2 ⟨rfl, hb2⟩; have hz2_0 : w.heap.size < w2.heap.size := (by have := hb2.size; first | omega | (simp at this; omega)); have hz2_1 : w.heap.size + 1 < w2.heap.size := (by have := hb2.size; first | omega | (simp at this; omega)); have hS2 : w2.cell? ⟨w.heap.size, 0, none⟩ = some (.int .i64 s) ∧ w2.cell? ⟨w.heap.size, 1, none⟩ = some (.int .i64 u) ∧ w2.cell? ⟨w.heap.size + 1, 0, none⟩ = some (.int .i64 s') ∧ w2.cell? ⟨w.heap.size + 1, 1, none⟩ = some (.int .i64 u') ∧ w2.cell? ⟨b, off + k, none⟩ = some (.int .i64 z) := ⟨(hb2.cell (p := ⟨w.heap.size, 0, none⟩) (by go_size)).trans (by first | assumption | (simp [go_sem]; done) | simp [*, go_sem]), (hb2.cell (p := ⟨w.heap.size, 1, none⟩) (by go_size)).trans (by first | assumption | (simp [go_sem]; done) | simp [*, go_sem]), (hb2.cell (p := ⟨w.heap.size + 1, 0, none⟩) (by go_size)).trans (by first | assumption | (simp [go_sem]; done) | simp [*, go_sem]), (hb2.cell (p := ⟨w.heap.size + 1, 1, none⟩) (by go_size)).trans (by first | assumption | (simp [go_sem]; done) | simp [*, go_sem]), (hb2.cell (p := ⟨b, off + k, none⟩) (by go_size)).trans (by first | assumption | (simp [go_sem]; done) | simp [*, go_sem])⟩; have hy2 : w.heap.size ≤ w2.heap.size := (by have := hb2.size; first | omega | (simp at this; omega)); have hB2 : Below w.heap.size w w2 := Below.trans (by go_grown) (hb2.mono (by go_size))))
        go_wp2
        go_roundw
        case rel => exact ⟨k + 1, by omega, by go_num, by rw [HS.out]; exact own_below (own_below own.drew hb1) hb2, ⟨hS2.1, hS2.2.1, hS2.2.2.1, hS2.2.2.2.1⟩, by omega, by go_grown⟩
        case measure => simp [intOf]; omega
      · have hmb : (m != m2) = true := by simp [bne, hmm]
        have HS := Lib.hid (show moved s u s' u' (zs.take (k + 1)) = L ++ [z] by rw [hL, hze]; exact moved_yes (by omega) (by rw [← hze, movedB, ← hm, ← hm2]; exact hmb))
        clear hL hm hm2 hmm hze hc hcellw hr hz hlen
        go_wp2_with fail
        go_region_held3 (fun w' => w'.cell? ⟨w.heap.size, 0, none⟩ = some (.int .i64 s) ∧ w'.cell? ⟨w.heap.size, 1, none⟩ = some (.int .i64 u) ∧ w'.cell? ⟨w.heap.size + 1, 0, none⟩ = some (.int .i64 s') ∧ w'.cell? ⟨w.heap.size + 1, 1, none⟩ = some (.int .i64 u') ∧ w'.cell? ⟨b, off + k, none⟩ = some (.int .i64 z)) (first | assumption | (refine ⟨?_, ?_, ?_, ?_, ?_⟩ <;> assumption) | (simp [*, go_sem]; done))
          (first
            | (go_at_call 25; (with_reducible refine (SelectServer_spec s u z hs hzk _).mono ?_); rw [← HM.out]; rintro e w1 ⟨rfl, hb1⟩; have hz1_0 : w.heap.size < w1.heap.size := (by have := hb1.size; first | omega | (simp at this; omega)); have hz1_1 : w.heap.size + 1 < w1.heap.size := (by have := hb1.size; first | omega | (simp at this; omega)); have hS1 : w1.cell? ⟨w.heap.size, 0, none⟩ = some (.int .i64 s) ∧ w1.cell? ⟨w.heap.size, 1, none⟩ = some (.int .i64 u) ∧ w1.cell? ⟨w.heap.size + 1, 0, none⟩ = some (.int .i64 s') ∧ w1.cell? ⟨w.heap.size + 1, 1, none⟩ = some (.int .i64 u') ∧ w1.cell? ⟨b, off + k, none⟩ = some (.int .i64 z) := ⟨(hb1.cell (p := ⟨w.heap.size, 0, none⟩) (by go_size)).trans (by first | assumption | (simp [go_sem]; done) | simp [*, go_sem]), (hb1.cell (p := ⟨w.heap.size, 1, none⟩) (by go_size)).trans (by first | assumption | (simp [go_sem]; done) | simp [*, go_sem]), (hb1.cell (p := ⟨w.heap.size + 1, 0, none⟩) (by go_size)).trans (by first | assumption | (simp [go_sem]; done) | simp [*, go_sem]), (hb1.cell (p := ⟨w.heap.size + 1, 1, none⟩) (by go_size)).trans (by first | assumption | (simp [go_sem]; done) | simp [*, go_sem]), (hb1.cell (p := ⟨b, off + k, none⟩) (by go_size)).trans (by first | assumption | (simp [go_sem]; done) | simp [*, go_sem])⟩; have hy1 : w.heap.size ≤ w1.heap.size := (by have := hb1.size; first | omega | (simp at this; omega)); have hB1 : Below w.heap.size w w1 := Below.trans (by go_grown) (hb1.mono (by go_size)))
            | (go_at_call 25; (with_reducible refine (SelectServer_spec s' u' z hs' hzk _).mono ?_); rw [← HM2.out]; rintro e w2 ⟨rfl, hb2⟩; have hz2_0 : w.heap.size < w2.heap.size := (by have := hb2.size; first | omega | (simp at this; omega)); have hz2_1 : w.heap.size + 1 < w2.heap.size := (by have := hb2.size; first | omega | (simp at this; omega)); have hS2 : w2.cell? ⟨w.heap.size, 0, none⟩ = some (.int .i64 s) ∧ w2.cell? ⟨w.heap.size, 1, none⟩ = some (.int .i64 u) ∧ w2.cell? ⟨w.heap.size + 1, 0, none⟩ = some (.int .i64 s') ∧ w2.cell? ⟨w.heap.size + 1, 1, none⟩ = some (.int .i64 u') ∧ w2.cell? ⟨b, off + k, none⟩ = some (.int .i64 z) := ⟨(hb2.cell (p := ⟨w.heap.size, 0, none⟩) (by go_size)).trans (by first | assumption | (simp [go_sem]; done) | simp [*, go_sem]), (hb2.cell (p := ⟨w.heap.size, 1, none⟩) (by go_size)).trans (by first | assumption | (simp [go_sem]; done) | simp [*, go_sem]), (hb2.cell (p := ⟨w.heap.size + 1, 0, none⟩) (by go_size)).trans (by first | assumption | (simp [go_sem]; done) | simp [*, go_sem]), (hb2.cell (p := ⟨w.heap.size + 1, 1, none⟩) (by go_size)).trans (by first | assumption | (simp [go_sem]; done) | simp [*, go_sem]), (hb2.cell (p := ⟨b, off + k, none⟩) (by go_size)).trans (by first | assumption | (simp [go_sem]; done) | simp [*, go_sem])⟩; have hy2 : w.heap.size ≤ w2.heap.size := (by have := hb2.size; first | omega | (simp at this; omega)); have hB2 : Below w.heap.size w w2 := Below.trans (by go_grown) (hb2.mono (by go_size))))
        have own2 := own_below (own_below own.drew hb1) hb2
        go_wp2_with (at_builtin; refine wpList_append_rd rfl (.tmp 29) (.tmp 34) 39 rfl elInt (w.heap.size + 2) _ L.length _ rfl (own2.alloc _) (w2.heap.size + 1) _ 1 1 [.int .i64 z] rfl (Rd.one w2 (.int .i64 z) 3) (ints_one .i64 [z]) (by omega) (by omega) (by simp; omega) ?_; intro v3 w3 own3 grow3 at3)
        go_roundw
        case rel => exact ⟨k + 1, by omega, by go_num, by rw [HS.out]; simpa using own3, ⟨(grow_far grow3 own2 hz2_0).trans hS2.1, (grow_far grow3 own2 hz2_0).trans hS2.2.1, (grow_far grow3 own2 hz2_1).trans hS2.2.2.1, (grow_far grow3 own2 hz2_1).trans hS2.2.2.2.1⟩, by have := grow3.size; simp at this; omega, (hB2.alloc (by omega) _).grown grow3 (by simp; omega) (fun j h => by have := (own2.lt j h).1; omega)⟩
        case measure => simp [intOf]; omega
    · obtain rfl : k = n := by omega
      have HS := Lib.hid (show moved s u s' u' (zs.take k) = moved s u s' u' zs by rw [List.take_of_length_le (by omega)])
      clear hlen
      go_wp2
      go_ret
      exact ⟨_, rfl, by rw [← HS.out]; exact own_base own (by omega), hBr⟩
end Go.Proofs.Ytidefcakodnffaa
