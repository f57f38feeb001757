/-
  The walk of the law FnServerSelection: the law's text returns true.
-/
import Derived.Test.YtidefcakodnffaaPool8
import Derived.Test.YtidefcakodnffaaPool5
import Derived.Test.YtidefcakodnffaaTypes
import Derived.Handy
import Derived.Deep.RegionHeld3
import Derived.Deep.AppendLies
namespace Go.Proofs.Ytidefcakodnffaa
open Go.RowKit

theorem fmtP_size {s u : Int} (h : vpool s u = true) : ((fmtP s u).size : Int) = s := by
  obtain ⟨v1, _⟩ := vpool_bd h
  simp only [fmtP, h, if_true, fmtB_size]
  omega
theorem backup_zero {s z : Int} (h : vpool s 0 = true) : backup s 0 z = -1 := by
  have e : inR (-1) 0 (s - 1) = false := inR_false (by omega)
  unfold backup
  rw [select_zero h]
  simp only [setU, e, Bool.and_false]
  exact select_zero h
set_option maxRecDepth 100000 in
set_option maxHeartbeats 12000000 in
theorem walkFnServerSelection (v0 : Value) (W : World) (i0 : InBytes37 W W.heap.size v0) : Calls Try.prog 10 #[v0] W (Tr W) := by
  obtain ⟨A, n, c, zs, rfl, hnc, hcm, RA, hwf⟩ := i0
  have hz : ∀ z ∈ zs, 0 ≤ z ∧ z ≤ 255 := fun z h => bounds_u8 (hwf z h)
  have HZ := Lib.hid hz
  clear hz hwf
  unfold maxLen at hcm
  by_cases hn : n ≤ 1048576
  · go_enter Try.func10, Try.ntmps10
    go_wp2_with fail
    refine (big_no _ _ _ _ hn).mono ?_
    rintro e w' ⟨rfl, rfl⟩
    go_wp2_with fail
    refine (DrawPool A n c zs _ hn RA HZ.out).mono ?_
    rintro e w1 ⟨s, u, v, ks, rfl, hv, own, hkl, hkb, hb1⟩
    have Tw1 : Below W.heap.size W w1 := Below.trans (by go_grown) (hb1.mono (by go_size))
    have Zw1 := Tw1.size
    replace RA := rd_below RA Tw1 (by omega)
    have BW : Below W.heap.size W w1 := Tw1
    obtain ⟨P, hP⟩ : ∃ P, P = w1.heap.size := ⟨_, rfl⟩
    obtain ⟨wp, hwp⟩ : ∃ wp, wp = w1.alloc (.cells #[.int .i64 s, .int .i64 u] 25) := ⟨_, rfl⟩
    have hzp : wp.heap.size = P + 1 := by rw [hwp, hP]; simp
    have c0 : wp.cell? ⟨P, 0, none⟩ = some (.int .i64 s) := by rw [hwp, hP]; simp [go_sem]
    have c1 : wp.cell? ⟨P, 1, none⟩ = some (.int .i64 u) := by rw [hwp, hP]; simp [go_sem]
    have own1 : wp.ownsRow W.heap.size 3 1 v ks.length (ks.map (Value.int .i64)) := by rw [hwp]; exact own.alloc _
    have RB : Rd wp W.heap.size A n (zs.map (Value.int .u8)) := by rw [hwp]; exact RA.keep fun b hb => Below.heap_alloc _ _ _ (by omega)
    have BP : Below W.heap.size W wp := by rw [hwp]; exact BW.alloc (by omega) _
    have hPW : W.heap.size ≤ P := by omega
    have HVB := Lib.hid (show ∀ k, v.ownBlock = some k → k < P from fun k h => by rw [hP]; exact (own.lt k h).2)
    go_wp2_with fail
    rw [← hwp, ← hP]
    have HP := Lib.hid hzp
    clear hwp hP own RA BW Tw1 Zw1 hb1 hzp
    refine (at_any A n c zs 0 _ W.heap.size hn (by omega) (by omega) RB HZ.out).mono ?_
    rintro e w' ⟨x, rfl, hx0, hx1, rfl⟩
    have hps := Nat.le_of_eq HP.out.symm
    go_wp2_with (at_builtin; refine wpList_append_rd rfl (.tmp 16) (.tmp 19) 39 rfl elInt W.heap.size _ ks.length _ rfl (own1.alloc _) (wp.heap.size + 1) _ 1 1 [.int .i64 x] rfl (Rd.one wp (.int .i64 x) 3) (ints_one .i64 [x]) (by omega) (by omega) (by simp; omega) ?_; intro v3 w3 own3 grow3 at3)
    obtain ⟨g, cap, hv3, hcap⟩ := own3.form (by omega)
    subst hv3
    obtain ⟨K, hK⟩ : ∃ K, K = ks ++ [x] := ⟨_, rfl⟩
    obtain ⟨m, hm⟩ : ∃ m, m = ks.length + 1 := ⟨_, rfl⟩
    have hKl : K.length = m := by rw [hK, hm]; simp
    have HKI := Lib.hid (show ∀ z ∈ K, I64 z by
      intro z h
      rw [hK] at h
      rcases List.mem_append.1 h with h | h
      · have := hkb z h; exact ⟨by omega, by omega⟩
      · rw [List.mem_singleton.1 h]; exact ⟨by omega, by omega⟩)
    have HKL := Lib.hid hKl
    have hm8 : m ≤ 8 := by omega
    have own4 : w3.ownsRow W.heap.size 3 1 (.slice (some ⟨g, 0, none⟩) m cap) m (K.map (Value.int .i64)) := by rw [hm, hK]; simpa using own3
    rw [← hm]
    have d0 : w3.cell? ⟨P, 0, none⟩ = some (.int .i64 s) := (grow3.cell_far ⟨P, 0, none⟩ (by simp; omega) (fun h => by have := HVB.out P h.symm; omega)).trans ((World.cell?_alloc_lt _ _ _ (by simp; omega)).trans c0)
    have d1 : w3.cell? ⟨P, 1, none⟩ = some (.int .i64 u) := (grow3.cell_far ⟨P, 1, none⟩ (by simp; omega) (fun h => by have := HVB.out P h.symm; omega)).trans ((World.cell?_alloc_lt _ _ _ (by simp; omega)).trans c1)
    have B3 : Below W.heap.size W w3 := (BP.alloc (by omega) _).grown grow3 (by simp; omega) (fun k h => (own1.lt k h).1)
    have hP3 : P < w3.heap.size := by have := grow3.size; simp at this; omega
    obtain ⟨v1, v2, v3, v4⟩ := vpool_bd hv
    have hsi : I64 s := ⟨by omega, by omega⟩
    clear hm hK hKl c0 c1 BP hps own3 grow3 at3 own1 hcap hkb HVB RB HP
    go_loopw [5] (fun v5 wr => ∃ k : Nat, k ≤ m ∧ v5 = .int .i64 k ∧ wr.cell? ⟨P, 0, none⟩ = some (.int .i64 s) ∧ wr.cell? ⟨P, 1, none⟩ = some (.int .i64 u) ∧ wr.ownsRow W.heap.size 3 1 (.slice (some ⟨g, 0, none⟩) m cap) m (K.map (Value.int .i64)) ∧ P < wr.heap.size ∧ Below W.heap.size W wr) (fun v5 _ => m - (intOf v5).toNat)
    case atStart => exact ⟨0, Nat.zero_le _, rfl, d0, d1, own4, hP3, B3⟩
    case round =>
      clear d0 d1 own4 B3 hP3
      obtain ⟨k, hkm, rfl, c0, c1, own, hPr, BW⟩ := hrel
      by_cases hlt : k < m
      · obtain ⟨z, hz⟩ : ∃ z, z = K[k]'(by have := HKL.out; omega) := ⟨_, rfl⟩
        have hkc : wr.cell? ⟨g, k, none⟩ = some (.int .i64 z) := by rw [own.cellAt k (by omega), hz]; simp [show k < K.length by have := HKL.out; omega]
        have hzi : I64 z := by rw [hz]; exact HKI.out _ (List.getElem_mem _)
        have hgl := block_lt_of_cell hkc
        simp only at hgl
        have hi0 : (0 : Int) ≤ (k : Int) := by omega
        have hi1 : (k : Int) < (m : Int) := by omega
        clear hz
        by_cases hu0 : u = 0
        · subst hu0
          have HQ := Lib.hid (show (-1 : Int) = select s 0 z from (select_zero hv).symm)
          have HB := Lib.hid (show (-1 : Int) = backup s 0 z from (backup_zero hv).symm)
          go_wp2_with fail
          go_region_held3 (fun w' => w'.cell? ⟨P, 0, none⟩ = some (.int .i64 s) ∧ w'.cell? ⟨P, 1, none⟩ = some (.int .i64 0) ∧ w'.cell? ⟨g, k, none⟩ = some (.int .i64 z)) (first | assumption | (refine ⟨?_, ?_, ?_⟩ <;> assumption) | (simp [*, go_sem]; done) | (simp [*, go_sem, World.cell?_alloc_past]; done))
            (first
              | (go_at_call 26; (with_reducible refine (SelectServer_impl s 0 z hsi hzi _).mono ?_); rw [← HQ.out]; rintro e w11 ⟨rfl, hb11⟩; have hz11_0 : P < w11.heap.size := (by have := hb11.size; first | omega | (simp at this; omega)); have hz11_1 : g < w11.heap.size := (by have := hb11.size; first | omega | (simp at this; omega)); have hS11 : w11.cell? ⟨P, 0, none⟩ = some (.int .i64 s) ∧ w11.cell? ⟨P, 1, none⟩ = some (.int .i64 0) ∧ w11.cell? ⟨g, k, none⟩ = some (.int .i64 z) := ⟨(hb11.cell (p := ⟨P, 0, none⟩) (by go_size)).trans (by first | assumption | (simp [go_sem]; done) | (simp [*, go_sem]; done) | simp [*, go_sem, World.cell?_alloc_past]), (hb11.cell (p := ⟨P, 1, none⟩) (by go_size)).trans (by first | assumption | (simp [go_sem]; done) | (simp [*, go_sem]; done) | simp [*, go_sem, World.cell?_alloc_past]), (hb11.cell (p := ⟨g, k, none⟩) (by go_size)).trans (by first | assumption | (simp [go_sem]; done) | (simp [*, go_sem]; done) | simp [*, go_sem, World.cell?_alloc_past])⟩; have hy11 : wr.heap.size ≤ w11.heap.size := (by have := hb11.size; first | omega | (simp at this; omega)); have hT11 : Below wr.heap.size wr w11 := Below.trans (by go_grown) (hb11.mono (by go_size))))
          have Tw11 : Below wr.heap.size wr w11 := Below.trans (by go_grown) (hb11.mono (by go_size))
          have Zw11 := Tw11.size
          replace c0 := cell_below c0 Tw11
          replace c1 := cell_below c1 Tw11
          replace own := own_below own Tw11
          replace hkc := cell_below hkc Tw11
          replace BW := Below.trans BW (Tw11.mono (by omega))
          go_wp2_with fail
          go_region_held3 (fun w' => w'.cell? ⟨P, 0, none⟩ = some (.int .i64 s) ∧ w'.cell? ⟨P, 1, none⟩ = some (.int .i64 0) ∧ w'.cell? ⟨g, k, none⟩ = some (.int .i64 z)) (first | assumption | (refine ⟨?_, ?_, ?_⟩ <;> assumption) | (simp [*, go_sem]; done) | (simp [*, go_sem, World.cell?_alloc_past]; done))
            (first
              | (go_at_call 28; (with_reducible refine (BackupServer_impl s 0 z hsi hzi _).mono ?_); rw [← HB.out]; rintro e w12 ⟨rfl, hb12⟩; have hz12_0 : P < w12.heap.size := (by have := hb12.size; first | omega | (simp at this; omega)); have hz12_1 : g < w12.heap.size := (by have := hb12.size; first | omega | (simp at this; omega)); have hS12 : w12.cell? ⟨P, 0, none⟩ = some (.int .i64 s) ∧ w12.cell? ⟨P, 1, none⟩ = some (.int .i64 0) ∧ w12.cell? ⟨g, k, none⟩ = some (.int .i64 z) := ⟨(hb12.cell (p := ⟨P, 0, none⟩) (by go_size)).trans (by first | assumption | (simp [go_sem]; done) | (simp [*, go_sem]; done) | simp [*, go_sem, World.cell?_alloc_past]), (hb12.cell (p := ⟨P, 1, none⟩) (by go_size)).trans (by first | assumption | (simp [go_sem]; done) | (simp [*, go_sem]; done) | simp [*, go_sem, World.cell?_alloc_past]), (hb12.cell (p := ⟨g, k, none⟩) (by go_size)).trans (by first | assumption | (simp [go_sem]; done) | (simp [*, go_sem]; done) | simp [*, go_sem, World.cell?_alloc_past])⟩; have hy12 : w11.heap.size ≤ w12.heap.size := (by have := hb12.size; first | omega | (simp at this; omega)); have hT12 : Below w11.heap.size w11 w12 := Below.trans (by go_grown) (hb12.mono (by go_size))))
          have Tw12 : Below w11.heap.size w11 w12 := Below.trans (by go_grown) (hb12.mono (by go_size))
          have Zw12 := Tw12.size
          replace c0 := cell_below c0 Tw12
          replace c1 := cell_below c1 Tw12
          replace own := own_below own Tw12
          replace hkc := cell_below hkc Tw12
          replace BW := Below.trans BW (Tw12.mono (by omega))
          go_wp2
          go_roundw
          case rel => exact ⟨k + 1, by omega, by go_num, c0, c1, own, by omega, BW⟩
          case measure => simp [intOf]; omega
        · obtain ⟨bb, hBest, hsel⟩ := select_up (key := z) hv hu0
          have HQ := Lib.hid hsel.symm
          obtain ⟨hb1, hup, hmax, _⟩ := hBest
          have HMAX := Lib.hid hmax
          have hbi : I64 (bb : Int) := ⟨by omega, by omega⟩
          obtain ⟨u2, hu2⟩ : ∃ u2, u2 = setU s u bb false := ⟨_, rfl⟩
          obtain ⟨b, hb⟩ : ∃ b, b = backup s u z := ⟨_, rfl⟩
          have hb2 : b = select s u2 z := by rw [hb, hu2, backup, hsel]
          have hbne : b ≠ bb := by rw [hb2, hu2]; exact (select_out hv (by omega)).1
          have hbne1 : (b == (bb : Int)) = false := by simpa using hbne
          have hbne2 : (b != b) = false := by simp
          have HB := Lib.hid hb
          have HB2 := Lib.hid hb2
          have HU := Lib.hid hu2
          have hu0' : (u == 0) = false := by simpa using hu0
          clear hmax hsel hb hb2 hu2 hbne
          go_wp2_with fail
          go_region_held3 (fun w' => w'.cell? ⟨P, 0, none⟩ = some (.int .i64 s) ∧ w'.cell? ⟨P, 1, none⟩ = some (.int .i64 u) ∧ w'.cell? ⟨g, k, none⟩ = some (.int .i64 z)) (first | assumption | (refine ⟨?_, ?_, ?_⟩ <;> assumption) | (simp [*, go_sem]; done) | (simp [*, go_sem, World.cell?_alloc_past]; done))
            (first
              | (go_at_call 26; (with_reducible refine (SelectServer_impl s u z hsi hzi _).mono ?_); rw [← HQ.out]; rintro e w11 ⟨rfl, hb11⟩; have hz11_0 : P < w11.heap.size := (by have := hb11.size; first | omega | (simp at this; omega)); have hz11_1 : g < w11.heap.size := (by have := hb11.size; first | omega | (simp at this; omega)); have hS11 : w11.cell? ⟨P, 0, none⟩ = some (.int .i64 s) ∧ w11.cell? ⟨P, 1, none⟩ = some (.int .i64 u) ∧ w11.cell? ⟨g, k, none⟩ = some (.int .i64 z) := ⟨(hb11.cell (p := ⟨P, 0, none⟩) (by go_size)).trans (by first | assumption | (simp [go_sem]; done) | (simp [*, go_sem]; done) | simp [*, go_sem, World.cell?_alloc_past]), (hb11.cell (p := ⟨P, 1, none⟩) (by go_size)).trans (by first | assumption | (simp [go_sem]; done) | (simp [*, go_sem]; done) | simp [*, go_sem, World.cell?_alloc_past]), (hb11.cell (p := ⟨g, k, none⟩) (by go_size)).trans (by first | assumption | (simp [go_sem]; done) | (simp [*, go_sem]; done) | simp [*, go_sem, World.cell?_alloc_past])⟩; have hy11 : wr.heap.size ≤ w11.heap.size := (by have := hb11.size; first | omega | (simp at this; omega)); have hT11 : Below wr.heap.size wr w11 := Below.trans (by go_grown) (hb11.mono (by go_size))))
          have Tw11 : Below wr.heap.size wr w11 := Below.trans (by go_grown) (hb11.mono (by go_size))
          have Zw11 := Tw11.size
          replace c0 := cell_below c0 Tw11
          replace c1 := cell_below c1 Tw11
          replace own := own_below own Tw11
          replace hkc := cell_below hkc Tw11
          replace BW := Below.trans BW (Tw11.mono (by omega))
          go_wp2_with fail
          go_region_held3 (fun w' => w'.cell? ⟨P, 0, none⟩ = some (.int .i64 s) ∧ w'.cell? ⟨P, 1, none⟩ = some (.int .i64 u) ∧ w'.cell? ⟨g, k, none⟩ = some (.int .i64 z)) (first | assumption | (refine ⟨?_, ?_, ?_⟩ <;> assumption) | (simp [*, go_sem]; done) | (simp [*, go_sem, World.cell?_alloc_past]; done))
            (first
              | (go_at_call 28; (with_reducible refine (BackupServer_impl s u z hsi hzi _).mono ?_); rw [← HB.out]; rintro e w12 ⟨rfl, hb12⟩; have hz12_0 : P < w12.heap.size := (by have := hb12.size; first | omega | (simp at this; omega)); have hz12_1 : g < w12.heap.size := (by have := hb12.size; first | omega | (simp at this; omega)); have hS12 : w12.cell? ⟨P, 0, none⟩ = some (.int .i64 s) ∧ w12.cell? ⟨P, 1, none⟩ = some (.int .i64 u) ∧ w12.cell? ⟨g, k, none⟩ = some (.int .i64 z) := ⟨(hb12.cell (p := ⟨P, 0, none⟩) (by go_size)).trans (by first | assumption | (simp [go_sem]; done) | (simp [*, go_sem]; done) | simp [*, go_sem, World.cell?_alloc_past]), (hb12.cell (p := ⟨P, 1, none⟩) (by go_size)).trans (by first | assumption | (simp [go_sem]; done) | (simp [*, go_sem]; done) | simp [*, go_sem, World.cell?_alloc_past]), (hb12.cell (p := ⟨g, k, none⟩) (by go_size)).trans (by first | assumption | (simp [go_sem]; done) | (simp [*, go_sem]; done) | simp [*, go_sem, World.cell?_alloc_past])⟩; have hy12 : w11.heap.size ≤ w12.heap.size := (by have := hb12.size; first | omega | (simp at this; omega)); have hT12 : Below w11.heap.size w11 w12 := Below.trans (by go_grown) (hb12.mono (by go_size))))
          have Tw12 : Below w11.heap.size w11 w12 := Below.trans (by go_grown) (hb12.mono (by go_size))
          have Zw12 := Tw12.size
          replace c0 := cell_below c0 Tw12
          replace c1 := cell_below c1 Tw12
          replace own := own_below own Tw12
          replace hkc := cell_below hkc Tw12
          replace BW := Below.trans BW (Tw12.mono (by omega))
          go_wp2_with fail
          go_region_held3 (fun w' => w'.cell? ⟨P, 0, none⟩ = some (.int .i64 s) ∧ w'.cell? ⟨P, 1, none⟩ = some (.int .i64 u) ∧ w'.cell? ⟨g, k, none⟩ = some (.int .i64 z)) (first | assumption | (refine ⟨?_, ?_, ?_⟩ <;> assumption) | (simp [*, go_sem]; done) | (simp [*, go_sem, World.cell?_alloc_past]; done))
            (first
              | (go_at_call 17; (with_reducible refine (IsServerUp_impl s u bb hsi hbi _).mono ?_); rintro e w13 ⟨rfl, hb13⟩; have hz13_0 : P < w13.heap.size := (by have := hb13.size; first | omega | (simp at this; omega)); have hz13_1 : g < w13.heap.size := (by have := hb13.size; first | omega | (simp at this; omega)); have hS13 : w13.cell? ⟨P, 0, none⟩ = some (.int .i64 s) ∧ w13.cell? ⟨P, 1, none⟩ = some (.int .i64 u) ∧ w13.cell? ⟨g, k, none⟩ = some (.int .i64 z) := ⟨(hb13.cell (p := ⟨P, 0, none⟩) (by go_size)).trans (by first | assumption | (simp [go_sem]; done) | (simp [*, go_sem]; done) | simp [*, go_sem, World.cell?_alloc_past]), (hb13.cell (p := ⟨P, 1, none⟩) (by go_size)).trans (by first | assumption | (simp [go_sem]; done) | (simp [*, go_sem]; done) | simp [*, go_sem, World.cell?_alloc_past]), (hb13.cell (p := ⟨g, k, none⟩) (by go_size)).trans (by first | assumption | (simp [go_sem]; done) | (simp [*, go_sem]; done) | simp [*, go_sem, World.cell?_alloc_past])⟩; have hy13 : w12.heap.size ≤ w13.heap.size := (by have := hb13.size; first | omega | (simp at this; omega)); have hT13 : Below w12.heap.size w12 w13 := Below.trans (by go_grown) (hb13.mono (by go_size)))
              | (go_at_call 23; (with_reducible refine (SetServerUp_impl s u bb false hsi hbi _).mono ?_); rw [← HU.out]; rintro e w14 ⟨rfl, hb14⟩; have hz14_0 : P < w14.heap.size := (by have := hb14.size; first | omega | (simp at this; omega)); have hz14_1 : g < w14.heap.size := (by have := hb14.size; first | omega | (simp at this; omega)); have hS14 : w14.cell? ⟨P, 0, none⟩ = some (.int .i64 s) ∧ w14.cell? ⟨P, 1, none⟩ = some (.int .i64 u) ∧ w14.cell? ⟨g, k, none⟩ = some (.int .i64 z) := ⟨(hb14.cell (p := ⟨P, 0, none⟩) (by go_size)).trans (by first | assumption | (simp [go_sem]; done) | (simp [*, go_sem]; done) | simp [*, go_sem, World.cell?_alloc_past]), (hb14.cell (p := ⟨P, 1, none⟩) (by go_size)).trans (by first | assumption | (simp [go_sem]; done) | (simp [*, go_sem]; done) | simp [*, go_sem, World.cell?_alloc_past]), (hb14.cell (p := ⟨g, k, none⟩) (by go_size)).trans (by first | assumption | (simp [go_sem]; done) | (simp [*, go_sem]; done) | simp [*, go_sem, World.cell?_alloc_past])⟩; have hy14 : w12.heap.size ≤ w14.heap.size := (by have := hb14.size; first | omega | (simp at this; omega)); have hT14 : Below w12.heap.size w12 w14 := Below.trans (by go_grown) (hb14.mono (by go_size)))
              | (go_at_call 26; (with_reducible refine (SelectServer_impl s u2 z hsi hzi _).mono ?_); rw [← HB2.out]; rintro e w15 ⟨rfl, hb15⟩; have hz15_0 : P < w15.heap.size := (by have := hb15.size; first | omega | (simp at this; omega)); have hz15_1 : g < w15.heap.size := (by have := hb15.size; first | omega | (simp at this; omega)); have hS15 : w15.cell? ⟨P, 0, none⟩ = some (.int .i64 s) ∧ w15.cell? ⟨P, 1, none⟩ = some (.int .i64 u) ∧ w15.cell? ⟨g, k, none⟩ = some (.int .i64 z) := ⟨(hb15.cell (p := ⟨P, 0, none⟩) (by go_size)).trans (by first | assumption | (simp [go_sem]; done) | (simp [*, go_sem]; done) | simp [*, go_sem, World.cell?_alloc_past]), (hb15.cell (p := ⟨P, 1, none⟩) (by go_size)).trans (by first | assumption | (simp [go_sem]; done) | (simp [*, go_sem]; done) | simp [*, go_sem, World.cell?_alloc_past]), (hb15.cell (p := ⟨g, k, none⟩) (by go_size)).trans (by first | assumption | (simp [go_sem]; done) | (simp [*, go_sem]; done) | simp [*, go_sem, World.cell?_alloc_past])⟩; have hy15 : w12.heap.size ≤ w15.heap.size := (by have := hb15.size; first | omega | (simp at this; omega)); have hT15 : Below w12.heap.size w12 w15 := Below.trans (by go_grown) (hb15.mono (by go_size))))
          have Tw13 : Below w12.heap.size w12 w13 := Below.trans (by go_grown) (hb13.mono (by go_size))
          have Zw13 := Tw13.size
          replace c0 := cell_below c0 Tw13
          replace c1 := cell_below c1 Tw13
          replace own := own_below own Tw13
          replace hkc := cell_below hkc Tw13
          replace BW := Below.trans BW (Tw13.mono (by omega))
          have Tw14 : Below w13.heap.size w13 w14 := Below.trans (by go_grown) (hb14.mono (by go_size))
          have Zw14 := Tw14.size
          replace c0 := cell_below c0 Tw14
          replace c1 := cell_below c1 Tw14
          replace own := own_below own Tw14
          replace hkc := cell_below hkc Tw14
          replace BW := Below.trans BW (Tw14.mono (by omega))
          have Tw15 : Below w14.heap.size w14 w15 := Below.trans (by go_grown) (hb15.mono (by go_size))
          have Zw15 := Tw15.size
          replace c0 := cell_below c0 Tw15
          replace c1 := cell_below c1 Tw15
          replace own := own_below own Tw15
          replace hkc := cell_below hkc Tw15
          replace BW := Below.trans BW (Tw15.mono (by omega))
          go_wp2_with fail
          go_loopw [8] (fun v8 wr => ∃ j : Nat, j ≤ s.toNat ∧ v8 = .int .i64 j ∧ wr.cell? ⟨P, 0, none⟩ = some (.int .i64 s) ∧ wr.cell? ⟨P, 1, none⟩ = some (.int .i64 u) ∧ wr.ownsRow W.heap.size 3 1 (.slice (some ⟨g, 0, none⟩) m cap) m (K.map (Value.int .i64)) ∧ wr.cell? ⟨g, k, none⟩ = some (.int .i64 z) ∧ P < wr.heap.size ∧ g < wr.heap.size ∧ Below W.heap.size W wr) (fun v8 _ => s.toNat - (intOf v8).toNat)
          case atStart => exact ⟨0, Nat.zero_le _, rfl, c0, c1, own, hkc, by omega, by omega, BW⟩
          case round =>
            clear c0 c1 own hkc BW
            obtain ⟨j, hjs, rfl, c0, c1, own, hkc, hPr2, hgl2, BW⟩ := hrel
            by_cases hjl : j < s.toNat
            · have hj1 : (j : Int) < s := by omega
              have hji : I64 (j : Int) := ⟨by omega, by omega⟩
              cases hU : upB s u j
              · skip
                go_wp2_with fail
                refine wp_region_held_drew (S := (fun w' => w'.cell? ⟨P, 0, none⟩ = some (.int .i64 s) ∧ w'.cell? ⟨P, 1, none⟩ = some (.int .i64 u) ∧ w'.cell? ⟨g, k, none⟩ = some (.int .i64 z))) (by kernel_rfl) (by (first | assumption | (refine ⟨?_, ?_, ?_⟩ <;> assumption) | (simp [*, go_sem]; done) | (simp [*, go_sem, World.cell?_alloc_past]; done))) (fun hHeld => ?_)
                refine wpAnyH_take (i := 0) (v := ?_) rfl (by kernel_rfl) (by kernel_rfl) (by kernel_rfl) (fun _ _ _ h => h) (Or.inl ⟨by rfl, by intro w hSw; (try dsimp only at hSw); go_simp <;> with_reducible rfl⟩) (by assumption) ?_
                try simp only [Act.put, List.setIfInBounds_toArray, List.set_cons_zero, List.set_cons_succ]
                refine wpAnyH_take (i := 1) (v := ?_) rfl (by kernel_rfl) (by kernel_rfl) (by kernel_rfl) (fun _ _ _ h => h) (Or.inl ⟨by rfl, by intro w hSw; (try dsimp only at hSw); go_simp <;> with_reducible rfl⟩) (by assumption) ?_
                try simp only [Act.put, List.setIfInBounds_toArray, List.set_cons_zero, List.set_cons_succ]
                refine wpAnyH_ready (rs := [2]) (by kernel_rfl) (by simp) ?_
                refine AllReadyH.cons rfl (fun K hK => ?_) AllReadyH.nil
                go_simp
                (with_reducible refine (IsServerUp_spec s u j hsi hji _).mono ?_)
                rw [hU]
                rintro e w21 ⟨rfl, hb21⟩
                have hz21_0 : P < w21.heap.size := (by have := hb21.size; first | omega | (simp at this; omega))
                have hz21_1 : g < w21.heap.size := (by have := hb21.size; first | omega | (simp at this; omega))
                have hS21 : w21.cell? ⟨P, 0, none⟩ = some (.int .i64 s) ∧ w21.cell? ⟨P, 1, none⟩ = some (.int .i64 u) ∧ w21.cell? ⟨g, k, none⟩ = some (.int .i64 z) := ⟨(hb21.cell (p := ⟨P, 0, none⟩) (by go_size)).trans (by first | assumption | (simp [go_sem]; done) | (simp [*, go_sem]; done) | simp [*, go_sem, World.cell?_alloc_past]), (hb21.cell (p := ⟨P, 1, none⟩) (by go_size)).trans (by first | assumption | (simp [go_sem]; done) | (simp [*, go_sem]; done) | simp [*, go_sem, World.cell?_alloc_past]), (hb21.cell (p := ⟨g, k, none⟩) (by go_size)).trans (by first | assumption | (simp [go_sem]; done) | (simp [*, go_sem]; done) | simp [*, go_sem, World.cell?_alloc_past])⟩
                have hy21 : wr.heap.size ≤ w21.heap.size := (by have := hb21.size; first | omega | (simp at this; omega))
                have hT21 : Below wr.heap.size wr w21 := Below.trans (by go_grown) (hb21.mono (by go_size))
                refine hK.out _ _ (by (first | assumption | (refine ⟨?_, ?_, ?_⟩ <;> assumption) | (simp [*, go_sem]; done) | (simp [*, go_sem, World.cell?_alloc_past]; done))) (fun hHeld => ?_)
                clear hK K
                try simp only [Act.put, List.setIfInBounds_toArray, List.set_cons_zero, List.set_cons_succ]
                refine wpAnyH_take (i := 3) (v := ?_) rfl (by kernel_rfl) (by kernel_rfl) (by kernel_rfl) (fun _ _ _ h => h) (Or.inl ⟨by rfl, by intro w hSw; (try dsimp only at hSw); go_simp <;> with_reducible rfl⟩) (by assumption) ?_
                try simp only [Act.put, List.setIfInBounds_toArray, List.set_cons_zero, List.set_cons_succ]
                refine wpAnyH_take (i := 4) rfl (by kernel_rfl) (by kernel_rfl) (by kernel_rfl) (fun _ _ _ h => h) (Or.inr ⟨by rfl, rfl⟩) (by assumption) ?_
                try simp only [Act.put, List.setIfInBounds_toArray, List.set_cons_zero, List.set_cons_succ]
                refine wpAnyH_take (i := 5) rfl (by kernel_rfl) (by kernel_rfl) (by kernel_rfl) (fun _ _ _ h => h) (Or.inr ⟨by rfl, rfl⟩) (by assumption) ?_
                try simp only [Act.put, List.setIfInBounds_toArray, List.set_cons_zero, List.set_cons_succ]
                refine wpAnyH_take (i := 6) rfl (by kernel_rfl) (by kernel_rfl) (by kernel_rfl) (fun _ _ _ h => h) (Or.inr ⟨by rfl, rfl⟩) (by assumption) ?_
                try simp only [Act.put, List.setIfInBounds_toArray, List.set_cons_zero, List.set_cons_succ]
                refine wpAnyH_take (i := 7) rfl (by kernel_rfl) (by kernel_rfl) (by kernel_rfl) (fun _ _ _ h => h) (Or.inr ⟨by rfl, rfl⟩) (by assumption) ?_
                try simp only [Act.put, List.setIfInBounds_toArray, List.set_cons_zero, List.set_cons_succ]
                refine wpAnyH_take (i := 8) rfl (by kernel_rfl) (by kernel_rfl) (by kernel_rfl) (fun _ _ _ h => h) (Or.inr ⟨by rfl, rfl⟩) (by assumption) ?_
                try simp only [Act.put, List.setIfInBounds_toArray, List.set_cons_zero, List.set_cons_succ]
                refine wpAnyH_take (i := 9) rfl (by kernel_rfl) (by kernel_rfl) (by kernel_rfl) (fun _ _ _ h => h) (Or.inr ⟨by rfl, rfl⟩) (by assumption) ?_
                try simp only [Act.put, List.setIfInBounds_toArray, List.set_cons_zero, List.set_cons_succ]
                refine wpAnyH_take (i := 10) rfl (by kernel_rfl) (by kernel_rfl) (by kernel_rfl) (fun _ _ _ h => h) (Or.inr ⟨by rfl, rfl⟩) (by assumption) ?_
                try simp only [Act.put, List.setIfInBounds_toArray, List.set_cons_zero, List.set_cons_succ]
                refine wpAnyH_take (i := 11) rfl (by kernel_rfl) (by kernel_rfl) (by kernel_rfl) (fun _ _ _ h => h) (Or.inr ⟨by rfl, rfl⟩) (by assumption) ?_
                try simp only [Act.put, List.setIfInBounds_toArray, List.set_cons_zero, List.set_cons_succ]
                refine wpAnyH_take (i := 12) rfl (by kernel_rfl) (by kernel_rfl) (by kernel_rfl) (fun _ _ _ h => h) (Or.inr ⟨by rfl, rfl⟩) (by assumption) ?_
                try simp only [Act.put, List.setIfInBounds_toArray, List.set_cons_zero, List.set_cons_succ]
                refine wpAnyH_take (i := 13) rfl (by kernel_rfl) (by kernel_rfl) (by kernel_rfl) (fun _ _ _ h => h) (Or.inr ⟨by rfl, rfl⟩) (by assumption) ?_
                try simp only [Act.put, List.setIfInBounds_toArray, List.set_cons_zero, List.set_cons_succ]
                refine wpAnyH_take (i := 14) rfl (by kernel_rfl) (by kernel_rfl) (by kernel_rfl) (fun _ _ _ h => h) (Or.inr ⟨by rfl, rfl⟩) (by assumption) ?_
                try simp only [Act.put, List.setIfInBounds_toArray, List.set_cons_zero, List.set_cons_succ]
                refine wpAnyH_take (i := 15) rfl (by kernel_rfl) (by kernel_rfl) (by kernel_rfl) (fun _ _ _ h => h) (Or.inr ⟨by rfl, rfl⟩) (by assumption) ?_
                try simp only [Act.put, List.setIfInBounds_toArray, List.set_cons_zero, List.set_cons_succ]
                refine wpAnyH_take (i := 16) rfl (by kernel_rfl) (by kernel_rfl) (by kernel_rfl) (fun _ _ _ h => h) (Or.inr ⟨by rfl, rfl⟩) (by assumption) ?_
                try simp only [Act.put, List.setIfInBounds_toArray, List.set_cons_zero, List.set_cons_succ]
                refine wpAnyH_take (i := 17) (v := ?_) rfl (by kernel_rfl) (by kernel_rfl) (by kernel_rfl) (fun _ _ _ h => h) (Or.inl ⟨by rfl, by intro w hSw; (try dsimp only at hSw); go_simp <;> with_reducible rfl⟩) (by assumption) ?_
                try simp only [Act.put, List.setIfInBounds_toArray, List.set_cons_zero, List.set_cons_succ]
                refine wpAnyH_done (by kernel_rfl) ?_ _
                have Tw21 : Below wr.heap.size wr w21 := Below.trans (by go_grown) (hb21.mono (by go_size))
                have Zw21 := Tw21.size
                replace c0 := cell_below c0 Tw21
                replace c1 := cell_below c1 Tw21
                replace own := own_below own Tw21
                replace hkc := cell_below hkc Tw21
                replace BW := Below.trans BW (Tw21.mono (by omega))
                go_wp2
                go_roundw
                case rel => exact ⟨j + 1, by omega, by go_num, c0, c1, own, hkc, by omega, by omega, BW⟩
                case measure => simp [intOf]; omega
              · have hle := HMAX.out j hjl hU
                have hle' : decide (rweight bb z < rweight j z) = false := by simp; omega
                go_wp2_with fail
                go_region_held3 (fun w' => w'.cell? ⟨P, 0, none⟩ = some (.int .i64 s) ∧ w'.cell? ⟨P, 1, none⟩ = some (.int .i64 u) ∧ w'.cell? ⟨g, k, none⟩ = some (.int .i64 z)) (first | assumption | (refine ⟨?_, ?_, ?_⟩ <;> assumption) | (simp [*, go_sem]; done) | (simp [*, go_sem, World.cell?_alloc_past]; done))
                  (first
                    | (go_at_call 16; (with_reducible refine (IsServerUp_spec s u j hsi hji _).mono ?_); rw [hU]; rintro e w31 ⟨rfl, hb31⟩; have hz31_0 : P < w31.heap.size := (by have := hb31.size; first | omega | (simp at this; omega)); have hz31_1 : g < w31.heap.size := (by have := hb31.size; first | omega | (simp at this; omega)); have hS31 : w31.cell? ⟨P, 0, none⟩ = some (.int .i64 s) ∧ w31.cell? ⟨P, 1, none⟩ = some (.int .i64 u) ∧ w31.cell? ⟨g, k, none⟩ = some (.int .i64 z) := ⟨(hb31.cell (p := ⟨P, 0, none⟩) (by go_size)).trans (by first | assumption | (simp [go_sem]; done) | (simp [*, go_sem]; done) | simp [*, go_sem, World.cell?_alloc_past]), (hb31.cell (p := ⟨P, 1, none⟩) (by go_size)).trans (by first | assumption | (simp [go_sem]; done) | (simp [*, go_sem]; done) | simp [*, go_sem, World.cell?_alloc_past]), (hb31.cell (p := ⟨g, k, none⟩) (by go_size)).trans (by first | assumption | (simp [go_sem]; done) | (simp [*, go_sem]; done) | simp [*, go_sem, World.cell?_alloc_past])⟩; have hy31 : wr.heap.size ≤ w31.heap.size := (by have := hb31.size; first | omega | (simp at this; omega)); have hT31 : Below wr.heap.size wr w31 := Below.trans (by go_grown) (hb31.mono (by go_size)))
                    | (go_at_call 19; (with_reducible refine (RendezvousWeight_impl j z hji hzi _).mono ?_); rintro e w32 ⟨rfl, hb32⟩; have hz32_0 : P < w32.heap.size := (by have := hb32.size; first | omega | (simp at this; omega)); have hz32_1 : g < w32.heap.size := (by have := hb32.size; first | omega | (simp at this; omega)); have hS32 : w32.cell? ⟨P, 0, none⟩ = some (.int .i64 s) ∧ w32.cell? ⟨P, 1, none⟩ = some (.int .i64 u) ∧ w32.cell? ⟨g, k, none⟩ = some (.int .i64 z) := ⟨(hb32.cell (p := ⟨P, 0, none⟩) (by go_size)).trans (by first | assumption | (simp [go_sem]; done) | (simp [*, go_sem]; done) | simp [*, go_sem, World.cell?_alloc_past]), (hb32.cell (p := ⟨P, 1, none⟩) (by go_size)).trans (by first | assumption | (simp [go_sem]; done) | (simp [*, go_sem]; done) | simp [*, go_sem, World.cell?_alloc_past]), (hb32.cell (p := ⟨g, k, none⟩) (by go_size)).trans (by first | assumption | (simp [go_sem]; done) | (simp [*, go_sem]; done) | simp [*, go_sem, World.cell?_alloc_past])⟩; have hy32 : wr.heap.size ≤ w32.heap.size := (by have := hb32.size; first | omega | (simp at this; omega)); have hT32 : Below wr.heap.size wr w32 := Below.trans (by go_grown) (hb32.mono (by go_size)))
                    | (go_at_call 19; (with_reducible refine (RendezvousWeight_impl bb z hbi hzi _).mono ?_); rintro e w33 ⟨rfl, hb33⟩; have hz33_0 : P < w33.heap.size := (by have := hb33.size; first | omega | (simp at this; omega)); have hz33_1 : g < w33.heap.size := (by have := hb33.size; first | omega | (simp at this; omega)); have hS33 : w33.cell? ⟨P, 0, none⟩ = some (.int .i64 s) ∧ w33.cell? ⟨P, 1, none⟩ = some (.int .i64 u) ∧ w33.cell? ⟨g, k, none⟩ = some (.int .i64 z) := ⟨(hb33.cell (p := ⟨P, 0, none⟩) (by go_size)).trans (by first | assumption | (simp [go_sem]; done) | (simp [*, go_sem]; done) | simp [*, go_sem, World.cell?_alloc_past]), (hb33.cell (p := ⟨P, 1, none⟩) (by go_size)).trans (by first | assumption | (simp [go_sem]; done) | (simp [*, go_sem]; done) | simp [*, go_sem, World.cell?_alloc_past]), (hb33.cell (p := ⟨g, k, none⟩) (by go_size)).trans (by first | assumption | (simp [go_sem]; done) | (simp [*, go_sem]; done) | simp [*, go_sem, World.cell?_alloc_past])⟩; have hy33 : wr.heap.size ≤ w33.heap.size := (by have := hb33.size; first | omega | (simp at this; omega)); have hT33 : Below wr.heap.size wr w33 := Below.trans (by go_grown) (hb33.mono (by go_size))))
                have Tw31 : Below wr.heap.size wr w31 := Below.trans (by go_grown) (hb31.mono (by go_size))
                have Zw31 := Tw31.size
                replace c0 := cell_below c0 Tw31
                replace c1 := cell_below c1 Tw31
                replace own := own_below own Tw31
                replace hkc := cell_below hkc Tw31
                replace BW := Below.trans BW (Tw31.mono (by omega))
                have Tw32 : Below w31.heap.size w31 w32 := Below.trans (by go_grown) (hb32.mono (by go_size))
                have Zw32 := Tw32.size
                replace c0 := cell_below c0 Tw32
                replace c1 := cell_below c1 Tw32
                replace own := own_below own Tw32
                replace hkc := cell_below hkc Tw32
                replace BW := Below.trans BW (Tw32.mono (by omega))
                have Tw33 : Below w32.heap.size w32 w33 := Below.trans (by go_grown) (hb33.mono (by go_size))
                have Zw33 := Tw33.size
                replace c0 := cell_below c0 Tw33
                replace c1 := cell_below c1 Tw33
                replace own := own_below own Tw33
                replace hkc := cell_below hkc Tw33
                replace BW := Below.trans BW (Tw33.mono (by omega))
                go_wp2
                go_roundw
                case rel => exact ⟨j + 1, by omega, by go_num, c0, c1, own, hkc, by omega, by omega, BW⟩
                case measure => simp [intOf]; omega
            · obtain rfl : j = s.toNat := by omega
              have hj1 : ¬ ((s.toNat : Int) < s) := by omega
              go_wp2
              go_roundw
              case rel => exact ⟨k + 1, by omega, by go_num, c0, c1, own, by omega, BW⟩
              case measure => simp [intOf]; omega
      · obtain rfl : k = m := by omega
        have hfs := fmtP_size hv
        go_wp2_with fail
        go_region_held3 (fun w' => w'.cell? ⟨P, 0, none⟩ = some (.int .i64 s) ∧ w'.cell? ⟨P, 1, none⟩ = some (.int .i64 u)) (first | assumption | (refine ⟨?_, ?_⟩ <;> assumption) | (simp [*, go_sem]; done) | (simp [*, go_sem, World.cell?_alloc_past]; done))
          (first
            | (go_at_call 15; (with_reducible refine (IsValidPool_impl s u _).mono ?_); rintro e w41 ⟨rfl, hb41⟩; have hz41_0 : P < w41.heap.size := (by have := hb41.size; first | omega | (simp at this; omega)); have hS41 : w41.cell? ⟨P, 0, none⟩ = some (.int .i64 s) ∧ w41.cell? ⟨P, 1, none⟩ = some (.int .i64 u) := ⟨(hb41.cell (p := ⟨P, 0, none⟩) (by go_size)).trans (by first | assumption | (simp [go_sem]; done) | (simp [*, go_sem]; done) | simp [*, go_sem, World.cell?_alloc_past]), (hb41.cell (p := ⟨P, 1, none⟩) (by go_size)).trans (by first | assumption | (simp [go_sem]; done) | (simp [*, go_sem]; done) | simp [*, go_sem, World.cell?_alloc_past])⟩; have hy41 : wr.heap.size ≤ w41.heap.size := (by have := hb41.size; first | omega | (simp at this; omega)); have hT41 : Below wr.heap.size wr w41 := Below.trans (by go_grown) (hb41.mono (by go_size)))
            | (go_at_call 21; (with_reducible refine (FormatPool_impl s u hsi _).mono ?_); rintro e w42 ⟨rfl, hb42⟩; have hz42_0 : P < w42.heap.size := (by have := hb42.size; first | omega | (simp at this; omega)); have hS42 : w42.cell? ⟨P, 0, none⟩ = some (.int .i64 s) ∧ w42.cell? ⟨P, 1, none⟩ = some (.int .i64 u) := ⟨(hb42.cell (p := ⟨P, 0, none⟩) (by go_size)).trans (by first | assumption | (simp [go_sem]; done) | (simp [*, go_sem]; done) | simp [*, go_sem, World.cell?_alloc_past]), (hb42.cell (p := ⟨P, 1, none⟩) (by go_size)).trans (by first | assumption | (simp [go_sem]; done) | (simp [*, go_sem]; done) | simp [*, go_sem, World.cell?_alloc_past])⟩; have hy42 : wr.heap.size ≤ w42.heap.size := (by have := hb42.size; first | omega | (simp at this; omega)); have hT42 : Below wr.heap.size wr w42 := Below.trans (by go_grown) (hb42.mono (by go_size))))
        have Tw41 : Below wr.heap.size wr w41 := Below.trans (by go_grown) (hb41.mono (by go_size))
        have Zw41 := Tw41.size
        replace c0 := cell_below c0 Tw41
        replace c1 := cell_below c1 Tw41
        replace own := own_below own Tw41
        replace BW := Below.trans BW (Tw41.mono (by omega))
        have Tw42 : Below w41.heap.size w41 w42 := Below.trans (by go_grown) (hb42.mono (by go_size))
        have Zw42 := Tw42.size
        replace c0 := cell_below c0 Tw42
        replace c1 := cell_below c1 Tw42
        replace own := own_below own Tw42
        replace BW := Below.trans BW (Tw42.mono (by omega))
        go_wp2
        go_ret
        exact ⟨rfl, BW⟩
  · go_enter Try.func10, Try.ntmps10
    go_wp2_with fail
    refine (big_yes _ _ _ _ (by omega)).mono ?_
    rintro e w' ⟨rfl, rfl⟩
    go_wp2
    go_ret
    exact ⟨rfl, by go_grown⟩
end Go.Proofs.Ytidefcakodnffaa
