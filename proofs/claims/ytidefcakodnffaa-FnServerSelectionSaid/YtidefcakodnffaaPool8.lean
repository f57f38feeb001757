/-
  Contracts of the laws' own big and at, and of the pool's draws l22Draw, l22Keys, DrawPool.
-/
import Derived.Test.YtidefcakodnffaaPoolLaw
import Derived.Test.YtidefcakodnffaaDraw2
import Derived.Test.YtidefcakodnffaaMem2
import Derived.Handy
namespace Go.Proofs.Ytidefcakodnffaa
open Go.RowKit

theorem big_no (A : Option Addr) (n c : Nat) (w : World) (hn : n ≤ 1048576) : Calls Try.prog 29 #[.slice A n c] w fun e w' => e = .returned (.bool false) ∧ w = w' := by
  go_enter Try.func29, Try.ntmps29
  go_wp2
  go_ret
  exact ⟨ret_bool (by simp; omega), rfl⟩
theorem big_yes (A : Option Addr) (n c : Nat) (w : World) (hn : 1048576 < n) : Calls Try.prog 29 #[.slice A n c] w fun e w' => e = .returned (.bool true) ∧ w = w' := by
  go_enter Try.func29, Try.ntmps29
  go_wp2
  go_ret
  exact ⟨ret_bool (by simp; omega), rfl⟩
theorem at_any (A : Option Addr) (n c : Nat) (zs : List Int) (i : Int) (w : World) (B : Nat) (hn : n ≤ 1048576) (hi0 : 0 ≤ i) (hi : i ≤ 1000000000) (hr : Rd w B A n (zs.map (Value.int .u8))) (hz : ∀ z ∈ zs, 0 ≤ z ∧ z ≤ 255) :
    Calls Try.prog 31 #[.slice A n c, .int .i64 i] w fun e w' => ∃ x : Int, e = .returned (.int .i64 x) ∧ 0 ≤ x ∧ x ≤ 255 ∧ w = w' := by
  have hlen : zs.length = n := by simpa using hr.1
  by_cases hlt : i < n
  · obtain ⟨k, rfl⟩ := Int.eq_ofNat_of_zero_le hi0
    obtain ⟨b, off, rfl, hbB, hc⟩ := hr.2 (by omega)
    have hcell := hc k (.int .u8 (zs[k]'(by omega))) (by simp [show k < zs.length by omega])
    obtain ⟨z, hze⟩ : ∃ z, z = zs[k]'(by omega) := ⟨_, rfl⟩
    have hz1 := hz z (by rw [hze]; exact List.getElem_mem _)
    rw [← hze] at hcell
    obtain ⟨z1, z2⟩ := hz1
    clear hze hc hr hz hlen
    go_enter Try.func31, Try.ntmps31
    go_wp2
    go_ret
    exact ⟨z, rfl, z1, z2, rfl⟩
  · clear hr hz hlen
    have hm : 0 ≤ (i * 31 + (n : Int) * 7) % 256 ∧ (i * 31 + (n : Int) * 7) % 256 ≤ 255 := by omega
    have HM := Lib.hid hm
    clear hm
    go_enter Try.func31, Try.ntmps31
    go_wp2
    go_ret
    exact ⟨_, rfl, HM.out.1, HM.out.2, rfl⟩
theorem cur_drewN1 {w : World} {g : Nat} (h : Cur w g) : Cur w.drew g := h
theorem only_start1 {w w1 : World} {g : Nat} {o : Obj} (g1 : (w.alloc o).grownBy w1 (some g)) : w.grownBy w1 (some g) :=
  ⟨g1.os, g1.tape, g1.output, by have := g1.size; simp at this; omega, fun k hk hne => (g1.block k (by simp; omega) hne).trans (Below.heap_alloc w _ k hk)⟩
theorem only_start {w w1 w2 : World} {g : Nat} {o : Obj} (g1 : (w.alloc o).grownBy w1 (some g)) (g2 : w1.grownBy w2 (some g)) : w.grownBy w2 (some g) :=
  ⟨(g1.trans g2).os, (g1.trans g2).tape, (g1.trans g2).output, by have := (g1.trans g2).size; simp at this; omega, fun k hk hne => ((g1.trans g2).block k (by simp; omega) hne).trans (Below.heap_alloc w _ k hk)⟩
theorem pool_of (x y : Int) (h0 : 0 ≤ x) (h1 : x ≤ 5) (h2 : 0 ≤ y) (h3 : y < 2 ^ (1 + x).toNat) : vpool (1 + x) y = true := by
  simp only [vpool, Bool.and_eq_true, inR_iff]
  omega
set_option maxHeartbeats 1000000 in
theorem l22Draw (g : Nat) (w : World) (hc : Cur w g) : Calls Try.prog 44 #[.pointer (some ⟨g, 0, none⟩)] w fun e w' => ∃ s u : Int, e = .returned (.agg #[.int .i64 s, .int .i64 u]) ∧ vpool s u = true ∧ Cur w' g ∧ w.grownBy w' (some g) := by
  have hgl := hc.lt
  go_enter Try.func44, Try.ntmps44
  go_wp2_with fail
  refine (l1Below g 6 _ ⟨by decide, by decide⟩ (cur_alloc hc _)).mono ?_
  rintro e w1 ⟨x, rfl, hx0, hx1, hc1, g1⟩
  have hx : x ≤ 5 := by omega
  have hgw : g < w1.heap.size := hc1.lt
  have z1 := g1.size
  simp at z1
  have k1 : ∀ o, w1.cell? ⟨w.heap.size, o, none⟩ = (w.alloc (.cells #[.int .i64 0, .int .i64 0] 25)).cell? ⟨w.heap.size, o, none⟩ := fun o => far_cell g1 (by simp) (by omega)
  have k2 : ∀ o, w1.frozen? ⟨w.heap.size, o, none⟩ = (w.alloc (.cells #[.int .i64 0, .int .i64 0] 25)).frozen? ⟨w.heap.size, o, none⟩ := fun o => far_frozen g1 (by simp) (by omega)
  have HP := Lib.hid (pool_of x)
  have HC := Lib.hid hc1
  rcases (show x = 0 ∨ x = 1 ∨ x = 2 ∨ x = 3 ∨ x = 4 ∨ x = 5 by omega) with rfl | rfl | rfl | rfl | rfl | rfl
  all_goals
    clear hx1 hx hx0 hc1 hc
    go_wp2_with fail
    refine (l1Below g _ _ ⟨by decide, by decide⟩ HC.out).mono ?_
    rintro e w2 ⟨y, rfl, hy0, hy1, hc2, g2⟩
    have hy : y < 2 ^ 6 := by omega
    have m1 : ∀ o, w2.cell? ⟨w.heap.size, o, none⟩ = w1.cell? ⟨w.heap.size, o, none⟩ := fun o => far_cell g2 (by omega) (by omega)
    have m2 : ∀ o, w2.frozen? ⟨w.heap.size, o, none⟩ = w1.frozen? ⟨w.heap.size, o, none⟩ := fun o => far_frozen g2 (by omega) (by omega)
    have HC2 := Lib.hid hc2
    have HY := Lib.hid hy1
    clear hc2 hy1
    go_wp2
    refine bodyPost_ret (v := .agg #[.int .i64 _, .int .i64 y]) (by simp [results, Try.results44, go_sem, m1, m2, k1, k2]) rfl ⟨_, y, rfl, HP.out y (by decide) (by decide) hy0 (by have := HY.out; simp at this ⊢; omega), ?_, ?_⟩
    · exact cur_store (cur_store HC2.out hgl _) hgl _
    · exact only_store (only_store (only_start g1 g2) (Nat.le_refl _) _) (Nat.le_refl _) _
theorem l22Keys (g : Nat) (w : World) (hc : Cur w g) : Calls Try.prog 45 #[.pointer (some ⟨g, 0, none⟩)] w fun e w' => ∃ (v : Value) (zs : List Int), e = .returned v ∧ w'.ownsRow w.heap.size 3 1 v zs.length (zs.map (Value.int .i64)) ∧ zs.length ≤ 7 ∧ (∀ z ∈ zs, 0 ≤ z ∧ z < 200) ∧ Cur w' g ∧ w.grownBy w' (some g) := by
  have hgl := hc.lt
  go_enter Try.func45, Try.ntmps45
  go_wp2_with fail
  refine (l1Below g 8 _ ⟨by decide, by decide⟩ (cur_alloc hc _)).mono ?_
  rintro e w1 ⟨x, rfl, hx0, hx1, hc1, g1⟩
  have hx : x ≤ 7 := by omega
  have a1 := only_start1 g1
  have own1 : w1.ownsRow w.heap.size 3 1 (.slice (some ⟨w.heap.size, 0, none⟩) 0 0) 0 (([] : List Int).map (Value.int .i64)) := World.ownsRow.kept (World.ownsRow_lit w #[] 0 (Nat.le_refl _) (Nat.zero_le _) rfl) g1 (Or.inr (fun e => by injection e with e; simp at e; omega))
  clear hx1
  go_wp2_with fail
  go_loopw [3, 4] (fun v3 v4 wr => ∃ (i : Int) (zs : List Int), 0 ≤ i ∧ i + zs.length ≤ 7 ∧ v4 = .int .i64 i ∧ wr.ownsRow w.heap.size 3 1 v3 zs.length (zs.map (Value.int .i64)) ∧ Hid (∀ z ∈ zs, 0 ≤ z ∧ z < 200) ∧ Cur wr g ∧ w.grownBy wr (some g)) (fun _ v4 _ => (intOf v4).toNat)
  case atStart => exact ⟨x, [], hx0, by simpa using hx, rfl, own1, (by simp : ∀ z ∈ ([] : List Int), 0 ≤ z ∧ z < 200), hc1, a1⟩
  case round =>
    obtain ⟨i, zs, hi0, hi1, rfl, own, HZ, hcr, ar⟩ := hrel
    by_cases hlt : 0 < i
    · go_wp2_with fail
      refine (l1Below g 200 _ ⟨by decide, by decide⟩ hcr).mono ?_
      rintro e w2 ⟨y, rfl, hy0, hy1, hc2, g2⟩
      have hy : y < 200 := by omega
      have own2 := World.ownsRow.kept own g2 (Or.inr (own_block own hgl))
      have hz2 := ar.size
      have hz3 := g2.size
      have HY := Lib.hid hy1
      clear hy1
      go_wp2_with (at_builtin; refine wpList_append_rd rfl (.tmp 12) (.tmp 15) 39 rfl elInt w.heap.size _ zs.length _ rfl (own2.alloc _) (w2.heap.size + 1) _ 1 1 [.int .i64 y] rfl (Rd.one w2 (.int .i64 y) 3) (ints_one .i64 [y]) (by omega) (by omega) (by simp; omega) ?_; intro v3 w3 own3 grow3 at3)
      have HZ' : Hid (∀ z ∈ zs ++ [y], 0 ≤ z ∧ z < 200) := Lib.hid (by
        intro z h
        rcases List.mem_append.1 h with h | h
        · exact HZ.out z h
        · rw [List.mem_singleton.1 h]; exact ⟨hy0, hy⟩)
      have hcr3 : Cur w3 g := (cur_alloc hc2 _).keep fun b hb => grow3.block b (by have := hc2.lt; simp; omega) (fun e => by have := (own2.lt b e.symm).1; omega)
      have ar3 : w.grownBy w3 (some g) := by
        have t1 := only_alloc (only_trans ar g2) (.cells #[.int .i64 y] 3)
        exact ⟨grow3.os.trans t1.os, grow3.tape.trans t1.tape, grow3.output.trans t1.output, by have := grow3.size; have := t1.size; omega, fun k hk hne => (grow3.block k (by simp; omega) (fun e => by have := (own2.lt k e.symm).1; omega)).trans (t1.block k hk hne)⟩
      clear HZ
      go_roundw
      case rel => exact ⟨i - 1, zs ++ [y], by omega, by simp; omega, by go_num, by simpa using own3, HZ', hcr3, ar3⟩
      case measure => simp [intOf]; omega
    · have HC := Lib.hid hcr
      clear hcr
      go_wp2
      go_ret
      exact ⟨_, rfl, zs, own, by omega, HZ.out, HC.out, ar⟩
set_option maxHeartbeats 1000000 in
theorem DrawPool (A : Option Addr) (n c : Nat) (zs : List Int) (w : World) (hn : n ≤ 1048576) (hr : Rd w w.heap.size A n (zs.map (Value.int .u8))) (hz : ∀ z ∈ zs, 0 ≤ z ∧ z ≤ 255) :
    Calls Try.prog 30 #[.slice A n c] w fun e w' => ∃ (s u : Int) (v : Value) (ks : List Int), e = .returned (.tuple #[.agg #[.int .i64 s, .int .i64 u], v]) ∧ vpool s u = true ∧ w'.ownsRow w.heap.size 3 1 v ks.length (ks.map (Value.int .i64)) ∧ ks.length ≤ 7 ∧ (∀ z ∈ ks, 0 ≤ z ∧ z < 200) ∧ Below w.heap.size w w' := by
  go_enter Try.func30, Try.ntmps30
  go_wp2_with fail
  refine (l1New A n c zs _ hn ((hr.keep fun b hb => Below.heap_alloc _ _ _ hb).more (by simp)) hz).mono ?_
  rintro e w1 ⟨rfl, hc1, b1⟩
  simp only [World.size_alloc] at hc1
  have s1 := hc1.lt
  have k1 : ∀ o, w1.cell? ⟨w.heap.size, o, none⟩ = (w.alloc (.cells #[.int .i64 0, .int .i64 0] 25)).cell? ⟨w.heap.size, o, none⟩ := fun o => b1.cell (p := ⟨w.heap.size, o, none⟩) (by simp)
  have k2 : ∀ o, w1.frozen? ⟨w.heap.size, o, none⟩ = (w.alloc (.cells #[.int .i64 0, .int .i64 0] 25)).frozen? ⟨w.heap.size, o, none⟩ := fun o => b1.frozen (p := ⟨w.heap.size, o, none⟩) (by simp)
  go_wp2_with fail
  refine (l22Draw _ _ hc1).mono ?_
  rintro e w2 ⟨s, u, rfl, hv, hc2, g2⟩
  have s2 := g2.size
  have m1 : ∀ o, w2.cell? ⟨w.heap.size, o, none⟩ = w1.cell? ⟨w.heap.size, o, none⟩ := fun o => far_cell g2 (by omega) (by omega)
  have m2 : ∀ o, w2.frozen? ⟨w.heap.size, o, none⟩ = w1.frozen? ⟨w.heap.size, o, none⟩ := fun o => far_frozen g2 (by omega) (by omega)
  have hl0 : w.heap.size < w2.heap.size := by omega
  go_wp2_with fail
  have hlp : w2.heap.size < w2.heap.size + 1 := by omega
  go_region_with (first
      | (go_at_call 45 ; (with_reducible refine (l22Keys _ _ (by first | exact cur_alloc hc2 _ | exact cur_drewN1 (cur_alloc hc2 _))).mono ?_); rintro e w3 ⟨v, ks, rfl, own3, hkl, hkb, hc3, g3'⟩; have g3 : (w2.alloc (.cells #[.int .i64 s, .int .i64 u] 25)).grownBy w3 (some (w.heap.size + 1)) := ⟨g3'.os, g3'.tape, g3'.output, g3'.size, g3'.block⟩; have s3 := g3.size; simp at s3; have hl3 : w.heap.size < w3.heap.size := (by omega); have hl4 : w2.heap.size < w3.heap.size := (by omega); clear g3'; have n1 : ∀ o, w3.cell? ⟨w2.heap.size, o, none⟩ = (w2.alloc (.cells #[.int .i64 s, .int .i64 u] 25)).cell? ⟨w2.heap.size, o, none⟩ := (fun o => far_cell g3 (by simp) (by omega)); have n2 : ∀ o, w3.cell? ⟨w.heap.size, o, none⟩ = w2.cell? ⟨w.heap.size, o, none⟩ := (fun o => (far_cell g3 (by simp; omega) (by omega)).trans (World.cell?_alloc_lt _ _ _ hl0)); have n3 : ∀ o, w3.frozen? ⟨w.heap.size, o, none⟩ = w2.frozen? ⟨w.heap.size, o, none⟩ := (fun o => (far_frozen g3 (by simp; omega) (by omega)).trans (World.frozen?_alloc_old _ _ _ (by simp; omega)))))
  all_goals
    go_wp2
    have B1 : Below w.heap.size w w2 := (((Below.refl _ _).alloc (Nat.le_refl _) _).trans (b1.mono (by simp))).trans (only_above g2 (by omega) (by omega))
    have B3 : Below w.heap.size w w3 := (B1.alloc (by omega) _).trans (only_above g3 (by omega) (by simp; omega))
    have hbase : w.heap.size < (w2.alloc (.cells #[.int .i64 s, .int .i64 u] 25)).drew.heap.size := by simp; omega
    have own4 := own_base (ownsRow_setCell_below (ownsRow_setCell_below own3 (a := ⟨w.heap.size, 0, none⟩) hbase (.int .i64 s)) (a := ⟨w.heap.size, 1, none⟩) hbase (.int .i64 u)) (Nat.le_of_lt hbase)
    refine bodyPost_ret (v := .tuple #[.agg #[.int .i64 s, .int .i64 u], v]) (by simp [results, Try.results30, go_sem, n2, n3, m1, m2, k1, k2, hl3]) rfl ⟨s, u, v, ks, rfl, hv, own4, hkl, hkb, (B3.setCell (Nat.le_refl _) _).setCell (Nat.le_refl _) _⟩
end Go.Proofs.Ytidefcakodnffaa
