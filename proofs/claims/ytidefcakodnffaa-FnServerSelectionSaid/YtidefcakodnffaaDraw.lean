/-
  Contracts of the drawing cursor: l1New, l1Byte, l1Below. What is drawn is told by its range.
-/
import Derived.Test.YtidefcakodnffaaL01
import Derived.Test.YtidefcakodnffaaMem
import Derived.Handy
import Derived.Deep.QuietTactic
import Derived.BigQuiet
import Derived.Deep.RegionHeld3
import Derived.Laws.BitsLemmas
import Derived.Laws.BitsAllLaws
namespace Go.Proofs.Ytidefcakodnffaa
open Go.RowKit

theorem bits_and_le (a : Int) (m : Nat) (hm : m < 9223372036854775808) : 0 ≤ bits BinOp.and IntKind.i64 a (m : Int) ∧ bits BinOp.and IntKind.i64 a (m : Int) ≤ m := by
  have h1 : (BitVec.ofInt 64 (m : Int)).toNat = m := by rw [BitVec.ofInt_natCast, BitVec.toNat_ofNat]; exact Nat.mod_eq_of_lt (by omega)
  have h2 : ((BitVec.ofInt 64 a) &&& (BitVec.ofInt 64 (m : Int))).toNat ≤ m := by rw [BitVec.toNat_and, h1]; exact Nat.and_le_right
  have h3 : bits BinOp.and IntKind.i64 a (m : Int) = IntKind.i64.wrap ((((BitVec.ofInt 64 a) &&& (BitVec.ofInt 64 (m : Int))).toNat : Nat) : Int) := rfl
  rw [h3, IntKind.wrap_i64]
  omega
theorem wrap64_I64 (x : Int) : I64 (wrap64 x) := by unfold wrap64 I64; omega
/-- A drawing cursor lies in block g: the code that it reads from lies below. -/
def Cur (w : World) (g : Nat) : Prop := ∃ (A : Option Addr) (n c : Nat) (i : Nat) (h : Int) (zs : List Int) (B : Nat),
  w.heap[g]? = some (.cells #[.slice A n c, .int .i64 i, .int .i64 h] 56 (0, 0)) ∧ i ≤ n ∧ n ≤ 1048576 ∧ I64 h ∧ B ≤ g ∧ Rd w B A n (zs.map (Value.int .u8)) ∧ ∀ z ∈ zs, 0 ≤ z ∧ z ≤ 255
theorem Cur.lt {w : World} {g : Nat} (h : Cur w g) : g < w.heap.size := by
  obtain ⟨_, _, _, _, _, _, _, h, _⟩ := h
  exact lt_of_block h
theorem Cur.keep {w w' : World} {g : Nat} (h : Cur w g) (hk : ∀ b, b ≤ g → w'.heap[b]? = w.heap[b]?) : Cur w' g := by
  obtain ⟨A, n, c, i, h, zs, B, h1, h2, h3, h4, h5, h6, h7⟩ := h
  exact ⟨A, n, c, i, h, zs, B, (hk g (Nat.le_refl _)).trans h1, h2, h3, h4, h5, h6.keep fun b hb => hk b (by omega), h7⟩
theorem Cur.below {w w' : World} {g B : Nat} (h : Cur w g) (hb : Below B w w') (hB : g < B) : Cur w' g := h.keep fun b h => hb.block b (by omega)

set_option maxRecDepth 100000 in
theorem l1New (A : Option Addr) (n c : Nat) (zs : List Int) (w : World) (hn : n ≤ 1048576) (hr : Rd w w.heap.size A n (zs.map (Value.int .u8))) (hz : ∀ z ∈ zs, 0 ≤ z ∧ z ≤ 255) :
    Calls Try.prog 43 #[.slice A n c] w fun e w' => e = .returned (.pointer (some ⟨w.heap.size, 0, none⟩)) ∧ Cur w' w.heap.size ∧ Below w.heap.size w w' := by
  have hlen : zs.length = n := by simpa using hr.1
  go_enter Try.func43, Try.ntmps43
  go_wp2_with fail
  go_loop [3, 4] (fun v3 v4 => ∃ (k : Nat) (h : Int), k ≤ n ∧ v4 = .int .i64 k ∧ v3 = .int .i64 h ∧ 0 ≤ h ∧ h ≤ 2000000000) (fun _ v4 => n - (intOf v4).toNat)
  case atStart => exact ⟨0, _, Nat.zero_le _, rfl, rfl, by omega, by omega⟩
  case round =>
    obtain ⟨k, h, hkn, rfl, rfl, hh0, hh1⟩ := hrel
    by_cases hlt : k < n ∧ k < 4000
    · obtain ⟨hlt, hlt2⟩ := hlt
      obtain ⟨b, off, rfl, hbB, hc⟩ := hr.2 (by omega)
      have hcell := hc k (.int .u8 (zs[k]'(by omega))) (by simp [show k < zs.length by omega])
      obtain ⟨z, hze⟩ : ∃ z, z = zs[k]'(by omega) := ⟨_, rfl⟩
      have hz1 := hz z (by rw [hze]; exact List.getElem_mem _)
      rw [← hze] at hcell
      obtain ⟨z1, z2⟩ := hz1
      have hbd := bits_and_le (h * 137 + z + 11) 1073741823 (by decide)
      have HB := Lib.hid hbd
      clear hze hc hr hz hlen hbd
      go_wp2
      go_round
      case rel => exact ⟨k + 1, _, by omega, by go_num, rfl, HB.out.1, Int.le_trans HB.out.2 (by decide)⟩
      case measure => simp [intOf]; omega
    · by_cases hkn' : k < n
      · have hk4 : 4000 ≤ (k : Int) := by omega
        clear hlt hlen
        go_wp2
        go_ret
        refine ⟨rfl, ?_, by go_grown⟩
        exact ⟨A, n, c, 0, h, zs, w.heap.size, heap_alloc_new w _, Nat.zero_le _, hn, ⟨by omega, by omega⟩, Nat.le_refl _, hr.keep fun b hb => Below.heap_alloc _ _ _ hb, hz⟩
      · obtain rfl : k = n := by omega
        clear hlt hlen hkn'
        go_wp2
        go_ret
        refine ⟨rfl, ?_, by go_grown⟩
        exact ⟨A, k, c, 0, h, zs, w.heap.size, heap_alloc_new w _, Nat.zero_le _, hn, ⟨by omega, by omega⟩, Nat.le_refl _, hr.keep fun b hb => Below.heap_alloc _ _ _ hb, hz⟩

theorem cur_next {w w2 : World} {g n c i B : Nat} {A : Option Addr} {h2 : Int} {zs : List Int} (q : Nat) (hh : w2.heap[g]? = some (.cells #[.slice A n c, .int .i64 i, .int .i64 h2] 56 (0, 0))) (hlt : i < n) (hn : n ≤ 1048576) (hI : I64 h2) (hB : B ≤ g)
    (hr : Rd w2 B A n (zs.map (Value.int .u8))) (hz : ∀ z ∈ zs, 0 ≤ z ∧ z ≤ 255) (hg : w.grownBy w2 (some g)) : Cur ((w2.drewN q).setCell ⟨g, 1, none⟩ (.int .i64 (↑i + 1))) g ∧ w.grownBy ((w2.drewN q).setCell ⟨g, 1, none⟩ (.int .i64 (↑i + 1))) (some g) := by
  have e : ((i + 1 : Nat) : Int) = (i : Int) + 1 := by omega
  refine ⟨⟨A, n, c, i + 1, h2, zs, B, ?_, by omega, hn, hI, hB, hr.keep fun b hb => heap_setCell_other (w2.drewN q) ⟨g, 1, none⟩ b _ (by simp; omega), hz⟩, ?_⟩
  · rw [e]
    simpa using heap_setCell_same (w2.drewN q) g 1 #[.slice A n c, .int .i64 i, .int .i64 h2] _ (.int .i64 (↑i + 1)) hh
  · exact hg.trans ⟨rfl, rfl, rfl, by simp, fun k _ hk => heap_setCell_other (w2.drewN q) ⟨g, 1, none⟩ k _ (fun e => hk (by simp [e]))⟩
set_option maxHeartbeats 1000000 in
theorem l1Byte (g : Nat) (w : World) (hc : Cur w g) : Calls Try.prog 51 #[.pointer (some ⟨g, 0, none⟩)] w fun e w' => ∃ x : Int, e = .returned (.int .i64 x) ∧ 0 ≤ x ∧ x ≤ 255 ∧ Cur w' g ∧ w.grownBy w' (some g) := by
  obtain ⟨A, n, c, i, h, zs, B, hh, hin, hn, hI, hB, hr, hz⟩ := hc
  have c0 : w.cell? ⟨g, 0, none⟩ = some (.slice A n c) := by simp [World.cell?, hh]
  have c1 : w.cell? ⟨g, 1, none⟩ = some (.int .i64 i) := by simp [World.cell?, hh]
  have c2 : w.cell? ⟨g, 2, none⟩ = some (.int .i64 h) := by simp [World.cell?, hh]
  have f1 : w.frozen? ⟨g, 1, none⟩ = false := by simp [World.frozen?, hh]
  have f2 : w.frozen? ⟨g, 2, none⟩ = false := by simp [World.frozen?, hh]
  have HH := Lib.hid hh
  clear hh
  go_enter Try.func51, Try.ntmps51
  go_wp2_with fail
  obtain ⟨h2, hh2⟩ : ∃ h2, h2 = wrap64 (wrap64 (h * 6364136223846793005) + 1442695040888963407) := ⟨_, rfl⟩
  rw [← hh2]
  have hI2 : I64 h2 := by rw [hh2]; exact wrap64_I64 _
  clear hh2
  obtain ⟨hI21, hI22⟩ := hI2
  obtain ⟨w2, hw2⟩ : ∃ w2, w2 = w.setCell ⟨g, 2, none⟩ (.int .i64 h2) := ⟨_, rfl⟩
  rw [← hw2]
  have hh2 : w2.heap[g]? = some (.cells #[.slice A n c, .int .i64 i, .int .i64 h2] 56 (0, 0)) := by
    rw [hw2]
    simpa using heap_setCell_same w g 2 #[.slice A n c, .int .i64 i, .int .i64 h] _ (.int .i64 h2) HH.out
  have hr2 : Rd w2 B A n (zs.map (Value.int .u8)) := by rw [hw2]; exact hr.keep fun b hb => heap_setCell_other w ⟨g, 2, none⟩ b _ (by simp; omega)
  have hg2 : w.grownBy w2 (some g) := by rw [hw2]; exact ⟨rfl, rfl, rfl, by simp, fun k _ hk => heap_setCell_other w ⟨g, 2, none⟩ k _ (fun e => hk (by simp [e]))⟩
  clear hw2 c0 c1 c2 f1 f2 hr HH
  have c0 : w2.cell? ⟨g, 0, none⟩ = some (.slice A n c) := by simp [World.cell?, hh2]
  have c1 : w2.cell? ⟨g, 1, none⟩ = some (.int .i64 i) := by simp [World.cell?, hh2]
  have c2 : w2.cell? ⟨g, 2, none⟩ = some (.int .i64 h2) := by simp [World.cell?, hh2]
  have f1 : w2.frozen? ⟨g, 1, none⟩ = false := by simp [World.frozen?, hh2]
  have HH := Lib.hid hh2
  clear hh2
  go_quiet (fail)
  obtain ⟨x1, hx1⟩ : ∃ x1, x1 = bits BinOp.and IntKind.i64 (bits BinOp.xor IntKind.i64 (h2 / 8589934592) (h2 / 140737488355328)) 255 := ⟨_, rfl⟩
  have hb1 := bits_and_le (bits BinOp.xor IntKind.i64 (h2 / 8589934592) (h2 / 140737488355328)) 255 (by decide)
  have hb1' : 0 ≤ x1 ∧ x1 ≤ 255 := by rw [hx1]; exact hb1
  rw [← hx1]
  clear hx1 hb1
  obtain ⟨hx0, hx1⟩ := hb1'
  go_wp2_with fail
  by_cases hlt : i < n
  · have hi1 : (i : Int) < (n : Int) := by omega
    have hi0 : (0 : Int) ≤ (i : Int) := by omega
    have hlen : zs.length = n := by simpa using hr2.1
    have HR := Lib.hid hr2
    obtain ⟨b, off, rfl, hbB, hcz⟩ := hr2.2 (by omega)
    have hcell := hcz i (.int .u8 (zs[i]'(by omega))) (by simp [show i < zs.length by omega])
    obtain ⟨z, hze⟩ : ∃ z, z = zs[i]'(by omega) := ⟨_, rfl⟩
    have hz1 := hz z (by rw [hze]; exact List.getElem_mem _)
    rw [← hze] at hcell
    obtain ⟨z1, z2⟩ := hz1
    have hbd := bits_and_le (x1 + z) 255 (by decide)
    have HB := Lib.hid hbd
    have HZ := Lib.hid hz
    clear hze hcz hlen hbd hr2 hz
    go_quiet (fail)
    go_wp2_with fail
    go_quiet (fail)
    go_wp2
    go_ret
    exact ⟨_, rfl, HB.out.1, HB.out.2, cur_next _ HH.out hlt hn ⟨hI21, hI22⟩ hB HR.out HZ.out hg2⟩
  · have HZ := Lib.hid hz
    have hn1 : decide ((i : Int) < (n : Int)) = false := by simp; omega
    clear hz
    go_quiet (fail)
    go_wp2
    go_ret
    exact ⟨_, rfl, hx0, hx1, ⟨A, n, c, i, h2, zs, B, HH.out, hin, hn, ⟨hI21, hI22⟩, hB, hr2, HZ.out⟩, ⟨hg2.os, hg2.tape, hg2.output, hg2.size, hg2.block⟩⟩
end Go.Proofs.Ytidefcakodnffaa
