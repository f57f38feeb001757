/-
  Contracts of the laws' own functions on []int: toIntS, eqIntS, markIntS, heldIntS.
-/
import Derived.Test.YtidefcakodnffaaL01
import Derived.Test.YtidefcakodnffaaMem
import Derived.Handy
import Derived.Deep.QuietTactic
import Derived.BigQuiet
namespace Go.Proofs.Ytidefcakodnffaa
open Go.RowKit

/-- A row that is filled from its head: one more. -/
theorem set_next {α : Type} (f g : List α) (y : α) (k : Nat) (hf : f[k]? = some y) (hl : f.length = g.length) : (f.take k ++ g.drop k).set k y = f.take (k + 1) ++ g.drop (k + 1) := by
  obtain ⟨h1, hy⟩ := List.getElem?_eq_some_iff.1 hf
  rw [List.take_succ_eq_append_getElem h1, hy, List.set_append, if_neg (by simp; omega)]
  have e : g.drop k = g[k]'(by omega) :: g.drop (k + 1) := List.drop_eq_getElem_cons (by omega)
  rw [e, List.length_take, Nat.min_eq_left (Nat.le_of_lt h1), Nat.sub_self, List.set_cons_zero]
  simp
theorem fill_at {α : Type} (f g : List α) (k : Nat) (hk : k < g.length) (hl : f.length = g.length) : ∃ y, (f.take k ++ g.drop k)[k]? = some y :=
  ⟨(f.take k ++ g.drop k)[k]'(by simp; omega), List.getElem?_eq_getElem _⟩
theorem fill_end {α : Type} (f g : List α) (k : Nat) (h1 : f.length = k) (h2 : g.length = k) : f.take k ++ g.drop k = f := by
  rw [List.take_of_length_le (by omega), List.drop_eq_nil_of_le (by omega), List.append_nil]

theorem toIntS (A : Option Addr) (n c : Nat) (zs : List Int) (w : World) (hn : n ≤ 1048576) (hr : Rd w w.heap.size A n (zs.map (Value.int .i64))) :
    Calls Try.prog 33 #[.slice A n c] w fun e w' => e = .returned (.slice (some ⟨w.heap.size, 0, none⟩) n n) ∧ w'.ownsRow w.heap.size 3 1 (.slice (some ⟨w.heap.size, 0, none⟩) n n) n (zs.map (Value.int .i64)) ∧ Below w.heap.size w w' := by
  have hlen : zs.length = n := by simpa using hr.1
  obtain ⟨i0, hi, hz0, hz1, hz2⟩ := elInt.hi
  go_enter Try.func33, Try.ntmps33
  go_wp2_with (refine wpList_make_full _ rfl _ _ 39 rfl w.heap.size 3 i0 (.int .i64 0) 1 elInt.ht hi hz0 hz1 .i64 .i64 _ _ n rfl rfl rfl rfl (by rw [hz2]; omega) (by unfold maxLen; omega) (Nat.le_refl _) ?_; intro w1 own1 grow1)
  have hB1 : Below w.heap.size w w1 := (Below.refl _ _).grown grow1 (Nat.le_refl _) (fun k h => by cases h)
  rw [show (madeCells (Value.int .i64 0).cells (n * 1)).toList = (zs.map (Value.int .i64)).take 0 ++ (List.replicate n (Value.int .i64 0)).drop 0 by simpa [Value.cells] using toList_madeCells_one (.int .i64 0) n] at own1
  go_loopw [4] (fun v4 wr => ∃ k : Nat, k ≤ n ∧ v4 = .int .i64 k ∧ wr.ownsRow w.heap.size 3 1 (.slice (some ⟨w.heap.size, 0, none⟩) n n) n ((zs.map (Value.int .i64)).take k ++ (List.replicate n (Value.int .i64 0)).drop k) ∧ Below w.heap.size w wr) (fun v4 _ => n - (intOf v4).toNat)
  case atStart => exact ⟨0, Nat.zero_le _, rfl, own1, hB1⟩
  case round =>
    obtain ⟨k, hkn, rfl, own, hBr⟩ := hrel
    by_cases hlt : k < n
    · obtain ⟨b, off, rfl, hbB, hc⟩ := (hr.below hBr).2 (by omega)
      have hj : (zs.map (Value.int .i64))[k]? = some (.int .i64 (zs[k]'(by omega))) := by simp [show k < zs.length by omega]
      have hcell := hc k _ hj
      obtain ⟨z, hze⟩ : ∃ z, z = zs[k]'(by omega) := ⟨_, rfl⟩
      rw [← hze] at hcell hj
      have HS := Lib.hid (set_next (zs.map (Value.int .i64)) (List.replicate n (Value.int .i64 0)) _ k hj (by simpa using hlen))
      obtain ⟨y, hy0⟩ := fill_at (zs.map (Value.int .i64)) (List.replicate n (Value.int .i64 0)) k (by simpa using hlt) (by simpa using hlen)
      have hy : wr.cell? ⟨w.heap.size, k, none⟩ = some y := (own.cellAt k (by omega)).trans hy0
      have hfz := own.frozenAt k
      have hst := own.stored k (.int .i64 z)
      clear hy0 hze hj hc hlen
      go_wp2
      go_roundw
      case rel => exact ⟨k + 1, by omega, by go_num, by rw [← HS.out]; exact hst.1, hBr.grown hst.2 hBr.size (fun j h => by injection h with h; omega)⟩
      case measure => simp [intOf]; omega
    · obtain rfl : k = n := by omega
      have HO := Lib.hid (show wr.ownsRow w.heap.size 3 1 (.slice (some ⟨w.heap.size, 0, none⟩) k k) k (zs.map (Value.int .i64)) by rw [← fill_end (zs.map (Value.int .i64)) (List.replicate k (Value.int .i64 0)) k (by simpa using hlen) (by simp)]; exact own)
      clear hlen own
      go_wp2
      go_ret
      exact ⟨rfl, HO.out, hBr⟩

def marks (k0 : Int) (n : Nat) : List Int := (List.range n).map fun i : Nat => k0 + i
theorem marks_len (k0 : Int) (n : Nat) : (marks k0 n).length = n := by simp [marks]
theorem marks_at (k0 : Int) (n k : Nat) (h : k < n) : ((marks k0 n).map (Value.int .i64))[k]? = some (.int .i64 (k0 + k)) := by simp [marks, h]

theorem markIntS (v : Value) (n : Nat) (xs : List Value) (k0 : Int) (base : Nat) (w : World) (hk0 : 0 ≤ k0) (hk1 : k0 ≤ 1000000000) (hn : n ≤ 1048576) (hown : w.ownsRow base 3 1 v n xs) :
    Calls Try.prog 36 #[v, .int .i64 k0] w fun e w' => e = .returned (.int .i64 (k0 + n)) ∧ w'.ownsRow base 3 1 v n ((marks k0 n).map (Value.int .i64)) ∧ w.grownBy w' v.ownBlock := by
  rcases hown.2 with ⟨rfl, rfl⟩ | ⟨g, cap, cur, rfl, hbg, hh, hnc, hm, hs, ht⟩
  · obtain rfl : xs = [] := List.eq_nil_of_length_eq_zero (by simpa using hown.1)
    go_enter Try.func36, Try.ntmps36
    go_wp2_with fail
    refine wp_loop_rounds 1 ?_
    rw [rounds_succ]
    go_wp2
    go_ret
    exact ⟨ret_int (by simp), hown, World.grownBy.refl _ _⟩
  · have hlen : xs.length = n := by simpa using hown.1
    have hgs : g < w.heap.size := lt_of_block hh
    clear hh hm hs ht hnc
    go_enter Try.func36, Try.ntmps36
    go_wp2_with fail
    go_loopw [1, 5] (fun v1 v5 wr => ∃ k : Nat, k ≤ n ∧ v5 = .int .i64 k ∧ v1 = .int .i64 (k0 + k) ∧ wr.ownsRow base 3 1 (.slice (some ⟨g, 0, none⟩) n cap) n (((marks k0 n).map (Value.int .i64)).take k ++ xs.drop k) ∧ w.grownBy wr (some g)) (fun _ v5 _ => n - (intOf v5).toNat)
    case atStart => exact ⟨0, Nat.zero_le _, rfl, by simp, by simpa using hown, World.grownBy.refl _ _⟩
    case round =>
      obtain ⟨k, hkn, rfl, rfl, own, hg⟩ := hrel
      by_cases hlt : k < n
      · have hj := marks_at k0 n k hlt
        have HS := Lib.hid (set_next ((marks k0 n).map (Value.int .i64)) xs _ k hj (by simp [marks_len, hlen]))
        obtain ⟨y, hy0⟩ := fill_at ((marks k0 n).map (Value.int .i64)) xs k (by omega) (by simp [marks_len, hlen])
        have hy : wr.cell? ⟨g, k, none⟩ = some y := (own.cellAt k (by omega)).trans hy0
        have hfz := own.frozenAt k
        have hst := own.stored k (.int .i64 (k0 + k))
        clear hy0 hj hlen
        go_wp2
        go_roundw
        case rel => exact ⟨k + 1, by omega, by go_num, by go_num, by rw [← HS.out]; exact hst.1, hg.trans hst.2⟩
        case measure => simp [intOf]; omega
      · obtain rfl : k = n := by omega
        have HO := Lib.hid (show wr.ownsRow base 3 1 (.slice (some ⟨g, 0, none⟩) k cap) k ((marks k0 k).map (Value.int .i64)) by rw [← fill_end ((marks k0 k).map (Value.int .i64)) xs k (by simp [marks_len]) hlen]; exact own)
        clear hlen own
        go_wp2
        go_ret
        exact ⟨rfl, HO.out, hg⟩

theorem heldIntS (A : Option Addr) (n c : Nat) (k0 : Int) (w : World) (B : Nat) (hk0 : 0 ≤ k0) (hk1 : k0 ≤ 1000000000) (hn : n ≤ 1048576) (hr : Rd w B A n ((marks k0 n).map (Value.int .i64))) :
    Calls Try.prog 37 #[.slice A n c, .int .i64 k0] w fun e w' => e = .returned (.int .i64 (k0 + n)) ∧ w = w' := by
  go_enter Try.func37, Try.ntmps37
  go_wp2_with fail
  go_loop [1, 5] (fun v1 v5 => ∃ k : Nat, k ≤ n ∧ v5 = .int .i64 k ∧ v1 = .int .i64 (k0 + k)) (fun _ v5 => n - (intOf v5).toNat)
  case atStart => exact ⟨0, Nat.zero_le _, rfl, by simp⟩
  case round =>
    obtain ⟨k, hkn, rfl, rfl⟩ := hrel
    by_cases hlt : k < n
    · obtain ⟨b, off, rfl, hbB, hc⟩ := hr.2 (by omega)
      have hcell := hc k _ (marks_at k0 n k hlt)
      clear hc hr
      go_wp2
      go_round
      case rel => exact ⟨k + 1, by omega, by go_num, by go_num⟩
      case measure => simp [intOf]; omega
    · obtain rfl : k = n := by omega
      go_wp2
      go_ret
      exact ⟨rfl, rfl⟩

/-- Two lists of ints are the same. -/
def sameB (a b : List Int) : Bool := decide (a = b)
theorem sameB_len {a b : List Int} (h : a.length ≠ b.length) : sameB a b = false := by simp only [sameB, decide_eq_false_iff_not]; exact fun e => h (by rw [e])
theorem take_same {a b : List Int} {k : Nat} (h : a.take k = b.take k) (h1 : k < a.length) (h2 : k < b.length) (h3 : a[k] = b[k]) : a.take (k + 1) = b.take (k + 1) := by
  rw [List.take_succ_eq_append_getElem h1, List.take_succ_eq_append_getElem h2, h, h3]
theorem eqIntS (A A' : Option Addr) (n c n' c' : Nat) (zs ys : List Int) (w : World) (B : Nat) (hn : n ≤ 9223372036854775807) (hn' : n' ≤ 9223372036854775807) (hr : Rd w B A n (zs.map (Value.int .i64))) (hr' : Rd w B A' n' (ys.map (Value.int .i64))) :
    Calls Try.prog 35 #[.slice A n c, .slice A' n' c'] w fun e w' => e = .returned (.bool (sameB zs ys)) ∧ Below w.heap.size w w' := by
  have hlen : zs.length = n := by simpa using hr.1
  have hlen' : ys.length = n' := by simpa using hr'.1
  by_cases hnn : n = n'
  · have HN := Lib.hid hnn
    have hnb : ((n : Int) != (n' : Int)) = false := by simp [bne, hnn]
    clear hnn
    go_enter Try.func35, Try.ntmps35
    go_wp2
    go_loopw [5] (fun v3 wr => ∃ k m : Nat, k ≤ n ∧ v3 = .int .i64 k ∧ wr = w.drewN m ∧ zs.take k = ys.take k) (fun v3 _ => n - (intOf v3).toNat)
    case atStart => exact ⟨0, 0, Nat.zero_le _, rfl, rfl, rfl⟩
    case round =>
      obtain ⟨k, m, hkn, rfl, rfl, hpre⟩ := hrel
      have HP := Lib.hid hpre
      clear hpre
      by_cases hlt : k < n
      · have hlt' : k < n' := by have := HN.out; omega
        obtain ⟨b, off, rfl, hbB, hc⟩ := hr.2 (by omega)
        obtain ⟨b', off', rfl, hbB', hc'⟩ := hr'.2 (by omega)
        have hcell := hc k (.int .i64 (zs[k]'(by omega))) (by simp [show k < zs.length by omega])
        have hcell' := hc' k (.int .i64 (ys[k]'(by omega))) (by simp [show k < ys.length by omega])
        obtain ⟨z, hze⟩ : ∃ z, z = zs[k]'(by omega) := ⟨_, rfl⟩
        obtain ⟨y, hye⟩ : ∃ y, y = ys[k]'(by omega) := ⟨_, rfl⟩
        rw [← hze] at hcell
        rw [← hye] at hcell'
        by_cases hzy : z = y
        · have HS := Lib.hid (take_same HP.out (by omega) (by omega) (by rw [← hze, ← hye]; exact hzy))
          have hb : (z != y) = false := by simp [bne, hzy]
          clear hze hye hc hc' hr hr' hlen hlen' hzy
          have hi0 : (0 : Int) ≤ (k : Int) := by omega
          have hi1 : (k : Int) < (n : Int) := by omega
          have hi2 : (k : Int) < (n' : Int) := by omega
          go_wp2_with fail
          go_quiet (fail)
          go_wp2
          go_roundw
          case rel => exact ⟨k + 1, m + nq, by omega, by go_num, by simp, HS.out⟩
          case measure => simp [intOf]; omega
        · have HS := Lib.hid (show false = sameB zs ys from (by
            simp only [sameB, decide_eq_false_iff_not]
            intro e
            subst e
            exact hzy (hze.trans hye.symm) : sameB zs ys = false).symm)
          have hb : (z != y) = true := by simp [bne, hzy]
          clear hze hye hc hc' hr hr' hlen hlen' hzy
          have hi0 : (0 : Int) ≤ (k : Int) := by omega
          have hi1 : (k : Int) < (n : Int) := by omega
          have hi2 : (k : Int) < (n' : Int) := by omega
          go_wp2_with fail
          go_quiet (fail)
          go_wp2
          go_ret
          exact ⟨ret_bool HS.out, below_draws (below_draws (Below.refl _ _) _) _⟩
      · obtain rfl : k = n := by omega
        have HS := Lib.hid (show true = sameB zs ys from (by
          have h := HP.out
          have hN := HN.out
          rw [List.take_of_length_le (by omega), List.take_of_length_le (by omega)] at h
          simp [sameB, h] : sameB zs ys = true).symm)
        clear hlen hlen'
        go_wp2
        go_ret
        exact ⟨ret_bool HS.out, below_draws (Below.refl _ _) _⟩
  · have HS := Lib.hid (sameB_len (a := zs) (b := ys) (by omega))
    have hnb : ((n : Int) != (n' : Int)) = true := by simp [bne]; omega
    clear hnn hlen hlen'
    go_enter Try.func35, Try.ntmps35
    go_wp2
    go_ret
    exact ⟨ret_bool HS.out.symm, Below.refl _ _⟩
end Go.Proofs.Ytidefcakodnffaa
