/-
  Contracts of FormatPool, of the program and of the reference, and the walk of the law FnExactFormatPool.
-/
import Derived.Test.YtidefcakodnffaaPool2
import Derived.Test.YtidefcakodnffaaTypes
import Derived.Handy
namespace Go.Proofs.Ytidefcakodnffaa
open Go.RowKit

def fmtB (s u : Int) : Nat → ByteArray
  | 0 => ⟨#[]⟩
  | n + 1 => fmtB s u n ++ (if upB s u n then ⟨#[35]⟩ else ⟨#[46]⟩)
theorem fmtB_size (s u : Int) : ∀ n, (fmtB s u n).size = n
  | 0 => rfl
  | n + 1 => by
    unfold fmtB
    rw [ByteArray.size_append, fmtB_size s u n]
    split <;> rfl
def fmtP (s u : Int) : ByteArray := if vpool s u then fmtB s u s.toNat else ⟨#[]⟩
theorem ret_str {a b : ByteArray} (h : a = b) : Ending.returned (.string a) = .returned (.string b) := by rw [h]
theorem FormatPool_impl (s u : Int) (hs : I64 s) (w : World) : Calls Try.prog 21 #[.agg #[.int .i64 s, .int .i64 u]] w fun e w' => e = .returned (.string (fmtP s u)) ∧ Below w.heap.size w w' := by
  cases h1 : vpool s u
  · have H := Lib.hid (show (⟨#[]⟩ : ByteArray) = fmtP s u by simp [fmtP, h1])
    go_enter Try.func21, Try.ntmps21
    go_wp2_with fail
    refine (IsValidPool_impl _ _ _).mono ?_
    rintro e w1 ⟨rfl, hb1⟩
    obtain ⟨hc1, hf1⟩ := bcell hb1
    have hz1_0 : w.heap.size < w1.heap.size := (by have := hb1.size; first | omega | (simp at this; omega))
    have hc1_0 := fun o => hc1 (w.heap.size) o (by go_size)
    have hf1_0 := fun o => hf1 (w.heap.size) o (by go_size)
    clear hc1 hf1
    have hy1 : w.heap.size ≤ w1.heap.size := (by have := hb1.size; first | omega | (simp at this; omega))
    have hB1 : Below w.heap.size w w1 := Below.trans (by go_grown) (hb1.mono (by go_size))
    go_wp2
    go_ret
    exact ⟨ret_str H.out, by go_grown⟩
  · obtain ⟨v1, v2, v3, v4⟩ := vpool_bd h1
    have HF := Lib.hid (show fmtB s u s.toNat = fmtP s u by simp [fmtP, h1])
    go_enter Try.func21, Try.ntmps21
    go_wp2_with fail
    refine (IsValidPool_impl _ _ _).mono ?_
    rintro e w1 ⟨rfl, hb1⟩
    obtain ⟨hc1, hf1⟩ := bcell hb1
    have hz1_0 : w.heap.size < w1.heap.size := (by have := hb1.size; first | omega | (simp at this; omega))
    have hc1_0 := fun o => hc1 (w.heap.size) o (by go_size)
    have hf1_0 := fun o => hf1 (w.heap.size) o (by go_size)
    clear hc1 hf1
    have hy1 : w.heap.size ≤ w1.heap.size := (by have := hb1.size; first | omega | (simp at this; omega))
    have hB1 : Below w.heap.size w w1 := Below.trans (by go_grown) (hb1.mono (by go_size))
    have d0 : w1.cell? ⟨w.heap.size, 0, none⟩ = some (.int .i64 s) := (hc1_0 0).trans (by simp [go_sem])
    have d1 : w1.cell? ⟨w.heap.size, 1, none⟩ = some (.int .i64 u) := (hc1_0 1).trans (by simp [go_sem])
    go_wp2_with fail
    go_loopw [3, 4] (fun v3 v4 wr => ∃ k : Nat, k ≤ s.toNat ∧ v4 = .int .i64 k ∧ v3 = .string (fmtB s u k) ∧ wr.cell? ⟨w.heap.size, 0, none⟩ = some (.int .i64 s) ∧ wr.cell? ⟨w.heap.size, 1, none⟩ = some (.int .i64 u) ∧ w.heap.size < wr.heap.size ∧ Below w.heap.size w wr) (fun _ v4 _ => s.toNat - (intOf v4).toNat)
    case atStart => exact ⟨0, Nat.zero_le _, rfl, rfl, d0, d1, hz1_0, hB1⟩
    case round =>
      obtain ⟨k, hkn, rfl, rfl, c0, c1, hzr, hBr⟩ := hrel
      have hsz := fmtB_size s u k
      obtain ⟨bs, hbs⟩ : ∃ bs, bs = fmtB s u k := ⟨_, rfl⟩
      rw [← hbs] at hsz
      rw [← hbs]
      by_cases hlt : k < s.toNat
      · have hlt' : (k : Int) < s := by omega
        have hki : I64 (k : Int) := ⟨by omega, by omega⟩
        cases hU : upB s u k
        · have HS := Lib.hid (show fmtB s u (k + 1) = bs ++ ⟨#[46]⟩ by rw [hbs, fmtB, hU]; rfl)
          clear hbs
          go_wp2_with fail
          refine (IsServerUp_impl s u k hs hki _).mono ?_
          rintro e w2 ⟨rfl, hb2⟩
          obtain ⟨hc2, hf2⟩ := bcell hb2
          have hz2_0 : w.heap.size < w2.heap.size := (by have := hb2.size; first | omega | (simp at this; omega))
          have hc2_0 := fun o => hc2 (w.heap.size) o (by go_size)
          have hf2_0 := fun o => hf2 (w.heap.size) o (by go_size)
          clear hc2 hf2
          have hy2 : w.heap.size ≤ w2.heap.size := (by have := hb2.size; first | omega | (simp at this; omega))
          have hB2 : Below w.heap.size w w2 := Below.trans (by go_grown) (hb2.mono (by go_size))
          go_wp2
          go_roundw
          case rel => exact ⟨k + 1, by omega, by go_num, by rw [HS.out], (hc2_0 0).trans c0, (hc2_0 1).trans c1, hz2_0, hB2⟩
          case measure => simp [intOf]; omega
        · have HS := Lib.hid (show fmtB s u (k + 1) = bs ++ ⟨#[35]⟩ by rw [hbs, fmtB, hU]; rfl)
          clear hbs
          go_wp2_with fail
          refine (IsServerUp_impl s u k hs hki _).mono ?_
          rintro e w2 ⟨rfl, hb2⟩
          obtain ⟨hc2, hf2⟩ := bcell hb2
          have hz2_0 : w.heap.size < w2.heap.size := (by have := hb2.size; first | omega | (simp at this; omega))
          have hc2_0 := fun o => hc2 (w.heap.size) o (by go_size)
          have hf2_0 := fun o => hf2 (w.heap.size) o (by go_size)
          clear hc2 hf2
          have hy2 : w.heap.size ≤ w2.heap.size := (by have := hb2.size; first | omega | (simp at this; omega))
          have hB2 : Below w.heap.size w w2 := Below.trans (by go_grown) (hb2.mono (by go_size))
          go_wp2
          go_roundw
          case rel => exact ⟨k + 1, by omega, by go_num, by rw [HS.out], (hc2_0 0).trans c0, (hc2_0 1).trans c1, hz2_0, hB2⟩
          case measure => simp [intOf]; omega
      · obtain rfl : k = s.toNat := by omega
        have HS := Lib.hid (show bs = fmtP s u by rw [hbs]; exact HF.out)
        clear hbs hsz
        go_wp2
        go_ret
        exact ⟨ret_str HS.out, by go_grown⟩
theorem FormatPool_spec (s u : Int) (hs : I64 s) (w : World) : Calls Try.prog 20 #[.agg #[.int .i64 s, .int .i64 u]] w fun e w' => e = .returned (.string (fmtP s u)) ∧ Below w.heap.size w w' := by
  cases h1 : vpool s u
  · have H := Lib.hid (show (⟨#[]⟩ : ByteArray) = fmtP s u by simp [fmtP, h1])
    go_enter Try.func20, Try.ntmps20
    go_wp2_with fail
    refine wp_loop_rounds 1 ?_
    rw [rounds_succ]
    go_wp2_with fail
    refine (IsValidPool_spec _ _ _).mono ?_
    rintro e w1 ⟨rfl, hb1⟩
    obtain ⟨hc1, hf1⟩ := bcell hb1
    have hz1_0 : w.heap.size < w1.heap.size := (by have := hb1.size; first | omega | (simp at this; omega))
    have hc1_0 := fun o => hc1 (w.heap.size) o (by go_size)
    have hf1_0 := fun o => hf1 (w.heap.size) o (by go_size)
    clear hc1 hf1
    have hy1 : w.heap.size ≤ w1.heap.size := (by have := hb1.size; first | omega | (simp at this; omega))
    have hB1 : Below w.heap.size w w1 := Below.trans (by go_grown) (hb1.mono (by go_size))
    go_wp2
    go_ret
    exact ⟨ret_str H.out, by go_grown⟩
  · obtain ⟨v1, v2, v3, v4⟩ := vpool_bd h1
    have HF := Lib.hid (show fmtB s u s.toNat = fmtP s u by simp [fmtP, h1])
    go_enter Try.func20, Try.ntmps20
    go_wp2_with fail
    go_loopw [3, 4] (fun v3 v4 wr => ∃ k : Nat, k ≤ s.toNat ∧ v4 = .int .i64 k ∧ v3 = .string (fmtB s u k) ∧ wr.cell? ⟨w.heap.size, 0, none⟩ = some (.int .i64 s) ∧ wr.cell? ⟨w.heap.size, 1, none⟩ = some (.int .i64 u) ∧ w.heap.size < wr.heap.size ∧ Below w.heap.size w wr) (fun _ v4 _ => s.toNat - (intOf v4).toNat)
    case atStart => exact ⟨0, Nat.zero_le _, rfl, rfl, by simp [go_sem], by simp [go_sem], by simp, by go_grown⟩
    case round =>
      obtain ⟨k, hkn, rfl, rfl, c0, c1, hzr, hBr⟩ := hrel
      have hsz := fmtB_size s u k
      obtain ⟨bs, hbs⟩ : ∃ bs, bs = fmtB s u k := ⟨_, rfl⟩
      rw [← hbs] at hsz
      rw [← hbs]
      by_cases hlt : k < s.toNat
      · have hlt' : (k : Int) < s := by omega
        have hki : I64 (k : Int) := ⟨by omega, by omega⟩
        cases hU : upB s u k
        · have HS := Lib.hid (show fmtB s u (k + 1) = bs ++ ⟨#[46]⟩ by rw [hbs, fmtB, hU]; rfl)
          clear hbs
          go_wp2_with fail
          refine (IsValidPool_spec _ _ _).mono ?_
          rintro e w3 ⟨rfl, hb3⟩
          obtain ⟨hc3, hf3⟩ := bcell hb3
          have hz3_0 : w.heap.size < w3.heap.size := (by have := hb3.size; first | omega | (simp at this; omega))
          have hc3_0 := fun o => hc3 (w.heap.size) o (by go_size)
          have hf3_0 := fun o => hf3 (w.heap.size) o (by go_size)
          clear hc3 hf3
          have hy3 : w.heap.size ≤ w3.heap.size := (by have := hb3.size; first | omega | (simp at this; omega))
          have hB3 : Below w.heap.size w w3 := Below.trans (by go_grown) (hb3.mono (by go_size))
          go_wp2_with fail
          refine (IsServerUp_spec s u k hs hki _).mono ?_
          rintro e w2 ⟨rfl, hb2⟩
          obtain ⟨hc2, hf2⟩ := bcell hb2
          have hz2_0 : w.heap.size < w2.heap.size := (by have := hb2.size; first | omega | (simp at this; omega))
          have hc2_0 := fun o => hc2 (w.heap.size) o (by go_size)
          have hf2_0 := fun o => hf2 (w.heap.size) o (by go_size)
          clear hc2 hf2
          have hy2 : w.heap.size ≤ w2.heap.size := (by have := hb2.size; first | omega | (simp at this; omega))
          have hB2 : Below w.heap.size w w2 := Below.trans (by go_grown) (hb2.mono (by go_size))
          go_wp2
          go_roundw
          case rel => exact ⟨k + 1, by omega, by go_num, by rw [HS.out], (hc2_0 0).trans ((hc3_0 0).trans c0), (hc2_0 1).trans ((hc3_0 1).trans c1), hz2_0, hB2⟩
          case measure => simp [intOf]; omega
        · have HS := Lib.hid (show fmtB s u (k + 1) = bs ++ ⟨#[35]⟩ by rw [hbs, fmtB, hU]; rfl)
          clear hbs
          go_wp2_with fail
          refine (IsValidPool_spec _ _ _).mono ?_
          rintro e w3 ⟨rfl, hb3⟩
          obtain ⟨hc3, hf3⟩ := bcell hb3
          have hz3_0 : w.heap.size < w3.heap.size := (by have := hb3.size; first | omega | (simp at this; omega))
          have hc3_0 := fun o => hc3 (w.heap.size) o (by go_size)
          have hf3_0 := fun o => hf3 (w.heap.size) o (by go_size)
          clear hc3 hf3
          have hy3 : w.heap.size ≤ w3.heap.size := (by have := hb3.size; first | omega | (simp at this; omega))
          have hB3 : Below w.heap.size w w3 := Below.trans (by go_grown) (hb3.mono (by go_size))
          go_wp2_with fail
          refine (IsServerUp_spec s u k hs hki _).mono ?_
          rintro e w2 ⟨rfl, hb2⟩
          obtain ⟨hc2, hf2⟩ := bcell hb2
          have hz2_0 : w.heap.size < w2.heap.size := (by have := hb2.size; first | omega | (simp at this; omega))
          have hc2_0 := fun o => hc2 (w.heap.size) o (by go_size)
          have hf2_0 := fun o => hf2 (w.heap.size) o (by go_size)
          clear hc2 hf2
          have hy2 : w.heap.size ≤ w2.heap.size := (by have := hb2.size; first | omega | (simp at this; omega))
          have hB2 : Below w.heap.size w w2 := Below.trans (by go_grown) (hb2.mono (by go_size))
          go_wp2
          go_roundw
          case rel => exact ⟨k + 1, by omega, by go_num, by rw [HS.out], (hc2_0 0).trans ((hc3_0 0).trans c0), (hc2_0 1).trans ((hc3_0 1).trans c1), hz2_0, hB2⟩
          case measure => simp [intOf]; omega
      · obtain rfl : k = s.toNat := by omega
        have HS := Lib.hid (show bs = fmtP s u by rw [hbs]; exact HF.out)
        clear hbs hsz
        go_wp2_with fail
        refine (IsValidPool_spec _ _ _).mono ?_
        rintro e w3 ⟨rfl, hb3⟩
        obtain ⟨hc3, hf3⟩ := bcell hb3
        have hz3_0 : w.heap.size < w3.heap.size := (by have := hb3.size; first | omega | (simp at this; omega))
        have hc3_0 := fun o => hc3 (w.heap.size) o (by go_size)
        have hf3_0 := fun o => hf3 (w.heap.size) o (by go_size)
        clear hc3 hf3
        have hy3 : w.heap.size ≤ w3.heap.size := (by have := hb3.size; first | omega | (simp at this; omega))
        have hB3 : Below w.heap.size w w3 := Below.trans (by go_grown) (hb3.mono (by go_size))
        go_wp2
        go_ret
        exact ⟨ret_str HS.out, by go_grown⟩
theorem walkFnExactFormatPool (v0 : Value) (W : World) (i0 : InServerPool23 W W.heap.size v0) : Calls Try.prog 6 #[v0] W (Tr W) := by
  obtain ⟨s, u, rfl, hs, hu⟩ := i0
  go_enter Try.func6, Try.ntmps6
  go_wp2_with fail
  refine (toServerPool _ _ _).mono ?_
  rintro e w1 ⟨rfl, hb1⟩
  obtain ⟨hc1, hf1⟩ := bcell hb1
  have hz1_0 : W.heap.size < w1.heap.size := (by have := hb1.size; first | omega | (simp at this; omega))
  have hc1_0 := fun o => hc1 (W.heap.size) o (by go_size)
  have hf1_0 := fun o => hf1 (W.heap.size) o (by go_size)
  clear hc1 hf1
  have hy1 : W.heap.size ≤ w1.heap.size := (by have := hb1.size; first | omega | (simp at this; omega))
  have hB1 : Below W.heap.size W w1 := Below.trans (by go_grown) (hb1.mono (by go_size))
  go_wp2_with fail
  refine (FormatPool_spec _ _ hs _).mono ?_
  rintro e w2 ⟨rfl, hb2⟩
  obtain ⟨hc2, hf2⟩ := bcell hb2
  have hz2_0 : W.heap.size < w2.heap.size := (by have := hb2.size; first | omega | (simp at this; omega))
  have hc2_0 := fun o => hc2 (W.heap.size) o (by go_size)
  have hf2_0 := fun o => hf2 (W.heap.size) o (by go_size)
  clear hc2 hf2
  have hy2 : W.heap.size ≤ w2.heap.size := (by have := hb2.size; first | omega | (simp at this; omega))
  have hB2 : Below W.heap.size W w2 := Below.trans (by go_grown) (hb2.mono (by go_size))
  go_wp2_with fail
  refine (toServerPool _ _ _).mono ?_
  rintro e w3 ⟨rfl, hb3⟩
  obtain ⟨hc3, hf3⟩ := bcell hb3
  have hz3_0 : W.heap.size < w3.heap.size := (by have := hb3.size; first | omega | (simp at this; omega))
  have hc3_0 := fun o => hc3 (W.heap.size) o (by go_size)
  have hf3_0 := fun o => hf3 (W.heap.size) o (by go_size)
  clear hc3 hf3
  have hy3 : W.heap.size ≤ w3.heap.size := (by have := hb3.size; first | omega | (simp at this; omega))
  have hB3 : Below W.heap.size W w3 := Below.trans (by go_grown) (hb3.mono (by go_size))
  go_wp2_with fail
  refine (FormatPool_impl _ _ hs _).mono ?_
  rintro e w4 ⟨rfl, hb4⟩
  obtain ⟨hc4, hf4⟩ := bcell hb4
  have hz4_0 : W.heap.size < w4.heap.size := (by have := hb4.size; first | omega | (simp at this; omega))
  have hc4_0 := fun o => hc4 (W.heap.size) o (by go_size)
  have hf4_0 := fun o => hf4 (W.heap.size) o (by go_size)
  clear hc4 hf4
  have hy4 : W.heap.size ≤ w4.heap.size := (by have := hb4.size; first | omega | (simp at this; omega))
  have hB4 : Below W.heap.size W w4 := Below.trans (by go_grown) (hb4.mono (by go_size))
  go_wp2
  go_ret
  exact ⟨rfl, by go_grown⟩
end Go.Proofs.Ytidefcakodnffaa
