/-
  Contracts of SelectServer, of the program and of the reference.
-/
import Derived.Test.YtidefcakodnffaaPool2
import Derived.Handy
namespace Go.Proofs.Ytidefcakodnffaa
open Go.RowKit

/-- The best server below n and its weight; -1 and -1 where none runs. -/
def selP (s u key : Int) : Nat → Int × Int
  | 0 => (-1, -1)
  | n + 1 => if upB s u n && decide ((selP s u key n).2 < rweight n key) then ((n : Int), rweight n key) else selP s u key n
def select (s u key : Int) : Int := if vpool s u then (selP s u key s.toNat).1 else -1
theorem selP_inv (s u key : Int) : ∀ n : Nat, ((selP s u key n).1 = -1 ∧ (selP s u key n).2 = -1 ∧ ∀ j : Nat, j < n → upB s u j = false) ∨
    (0 ≤ (selP s u key n).1 ∧ (selP s u key n).1 < n ∧ (selP s u key n).2 = rweight (selP s u key n).1 key ∧ upB s u (selP s u key n).1 = true ∧ ∀ j : Nat, j < n → upB s u j = true → rweight j key ≤ (selP s u key n).2)
  | 0 => Or.inl ⟨rfl, rfl, fun _ h => absurd h (by omega)⟩
  | n + 1 => by
    have ih := selP_inv s u key n
    have hw := rweight_bd n key
    unfold selP
    by_cases h : (upB s u n && decide ((selP s u key n).2 < rweight n key)) = true
    · rw [if_pos h]
      simp only [Bool.and_eq_true, decide_eq_true_eq] at h
      refine Or.inr ⟨by simp, by simp; omega, rfl, h.1, fun j hj hu => ?_⟩
      rcases Nat.lt_or_ge j n with hjn | hjn
      · rcases ih with ⟨_, e2, ih⟩ | ⟨_, _, _, _, ih⟩
        · rw [ih j hjn] at hu; cases hu
        · have := ih j hjn hu; simp only; omega
      · obtain rfl : j = n := by omega
        exact Int.le_refl _
    · rw [if_neg h]
      rcases ih with ⟨e1, e2, ih⟩ | ⟨e1, e2, e3, e4, ih⟩
      · refine Or.inl ⟨e1, e2, fun j hj => ?_⟩
        rcases Nat.lt_or_ge j n with hjn | hjn
        · exact ih j hjn
        · obtain rfl : j = n := by omega
          cases hu : upB s u j
          · rfl
          · exact absurd (by simp [hu, e2]; omega) h
      · refine Or.inr ⟨e1, by omega, e3, e4, fun j hj hu => ?_⟩
        rcases Nat.lt_or_ge j n with hjn | hjn
        · exact ih j hjn hu
        · obtain rfl : j = n := by omega
          rcases Int.lt_or_le (selP s u key j).2 (rweight j key) with hlt | hge
          · exact absurd (by simp [hu, hlt]) h
          · exact hge
theorem selP_bd (s u key : Int) (n : Nat) : -1 ≤ (selP s u key n).1 ∧ ((selP s u key n).1 < n ∨ (selP s u key n).1 = -1) ∧ -1 ≤ (selP s u key n).2 ∧ (selP s u key n).2 < 2147483647 := by
  rcases selP_inv s u key n with ⟨e1, e2, _⟩ | ⟨e1, e2, e3, _⟩
  · omega
  · have := rweight_bd (selP s u key n).1 key; omega
theorem selP_no {s u key : Int} (h : vpool s u = false) : ∀ n, selP s u key n = (-1, -1)
  | 0 => rfl
  | n + 1 => by unfold selP; rw [selP_no h n]; simp [upB, h]
theorem selP_skip {s u key : Int} {n : Nat} (h : upB s u n = false) : selP s u key (n + 1) = selP s u key n := by rw [selP]; simp [h]
theorem selP_keep {s u key : Int} {n : Nat} (h : ¬ (selP s u key n).2 < rweight n key) : selP s u key (n + 1) = selP s u key n := by rw [selP, if_neg (by simp [h])]
theorem selP_take {s u key : Int} {n : Nat} (h : upB s u n = true) (h' : (selP s u key n).2 < rweight n key) : selP s u key (n + 1) = ((n : Int), rweight n key) := by rw [selP, if_pos (by simp [h, h'])]

theorem SelectServer_impl (s u key : Int) (hs : I64 s) (hk : I64 key) (w : World) : Calls Try.prog 26 #[.agg #[.int .i64 s, .int .i64 u], .int .i64 key] w fun e w' => e = .returned (.int .i64 (select s u key)) ∧ Below w.heap.size w w' := by
  cases h1 : vpool s u
  · have H := Lib.hid (show -1 = select s u key by simp [select, h1])
    go_enter Try.func26, Try.ntmps26
    go_wp2_with fail
    refine (IsValidPool_impl _ _ _).mono ?_
    rintro e w1 ⟨rfl, hb1⟩
    obtain ⟨hc1, hf1⟩ := bcell hb1
    have hz1_0 : w.heap.size < w1.heap.size := (by have := hb1.size; first | omega | (simp at this; omega))
    have hc1_0 := fun o => hc1 (w.heap.size) o (by go_size)
    have hf1_0 := fun o => hf1 (w.heap.size) o (by go_size)
    clear hc1 hf1
    have hy1 : w.heap.size ≤ w1.heap.size := (by have := hb1.size; first | omega | (simp at this; omega))
    have hB1 : Below w.heap.size w w1 := Below.trans (by go_grown) (hb1.mono (by go_size))
    go_wp2
    go_ret
    exact ⟨ret_int H.out, by go_grown⟩
  · obtain ⟨v1, v2, v3, v4⟩ := vpool_bd h1
    have HE := Lib.hid (show (selP s u key s.toNat).1 = select s u key by simp [select, h1])
    go_enter Try.func26, Try.ntmps26
    go_wp2_with fail
    refine (IsValidPool_impl _ _ _).mono ?_
    rintro e w1 ⟨rfl, hb1⟩
    obtain ⟨hc1, hf1⟩ := bcell hb1
    have hz1_0 : w.heap.size < w1.heap.size := (by have := hb1.size; first | omega | (simp at this; omega))
    have hc1_0 := fun o => hc1 (w.heap.size) o (by go_size)
    have hf1_0 := fun o => hf1 (w.heap.size) o (by go_size)
    clear hc1 hf1
    have hy1 : w.heap.size ≤ w1.heap.size := (by have := hb1.size; first | omega | (simp at this; omega))
    have hB1 : Below w.heap.size w w1 := Below.trans (by go_grown) (hb1.mono (by go_size))
    have d0 : w1.cell? ⟨w.heap.size, 0, none⟩ = some (.int .i64 s) := (hc1_0 0).trans (by simp [go_sem])
    have d1 : w1.cell? ⟨w.heap.size, 1, none⟩ = some (.int .i64 u) := (hc1_0 1).trans (by simp [go_sem])
    go_wp2_with fail
    go_loopw [5, 6, 7] (fun v5 v6 v7 wr => ∃ k : Nat, k ≤ s.toNat ∧ v7 = .int .i64 k ∧ v5 = .int .i64 (selP s u key k).1 ∧ v6 = .int .i64 (selP s u key k).2 ∧ wr.cell? ⟨w.heap.size, 0, none⟩ = some (.int .i64 s) ∧ wr.cell? ⟨w.heap.size, 1, none⟩ = some (.int .i64 u) ∧ w.heap.size < wr.heap.size ∧ Below w.heap.size w wr) (fun _ _ v7 _ => s.toNat - (intOf v7).toNat)
    case atStart => exact ⟨0, Nat.zero_le _, rfl, rfl, rfl, d0, d1, hz1_0, hB1⟩
    case round =>
      obtain ⟨k, hkn, rfl, rfl, rfl, c0, c1, hzr, hBr⟩ := hrel
      obtain ⟨p, hp⟩ : ∃ p, p = selP s u key k := ⟨_, rfl⟩
      have hbd := selP_bd s u key k
      rw [← hp] at hbd
      rw [← hp]
      obtain ⟨b1, b2, b3, b4⟩ := hbd
      by_cases hlt : k < s.toNat
      · have hlt' : (k : Int) < s := by omega
        have hki : I64 (k : Int) := ⟨by omega, by omega⟩
        have hw := rweight_bd k key
        cases hU : upB s u k
        · have HS := Lib.hid (show selP s u key (k + 1) = p by rw [hp]; exact selP_skip hU)
          clear hp d0 d1
          go_wp2_with fail
          refine (IsServerUp_impl s u k hs hki _).mono ?_
          rintro e w2 ⟨rfl, hb2⟩
          obtain ⟨hc2, hf2⟩ := bcell hb2
          have hz2_0 : w.heap.size < w2.heap.size := (by have := hb2.size; first | omega | (simp at this; omega))
          have hc2_0 := fun o => hc2 (w.heap.size) o (by go_size)
          have hf2_0 := fun o => hf2 (w.heap.size) o (by go_size)
          clear hc2 hf2
          have hy2 : w.heap.size ≤ w2.heap.size := (by have := hb2.size; first | omega | (simp at this; omega))
          have hB2 : Below w.heap.size w w2 := Below.trans (by go_grown) (hb2.mono (by go_size))
          go_wp2
          go_roundw
          case rel => exact ⟨k + 1, by omega, by go_num, by rw [HS.out], by rw [HS.out], (hc2_0 0).trans c0, (hc2_0 1).trans c1, hz2_0, hB2⟩
          case measure => simp [intOf]; omega
        · by_cases hgt : p.2 < rweight k key
          · have HS := Lib.hid (show selP s u key (k + 1) = ((k : Int), rweight k key) by exact selP_take hU (by rw [← hp]; exact hgt))
            clear hp d0 d1
            go_wp2_with fail
            refine (IsServerUp_impl s u k hs hki _).mono ?_
            rintro e w2 ⟨rfl, hb2⟩
            obtain ⟨hc2, hf2⟩ := bcell hb2
            have hz2_0 : w.heap.size < w2.heap.size := (by have := hb2.size; first | omega | (simp at this; omega))
            have hc2_0 := fun o => hc2 (w.heap.size) o (by go_size)
            have hf2_0 := fun o => hf2 (w.heap.size) o (by go_size)
            clear hc2 hf2
            have hy2 : w.heap.size ≤ w2.heap.size := (by have := hb2.size; first | omega | (simp at this; omega))
            have hB2 : Below w.heap.size w w2 := Below.trans (by go_grown) (hb2.mono (by go_size))
            go_wp2_with fail
            refine (RendezvousWeight_impl k key hki hk _).mono ?_
            rintro e w3 ⟨rfl, hb3⟩
            obtain ⟨hc3, hf3⟩ := bcell hb3
            have hz3_0 : w.heap.size < w3.heap.size := (by have := hb3.size; first | omega | (simp at this; omega))
            have hc3_0 := fun o => hc3 (w.heap.size) o (by go_size)
            have hf3_0 := fun o => hf3 (w.heap.size) o (by go_size)
            clear hc3 hf3
            have hy3 : w.heap.size ≤ w3.heap.size := (by have := hb3.size; first | omega | (simp at this; omega))
            have hB3 : Below w.heap.size w w3 := Below.trans (by go_grown) (hb3.mono (by go_size))
            go_wp2
            go_roundw
            case rel => exact ⟨k + 1, by omega, by go_num, by rw [HS.out], by rw [HS.out], (hc3_0 0).trans ((hc2_0 0).trans c0), (hc3_0 1).trans ((hc2_0 1).trans c1), hz3_0, hB3⟩
            case measure => simp [intOf]; omega
          · have HS := Lib.hid (show selP s u key (k + 1) = p by rw [hp]; exact selP_keep (by rw [← hp]; exact hgt))
            clear hp d0 d1
            go_wp2_with fail
            refine (IsServerUp_impl s u k hs hki _).mono ?_
            rintro e w2 ⟨rfl, hb2⟩
            obtain ⟨hc2, hf2⟩ := bcell hb2
            have hz2_0 : w.heap.size < w2.heap.size := (by have := hb2.size; first | omega | (simp at this; omega))
            have hc2_0 := fun o => hc2 (w.heap.size) o (by go_size)
            have hf2_0 := fun o => hf2 (w.heap.size) o (by go_size)
            clear hc2 hf2
            have hy2 : w.heap.size ≤ w2.heap.size := (by have := hb2.size; first | omega | (simp at this; omega))
            have hB2 : Below w.heap.size w w2 := Below.trans (by go_grown) (hb2.mono (by go_size))
            go_wp2_with fail
            refine (RendezvousWeight_impl k key hki hk _).mono ?_
            rintro e w3 ⟨rfl, hb3⟩
            obtain ⟨hc3, hf3⟩ := bcell hb3
            have hz3_0 : w.heap.size < w3.heap.size := (by have := hb3.size; first | omega | (simp at this; omega))
            have hc3_0 := fun o => hc3 (w.heap.size) o (by go_size)
            have hf3_0 := fun o => hf3 (w.heap.size) o (by go_size)
            clear hc3 hf3
            have hy3 : w.heap.size ≤ w3.heap.size := (by have := hb3.size; first | omega | (simp at this; omega))
            have hB3 : Below w.heap.size w w3 := Below.trans (by go_grown) (hb3.mono (by go_size))
            go_wp2
            go_roundw
            case rel => exact ⟨k + 1, by omega, by go_num, by rw [HS.out], by rw [HS.out], (hc3_0 0).trans ((hc2_0 0).trans c0), (hc3_0 1).trans ((hc2_0 1).trans c1), hz3_0, hB3⟩
            case measure => simp [intOf]; omega
      · obtain rfl : k = s.toNat := by omega
        have HS := Lib.hid (show p.1 = select s u key by rw [hp]; exact HE.out)
        clear hp d0 d1
        go_wp2
        go_ret
        exact ⟨ret_int HS.out, hBr⟩

theorem select_min (s u key : Int) : (selP s u key (min s.toNat 6)).1 = select s u key := by
  unfold select
  cases h : vpool s u
  · simp [selP_no h]
  · obtain ⟨v1, v2, _⟩ := vpool_bd h
    rw [if_pos rfl, Nat.min_eq_left (by omega)]
theorem SelectServer_spec (s u key : Int) (hs : I64 s) (hk : I64 key) (w : World) : Calls Try.prog 25 #[.agg #[.int .i64 s, .int .i64 u], .int .i64 key] w fun e w' => e = .returned (.int .i64 (select s u key)) ∧ Below w.heap.size w w' := by
  have HE := Lib.hid (select_min s u key)
  obtain ⟨m, hm⟩ : ∃ m, m = min s.toNat 6 := ⟨_, rfl⟩
  rw [← hm] at HE
  have hm1 : m ≤ s.toNat := by omega
  have hm2 : m ≤ 6 := by omega
  have HM := Lib.hid (show s ≤ m ∨ m = 6 by omega)
  clear hm
  go_enter Try.func25, Try.ntmps25
  go_wp2
  go_loopw [5, 6] (fun v5 v6 wr => ∃ k : Nat, k ≤ m ∧ v6 = .int .i64 k ∧ v5 = .int .i64 (selP s u key k).1 ∧ wr.cell? ⟨w.heap.size, 0, none⟩ = some (.int .i64 s) ∧ wr.cell? ⟨w.heap.size, 1, none⟩ = some (.int .i64 u) ∧ w.heap.size < wr.heap.size ∧ Below w.heap.size w wr) (fun _ v6 _ => m - (intOf v6).toNat)
  case atStart => exact ⟨0, Nat.zero_le _, rfl, rfl, by simp [go_sem], by simp [go_sem], by simp, by go_grown⟩
  case round =>
    obtain ⟨k, hkn, rfl, rfl, c0, c1, hzr, hBr⟩ := hrel
    obtain ⟨p, hp⟩ : ∃ p, p = selP s u key k := ⟨_, rfl⟩
    have hbd := selP_bd s u key k
    have hinv := selP_inv s u key k
    rw [← hp] at hbd hinv
    rw [← hp]
    obtain ⟨b1, b2, b3, b4⟩ := hbd
    by_cases hlt : k < m
    · have hlt1 : (k : Int) < s := by omega
      have hlt2 : (k : Int) < 6 := by omega
      have hki : I64 (k : Int) := ⟨by omega, by omega⟩
      have hw := rweight_bd k key
      cases hU : upB s u k
      · have HS := Lib.hid (show selP s u key (k + 1) = p by rw [hp]; exact selP_skip hU)
        clear hp hinv
        go_wp2_with fail
        refine (IsServerUp_spec s u k hs hki _).mono ?_
        rintro e w2 ⟨rfl, hb2⟩
        obtain ⟨hc2, hf2⟩ := bcell hb2
        have hz2_0 : w.heap.size < w2.heap.size := (by have := hb2.size; first | omega | (simp at this; omega))
        have hc2_0 := fun o => hc2 (w.heap.size) o (by go_size)
        have hf2_0 := fun o => hf2 (w.heap.size) o (by go_size)
        clear hc2 hf2
        have hy2 : w.heap.size ≤ w2.heap.size := (by have := hb2.size; first | omega | (simp at this; omega))
        have hB2 : Below w.heap.size w w2 := Below.trans (by go_grown) (hb2.mono (by go_size))
        go_wp2
        go_roundw
        case rel => exact ⟨k + 1, by omega, by go_num, by rw [HS.out], (hc2_0 0).trans c0, (hc2_0 1).trans c1, hz2_0, hB2⟩
        case measure => simp [intOf]; omega
      · by_cases hneg : p.1 < 0
        · have HS := Lib.hid (show selP s u key (k + 1) = ((k : Int), rweight k key) by exact selP_take hU (by rw [← hp]; omega))
          clear hp hinv
          go_wp2_with fail
          refine (IsServerUp_spec s u k hs hki _).mono ?_
          rintro e w2 ⟨rfl, hb2⟩
          obtain ⟨hc2, hf2⟩ := bcell hb2
          have hz2_0 : w.heap.size < w2.heap.size := (by have := hb2.size; first | omega | (simp at this; omega))
          have hc2_0 := fun o => hc2 (w.heap.size) o (by go_size)
          have hf2_0 := fun o => hf2 (w.heap.size) o (by go_size)
          clear hc2 hf2
          have hy2 : w.heap.size ≤ w2.heap.size := (by have := hb2.size; first | omega | (simp at this; omega))
          have hB2 : Below w.heap.size w w2 := Below.trans (by go_grown) (hb2.mono (by go_size))
          go_wp2
          go_roundw
          case rel => exact ⟨k + 1, by omega, by go_num, by rw [HS.out], (hc2_0 0).trans c0, (hc2_0 1).trans c1, hz2_0, hB2⟩
          case measure => simp [intOf]; omega
        · have hpi : I64 p.1 := ⟨by omega, by omega⟩
          have hp2 : p.2 = rweight p.1 key := by
            rcases hinv with ⟨e1, _⟩ | ⟨_, _, e3, _⟩
            · omega
            · exact e3
          by_cases hgt : rweight p.1 key < rweight k key
          · have HS := Lib.hid (show selP s u key (k + 1) = ((k : Int), rweight k key) by exact selP_take hU (by rw [← hp, hp2]; exact hgt))
            clear hp hinv hp2
            go_wp2_with fail
            refine (IsServerUp_spec s u k hs hki _).mono ?_
            rintro e w2 ⟨rfl, hb2⟩
            obtain ⟨hc2, hf2⟩ := bcell hb2
            have hz2_0 : w.heap.size < w2.heap.size := (by have := hb2.size; first | omega | (simp at this; omega))
            have hc2_0 := fun o => hc2 (w.heap.size) o (by go_size)
            have hf2_0 := fun o => hf2 (w.heap.size) o (by go_size)
            clear hc2 hf2
            have hy2 : w.heap.size ≤ w2.heap.size := (by have := hb2.size; first | omega | (simp at this; omega))
            have hB2 : Below w.heap.size w w2 := Below.trans (by go_grown) (hb2.mono (by go_size))
            go_wp2_with fail
            refine (RendezvousWeight_spec k key hki hk _).mono ?_
            rintro e w3 ⟨rfl, hb3⟩
            obtain ⟨hc3, hf3⟩ := bcell hb3
            have hz3_0 : w.heap.size < w3.heap.size := (by have := hb3.size; first | omega | (simp at this; omega))
            have hc3_0 := fun o => hc3 (w.heap.size) o (by go_size)
            have hf3_0 := fun o => hf3 (w.heap.size) o (by go_size)
            clear hc3 hf3
            have hy3 : w.heap.size ≤ w3.heap.size := (by have := hb3.size; first | omega | (simp at this; omega))
            have hB3 : Below w.heap.size w w3 := Below.trans (by go_grown) (hb3.mono (by go_size))
            go_wp2_with fail
            refine (RendezvousWeight_spec p.1 key hpi hk _).mono ?_
            rintro e w4 ⟨rfl, hb4⟩
            obtain ⟨hc4, hf4⟩ := bcell hb4
            have hz4_0 : w.heap.size < w4.heap.size := (by have := hb4.size; first | omega | (simp at this; omega))
            have hc4_0 := fun o => hc4 (w.heap.size) o (by go_size)
            have hf4_0 := fun o => hf4 (w.heap.size) o (by go_size)
            clear hc4 hf4
            have hy4 : w.heap.size ≤ w4.heap.size := (by have := hb4.size; first | omega | (simp at this; omega))
            have hB4 : Below w.heap.size w w4 := Below.trans (by go_grown) (hb4.mono (by go_size))
            go_wp2
            go_roundw
            case rel => exact ⟨k + 1, by omega, by go_num, by rw [HS.out], (hc4_0 0).trans ((hc3_0 0).trans ((hc2_0 0).trans c0)), (hc4_0 1).trans ((hc3_0 1).trans ((hc2_0 1).trans c1)), hz4_0, hB4⟩
            case measure => simp [intOf]; omega
          · have HS := Lib.hid (show selP s u key (k + 1) = p by rw [hp]; exact selP_keep (by rw [← hp, hp2]; exact hgt))
            clear hp hinv hp2
            go_wp2_with fail
            refine (IsServerUp_spec s u k hs hki _).mono ?_
            rintro e w2 ⟨rfl, hb2⟩
            obtain ⟨hc2, hf2⟩ := bcell hb2
            have hz2_0 : w.heap.size < w2.heap.size := (by have := hb2.size; first | omega | (simp at this; omega))
            have hc2_0 := fun o => hc2 (w.heap.size) o (by go_size)
            have hf2_0 := fun o => hf2 (w.heap.size) o (by go_size)
            clear hc2 hf2
            have hy2 : w.heap.size ≤ w2.heap.size := (by have := hb2.size; first | omega | (simp at this; omega))
            have hB2 : Below w.heap.size w w2 := Below.trans (by go_grown) (hb2.mono (by go_size))
            go_wp2_with fail
            refine (RendezvousWeight_spec k key hki hk _).mono ?_
            rintro e w3 ⟨rfl, hb3⟩
            obtain ⟨hc3, hf3⟩ := bcell hb3
            have hz3_0 : w.heap.size < w3.heap.size := (by have := hb3.size; first | omega | (simp at this; omega))
            have hc3_0 := fun o => hc3 (w.heap.size) o (by go_size)
            have hf3_0 := fun o => hf3 (w.heap.size) o (by go_size)
            clear hc3 hf3
            have hy3 : w.heap.size ≤ w3.heap.size := (by have := hb3.size; first | omega | (simp at this; omega))
            have hB3 : Below w.heap.size w w3 := Below.trans (by go_grown) (hb3.mono (by go_size))
            go_wp2_with fail
            refine (RendezvousWeight_spec p.1 key hpi hk _).mono ?_
            rintro e w4 ⟨rfl, hb4⟩
            obtain ⟨hc4, hf4⟩ := bcell hb4
            have hz4_0 : w.heap.size < w4.heap.size := (by have := hb4.size; first | omega | (simp at this; omega))
            have hc4_0 := fun o => hc4 (w.heap.size) o (by go_size)
            have hf4_0 := fun o => hf4 (w.heap.size) o (by go_size)
            clear hc4 hf4
            have hy4 : w.heap.size ≤ w4.heap.size := (by have := hb4.size; first | omega | (simp at this; omega))
            have hB4 : Below w.heap.size w w4 := Below.trans (by go_grown) (hb4.mono (by go_size))
            go_wp2
            go_roundw
            case rel => exact ⟨k + 1, by omega, by go_num, by rw [HS.out], (hc4_0 0).trans ((hc3_0 0).trans ((hc2_0 0).trans c0)), (hc4_0 1).trans ((hc3_0 1).trans ((hc2_0 1).trans c1)), hz4_0, hB4⟩
            case measure => simp [intOf]; omega
    · obtain rfl : k = m := by omega
      have HS := Lib.hid (show p.1 = select s u key by rw [hp]; exact HE.out)
      clear hp hinv
      rcases HM.out with hx | hx
      · have hx' : ¬ (k : Int) < s := by omega
        clear hx
        go_wp2
        go_ret
        exact ⟨ret_int HS.out, hBr⟩
      · subst hx
        by_cases hx' : (6 : Int) < s
        · go_wp2
          go_ret
          exact ⟨ret_int HS.out, hBr⟩
        · go_wp2
          go_ret
          exact ⟨ret_int HS.out, hBr⟩

end Go.Proofs.Ytidefcakodnffaa
