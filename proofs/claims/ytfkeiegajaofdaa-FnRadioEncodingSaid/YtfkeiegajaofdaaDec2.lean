/-
  More plain facts on reading: what holds of what was read, and that writing and reading undo each other.
-/
import Derived.Test.YtfkeiegajaofdaaDec
namespace Go.Proofs.Ytfkeiegajaofdaa
open Go.RowKit

/-- A message that fills its bytes. -/
def dsec (zs : List Int) : Int × Int × List Int × Int × Bool := match rsec zs 0 with
  | (d, c, z, m, r, true) => bif decide (r = (zs.length : Int)) then (d, c, z, m, true) else (0, 0, [], 0, false)
  | (_, _, _, _, _, false) => (0, 0, [], 0, false)
section
variable {zs z ls : List Int} {d c m r a b p off : Int} {o : Bool}
theorem dsec_1 (h : rsec zs 0 = (d, c, z, m, r, false)) : dsec zs = (0, 0, [], 0, false) := by simp only [dsec, h]
theorem dsec_2 (h : rsec zs 0 = (d, c, z, m, r, true)) (h2 : r ≠ (zs.length : Int)) : dsec zs = (0, 0, [], 0, false) := by simp only [dsec, h, decide_eq_false h2, cond_false]
theorem dsec_3 (h : rsec zs 0 = (d, c, z, m, r, true)) (h2 : r = (zs.length : Int)) : dsec zs = (d, c, z, m, true) := by simp only [dsec, h, decide_eq_true h2, cond_true]
theorem vsec_len {n : Nat} (h : vsec d c n m = true) : n ≤ 60 := (vsec_bd h).2.2.2.1
theorem rsec_all (hz : okz .u8 zs) (h : rsec zs off = (d, c, z, m, r, o)) : okz .u8 z ∧ z.length ≤ 60 ∧ 0 ≤ d ∧ d ≤ 1 ∧ 0 ≤ c ∧ c ≤ 100000 ∧ 0 ≤ m ∧ m ≤ 2147483646 ∧ 0 ≤ r ∧ r ≤ (zs.length : Int) := by
  cases o with
  | true =>
    obtain ⟨h1, h2, h3, h4, h5, _⟩ := rsec_ok hz h
    have hb := vsec_bd h1
    exact ⟨h2, by omega, by omega, by omega, by omega, by omega, by omega, by omega, by omega, by omega⟩
  | false =>
    have key : (d, c, z, m, r) = (0, 0, [], 0, 0) := by
      unfold rsec at h
      split at h
      · split at h
        · split at h
          · revert h
            cases vsec _ _ _ _ <;> intro h <;> cases h
            rfl
          · cases h; rfl
        · cases h; rfl
      · cases h; rfl
    cases key
    refine ⟨okz_nil _, Nat.zero_le _, ?_⟩
    omega
theorem dsec_all (hz : okz .u8 zs) (h : dsec zs = (d, c, z, m, o)) : okz .u8 z ∧ z.length ≤ 60 ∧ 0 ≤ d ∧ d ≤ 1 ∧ 0 ≤ c ∧ c ≤ 100000 ∧ 0 ≤ m ∧ m ≤ 2147483646 := by
  rcases h1 : rsec zs 0 with ⟨d', c', z', m', r', o'⟩
  have hb := rsec_all hz h1
  cases o' with
  | false => rw [dsec_1 h1] at h; cases h; refine ⟨okz_nil _, Nat.zero_le _, ?_⟩; omega
  | true =>
    by_cases hr : r' = (zs.length : Int)
    · rw [dsec_3 h1 hr] at h; cases h; exact ⟨hb.1, hb.2.1, by omega, by omega, by omega, by omega, by omega, by omega⟩
    · rw [dsec_2 h1 hr] at h; cases h; refine ⟨okz_nil _, Nat.zero_le _, ?_⟩; omega
theorem drad_all (hz : okz .u8 zs) {g e : Int} (h : drad zs = (g, e, d, c, z, m, o)) : okz .u8 z ∧ z.length ≤ 60 ∧ 0 ≤ g ∧ g ≤ 100000 ∧ 0 ≤ e ∧ e ≤ 100000 ∧ 0 ≤ d ∧ d ≤ 1 ∧ 0 ≤ c ∧ c ≤ 100000 ∧ 0 ≤ m ∧ m ≤ 2147483646 := by
  have zero : drad zs = (0, 0, 0, 0, [], 0, false) → okz .u8 z ∧ z.length ≤ 60 ∧ 0 ≤ g ∧ g ≤ 100000 ∧ 0 ≤ e ∧ e ≤ 100000 ∧ 0 ≤ d ∧ d ≤ 1 ∧ 0 ≤ c ∧ c ≤ 100000 ∧ 0 ≤ m ∧ m ≤ 2147483646 := fun h0 => by
    rw [h0] at h; cases h; refine ⟨okz_nil _, Nat.zero_le _, ?_⟩; omega
  rcases h1 : dec2 zs 0 with ⟨ls, p, o1⟩
  cases o1 with
  | false => exact zero (drad_1 h1)
  | true =>
    obtain ⟨a, b, q0, rfl, _⟩ := dec2_ok hz h1
    by_cases hin : inR a 0 100000 = true ∧ inR b 0 100000 = true
    · rcases h2 : rsec zs p with ⟨d', c', z', m', r', o2⟩
      have hb := rsec_all hz h2
      cases o2 with
      | false => exact zero (drad_3 h1 hin.1 hin.2 h2)
      | true =>
        by_cases hr : r' = (zs.length : Int)
        · rw [drad_5 h1 hin.1 hin.2 h2 hr] at h
          cases h
          obtain ⟨i1, i2⟩ := inR_iff.1 hin.1
          obtain ⟨i3, i4⟩ := inR_iff.1 hin.2
          exact ⟨hb.1, hb.2.1, by omega, by omega, by omega, by omega, by omega, by omega, by omega, by omega, by omega, by omega⟩
        · exact zero (drad_4 h1 hin.1 hin.2 h2 hr)
    · exact zero (drad_2 h1 hin)
/-- The reference cuts the message off before it reads it. -/
theorem drad_cut {g e : Int} (hz : okz .u8 zs) (h1 : dec2 zs 0 = ([g, e], p, true)) (hg : inR g 0 100000 = true) (he : inR e 0 100000 = true) (h : dsec (zs.drop p.toNat) = (d, c, z, m, o)) :
    drad zs = bif o then (g, e, d, c, z, m, true) else (0, 0, 0, 0, [], 0, false) := by
  obtain ⟨_, _, _, _, _, _, _, _, _, _, h0, hp, hl⟩ := dec2_ok hz h1
  rcases h2 : rsec zs p with ⟨d', c', z', m', r', o'⟩
  have hpn : ((p.toNat : Nat) : Int) = p := by omega
  have h3 := rsec_drop (d := d') (c := c') (z := z') (m := m') (r := r') (b := o') (a := p.toNat) hz (by omega) (by rw [hpn]; exact h2)
  cases o' with
  | false =>
    rw [dsec_1 h3] at h; cases h
    rw [drad_3 h1 hg he h2, cond_false]
  | true =>
    obtain ⟨_, _, _, b4, b5, _⟩ := rsec_ok hz h2
    rw [cond_true] at h3
    by_cases hr : r' = (zs.length : Int)
    · rw [dsec_3 h3 (by rw [List.length_drop]; omega)] at h; cases h
      rw [drad_5 h1 hg he h2 hr, cond_true]
    · rw [dsec_2 h3 (by rw [List.length_drop]; omega)] at h; cases h
      rw [drad_4 h1 hg he h2 hr, cond_false]
end
/-- A part of what came in, or is owned. -/
theorem rd_cut8 {κ : IntKind} {w : World} {B n c l r : Nat} {A : Option Addr} {zs : List Int} (h : Rd w B A n (zs.map (Value.int κ))) (h1 : l ≤ r) (h2 : r ≤ n) (hc : n ≤ c) : Rd w B (cutA A c l 1) (r - l) (((zs.take r).drop l).map (Value.int κ)) := by
  have := (h.m1).cut h1 h2 hc
  simp only [Nat.mul_one] at this
  rw [← List.map_take, ← List.map_drop] at this
  exact this
/-- Writing, then reading. -/
theorem rdk_venc (rest : List Int) : ∀ (f k o : Nat) (acc n : Int) (pre : List Int), pre.length = o + k → 0 ≤ n → n < p7 f → (k = 0 ∨ 0 < n) → 1 ≤ f → acc + n * p7 k ≤ 1000000000000 → 0 ≤ acc →
    rdk (pre ++ (venc f n ++ rest)) o f k acc = some (acc + n * p7 k, ((o + k + (venc f n).length : Nat) : Int))
  | 0, _, _, _, _, _, _, _, _, _, h, _, _ => by omega
  | f + 1, k, o, acc, n, pre, hp, h0, h1, hk, _, hm, ha => by
    have hpk := p7_pos k
    by_cases hn : n < 128
    · rw [venc_lt hn]
      have hb : (pre ++ ([n] ++ rest))[o + k]? = some n := by rw [List.getElem?_append_right (by omega), hp]; simp
      have e : n % 128 = n := by omega
      rw [rdk_t hb (by omega) (by rw [e]; omega) (by rw [e]; omega), e]
      rfl
    · rw [venc_ge hn]
      have hb : (pre ++ (((n % 128 + 128) :: venc f (n / 128)) ++ rest))[o + k]? = some (n % 128 + 128) := by rw [List.getElem?_append_right (by omega), hp]; simp
      have e : (n % 128 + 128) % 128 = n % 128 := by omega
      have hf : 1 ≤ f := by
        rcases Nat.eq_zero_or_pos f with h | h
        · subst h; simp only [p7] at h1; omega
        · exact h
      have e2 : acc + n % 128 * p7 k + n / 128 * p7 (k + 1) = acc + n * p7 k := by
        have h5 : n / 128 * p7 (k + 1) = (n / 128 * 128) * p7 k := by simp only [p7]; rw [Int.mul_assoc]
        have h6 : n * p7 k = (n % 128 + n / 128 * 128) * p7 k := by congr 1; omega
        rw [h5, h6, Int.add_mul]; omega
      have hg : 0 ≤ n % 128 * p7 k := Int.mul_nonneg (by omega) (by omega)
      have h7 : p7 (f + 1) = 128 * p7 f := rfl
      have ih := rdk_venc rest f (k + 1) o (acc + n % 128 * p7 k) (n / 128) (pre ++ [n % 128 + 128]) (by simp; omega) (by omega) (by omega) (.inr (by omega)) hf (by rw [e2]; exact hm) (by omega)
      rw [rdk_c hb (by omega), e]
      have e3 : pre ++ ((n % 128 + 128) :: venc f (n / 128) ++ rest) = pre ++ [n % 128 + 128] ++ (venc f (n / 128) ++ rest) := by simp
      rw [e3, ih, e2]
      congr 2
      simp only [List.length_cons]; omega
theorem rv_uv (pre rest : List Int) {n : Int} (h0 : 0 ≤ n) (h1 : n ≤ 1000000000000) : rv (pre ++ (uv n ++ rest)) (pre.length : Int) = (n, (pre.length : Int) + ((uv n).length : Int), true) := by
  refine rv_some (by omega) ?_
  have := rdk_venc rest 6 0 pre.length 0 n pre rfl h0 (Int.lt_of_le_of_lt h1 (by decide)) (.inl rfl) (by omega) (by simp only [p7]; omega) (Int.le_refl 0)
  rw [uv_in h0 h1, Int.toNat_natCast, this]
  simp only [p7, Int.mul_one, Int.zero_add, Option.some.injEq, Prod.mk.injEq, true_and]
  omega
/-- Reading, then writing. -/
theorem rdk_back {zs : List Int} {o : Nat} (hz : ∀ z ∈ zs, 0 ≤ z ∧ z ≤ 255) : ∀ {f k : Nat} {acc N p : Int}, rdk zs o f k acc = some (N, p) → ∃ m : Int, 0 ≤ m ∧ N = acc + m * p7 k ∧ (zs.drop (o + k)).take (p.toNat - (o + k)) = venc f m ∧ ((o + k : Nat) : Int) < p ∧ (0 < k → 0 < m)
  | 0, _, _, _, _, h => by cases h
  | f + 1, k, acc, N, p, h => by
    simp only [rdk] at h
    split at h
    · cases h
    · rename_i b hb
      have hbz := hz b (List.mem_of_getElem? hb)
      have hd : zs.drop (o + k) = b :: zs.drop (o + k + 1) := by
        obtain ⟨hl, he⟩ := List.getElem?_eq_some_iff.1 hb
        rw [← he]; exact List.drop_eq_getElem_cons hl
      split at h
      · rename_i h128
        obtain ⟨m, m0, mN, mt, mp, mk⟩ := rdk_back hz h
        have hm := mk (by omega)
        have e1 : (b % 128 + 128 * m) % 128 = b % 128 := by omega
        have e2 : (b % 128 + 128 * m) / 128 = m := by omega
        refine ⟨b % 128 + 128 * m, by omega, ?_, ?_, by omega, fun _ => by omega⟩
        · rw [mN, Int.add_mul, Int.add_assoc]
          congr 2
          simp only [p7]
          rw [Int.mul_comm 128 m, Int.mul_assoc]
        · rw [venc_ge (by omega), e1, e2, ← mt, hd, show p.toNat - (o + k) = (p.toNat - (o + (k + 1))) + 1 by omega, List.take_succ_cons]
          rw [show o + (k + 1) = o + k + 1 by omega]
          congr 1
          omega
      · rename_i h128
        split at h
        · cases h
        · rename_i hzero
          split at h
          · cases h
          · cases h
            have e : b % 128 = b := by omega
            refine ⟨b, by omega, by rw [e], ?_, by omega, fun hk => by omega⟩
            rw [venc_lt (by omega), hd, show ((o + k + 1 : Nat) : Int).toNat - (o + k) = 1 by omega, List.take_succ_cons, List.take_zero]
theorem rv_back {zs : List Int} {off n p : Int} (hz : okz .u8 zs) (h : rv zs off = (n, p, true)) : (zs.drop off.toNat).take (p.toNat - off.toNat) = uv n := by
  have hb := rv_bd hz h
  unfold rv at h
  rw [if_neg (by omega)] at h
  split at h
  · rename_i n' p' hr
    cases h
    obtain ⟨m, m0, mN, mt, mp, _⟩ := rdk_back (okz8 hz) hr
    simp only [p7, Int.mul_one, Int.zero_add] at mN
    subst mN
    rw [Nat.add_zero] at mt
    rw [mt, uv_in hb.1 hb.2.1]
  · cases h
end Go.Proofs.Ytfkeiegajaofdaa
