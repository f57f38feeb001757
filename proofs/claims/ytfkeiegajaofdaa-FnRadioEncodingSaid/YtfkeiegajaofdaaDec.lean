/-
  Plain facts on reading the binary form: numbers, lists, byte strings, messages, packets; and that reading undoes writing.
-/
import Derived.Test.YtfkeiegajaofdaaEnc
namespace Go.Proofs.Ytfkeiegajaofdaa
open Go.RowKit

/-- A number: k groups are read, their sum is acc. -/
def rdk (zs : List Int) (o : Nat) : Nat → Nat → Int → Option (Int × Int)
  | 0, _, _ => none
  | f + 1, k, acc => match zs[o + k]? with
    | none => none
    | some b => if 128 ≤ b then rdk zs o f (k + 1) (acc + b % 128 * p7 k)
      else if 0 < k ∧ b % 128 = 0 then none
      else if 1000000000000 < acc + b % 128 * p7 k then none
      else some (acc + b % 128 * p7 k, ((o + k + 1 : Nat) : Int))
def rv (zs : List Int) (off : Int) : Int × Int × Bool :=
  if off < 0 then (0, 0, false) else match rdk zs off.toNat 6 0 0 with
    | some (n, p) => (n, p, true)
    | none => (0, 0, false)
section
variable {zs : List Int} {o f k : Nat} {acc b n p off : Int}
theorem rdk_n (h : zs[o + k]? = none) : rdk zs o (f + 1) k acc = none := by simp only [rdk, h]
theorem rdk_c (h : zs[o + k]? = some b) (h1 : 128 ≤ b) : rdk zs o (f + 1) k acc = rdk zs o f (k + 1) (acc + b % 128 * p7 k) := by simp only [rdk, h, if_pos h1]
theorem rdk_z (h : zs[o + k]? = some b) (h1 : ¬ 128 ≤ b) (h2 : 0 < k) (h3 : b % 128 = 0) : rdk zs o (f + 1) k acc = none := by simp only [rdk, h, if_neg h1, if_pos (And.intro h2 h3)]
theorem rdk_b (h : zs[o + k]? = some b) (h1 : ¬ 128 ≤ b) (h3 : 1000000000000 < acc + b % 128 * p7 k) : rdk zs o (f + 1) k acc = none := by
  simp only [rdk, h, if_neg h1, if_pos h3, ite_self]
theorem rdk_t (h : zs[o + k]? = some b) (h1 : ¬ 128 ≤ b) (h2 : ¬ (0 < k ∧ b % 128 = 0)) (h3 : ¬ 1000000000000 < acc + b % 128 * p7 k) : rdk zs o (f + 1) k acc = some (acc + b % 128 * p7 k, ((o + k + 1 : Nat) : Int)) := by
  simp only [rdk, h, if_neg h1, if_neg h2, if_neg h3]
theorem rv_neg (h : off < 0) : rv zs off = (0, 0, false) := if_pos h
theorem rv_none (h : ¬ off < 0) (hr : rdk zs off.toNat 6 0 0 = none) : rv zs off = (0, 0, false) := by unfold rv; rw [if_neg h, hr]
theorem rv_some (h : ¬ off < 0) (hr : rdk zs off.toNat 6 0 0 = some (n, p)) : rv zs off = (n, p, true) := by unfold rv; rw [if_neg h, hr]
theorem rv_far (h : ¬ off < 0) (hl : (zs.length : Int) ≤ off) : rv zs off = (0, 0, false) := rv_none h (rdk_n (List.getElem?_eq_none (by omega)))
end
theorem rdk_bd {zs : List Int} {o : Nat} : ∀ {f k : Nat} {acc n p : Int}, (∀ z ∈ zs, 0 ≤ z ∧ z ≤ 255) → 0 ≤ acc → rdk zs o f k acc = some (n, p) → 0 ≤ n ∧ n ≤ 1000000000000 ∧ ((o + k : Nat) : Int) < p ∧ p ≤ (zs.length : Int) ∧ p ≤ ((o + k + f : Nat) : Int)
  | 0, _, _, _, _, _, _, h => by cases h
  | f + 1, k, acc, n, p, hz, h0, h => by
    simp only [rdk] at h
    split at h
    · cases h
    · rename_i b hb
      have hlt := (List.getElem?_eq_some_iff.1 hb).1
      have hbz := hz b (List.mem_of_getElem? hb)
      have hp := p7_pos k
      have hg : 0 ≤ b % 128 * p7 k := Int.mul_nonneg (by omega) (by omega)
      split at h
      · have := rdk_bd hz (show 0 ≤ acc + b % 128 * p7 k by omega) h
        omega
      · split at h
        · cases h
        · split at h
          · cases h
          · cases h
            refine ⟨by omega, by omega, by omega, by omega, by omega⟩
theorem rv_bd {zs : List Int} {off n p : Int} (hz : okz .u8 zs) (h : rv zs off = (n, p, true)) : 0 ≤ n ∧ n ≤ 1000000000000 ∧ 0 ≤ off ∧ off < p ∧ p ≤ (zs.length : Int) ∧ p ≤ off + 6 := by
  unfold rv at h
  split at h
  · cases h
  · split at h
    · rename_i hn n' p' hr
      cases h
      have := rdk_bd (okz8 hz) (Int.le_refl 0) hr
      omega
    · cases h
/-- A list of numbers. -/
def decn (zs : List Int) : Nat → Int → List Int → List Int × Int × Bool
  | 0, off, acc => (acc, off, true)
  | m + 1, off, acc => match rv zs off with
    | (n, p, true) => decn zs m p (acc ++ [n])
    | (_, _, false) => ([], 0, false)
def dec2 (zs : List Int) (off : Int) : List Int × Int × Bool := if 0 ≤ off ∧ off ≤ (zs.length : Int) then decn zs 2 off [] else ([], 0, false)
theorem decn_t {zs : List Int} {m : Nat} {off n p : Int} {acc : List Int} (h : rv zs off = (n, p, true)) : decn zs (m + 1) off acc = decn zs m p (acc ++ [n]) := by simp only [decn, h]
theorem decn_f {zs : List Int} {m : Nat} {off n p : Int} {acc : List Int} (h : rv zs off = (n, p, false)) : decn zs (m + 1) off acc = ([], 0, false) := by simp only [decn, h]
theorem dec2_of {zs : List Int} {off a b p q : Int} (h : rv zs off = (a, p, true)) (h2 : rv zs p = (b, q, true)) (h0 : 0 ≤ off ∧ off ≤ (zs.length : Int)) : dec2 zs off = ([a, b], q, true) := by
  unfold dec2; rw [if_pos h0, decn_t h, decn_t h2]; rfl
theorem dec2_ok {zs : List Int} {off p : Int} {ls : List Int} (hz : okz .u8 zs) (h : dec2 zs off = (ls, p, true)) : ∃ a b q, ls = [a, b] ∧ rv zs off = (a, q, true) ∧ rv zs q = (b, p, true) ∧ 0 ≤ a ∧ a ≤ 1000000000000 ∧ 0 ≤ b ∧ b ≤ 1000000000000 ∧ 0 ≤ off ∧ off < p ∧ p ≤ (zs.length : Int) := by
  unfold dec2 at h
  split at h
  · simp only [decn] at h
    split at h
    · rename_i a q h1
      split at h
      · rename_i b r h2
        cases h
        have b1 := rv_bd hz h1
        have b2 := rv_bd hz h2
        exact ⟨a, b, q, rfl, h1, h2, by omega, by omega, by omega, by omega, by omega, by omega, by omega⟩
      · cases h
    · cases h
  · cases h
/-- A byte string. -/
def rby (zs : List Int) (off mx : Int) : List Int × Int × Bool := match rv zs off with
  | (n, p, true) => if mx < n ∨ (zs.length : Int) - p < n then ([], 0, false) else ((zs.take (p + n).toNat).drop p.toNat, p + n, true)
  | (_, _, false) => ([], 0, false)
theorem rby_f {zs : List Int} {off mx n p : Int} (h : rv zs off = (n, p, false)) : rby zs off mx = ([], 0, false) := by simp only [rby, h]
theorem rby_b {zs : List Int} {off mx n p : Int} (h : rv zs off = (n, p, true)) (h1 : mx < n ∨ (zs.length : Int) - p < n) : rby zs off mx = ([], 0, false) := by simp only [rby, h, if_pos h1]
theorem rby_t {zs : List Int} {off mx n p : Int} (h : rv zs off = (n, p, true)) (h1 : ¬ (mx < n ∨ (zs.length : Int) - p < n)) : rby zs off mx = ((zs.take (p + n).toNat).drop p.toNat, p + n, true) := by simp only [rby, h, if_neg h1]
theorem okz_cut {κ : IntKind} {zs : List Int} (h : okz κ zs) (a b : Nat) : okz κ ((zs.take a).drop b) := fun z hz => h z (List.mem_of_mem_take (List.mem_of_mem_drop hz))
theorem rby_ok {zs : List Int} {off mx p : Int} {ys : List Int} (hz : okz .u8 zs) (h : rby zs off mx = (ys, p, true)) : okz .u8 ys ∧ (ys.length : Int) ≤ mx ∧ 0 ≤ off ∧ off < p ∧ p ≤ (zs.length : Int) ∧ ∃ q, rv zs off = ((ys.length : Int), q, true) ∧ p = q + (ys.length : Int) ∧ ys = (zs.take p.toNat).drop q.toNat := by
  unfold rby at h
  split at h
  · rename_i n q h1
    have b1 := rv_bd hz h1
    split at h
    · cases h
    · rename_i h2
      cases h
      have hl : ((((zs.take (q + n).toNat).drop q.toNat).length : Nat) : Int) = n := by
        rw [List.length_drop, List.length_take]; omega
      refine ⟨okz_cut hz _ _, by omega, by omega, by omega, by omega, q, by rw [hl]; exact h1, by rw [hl], rfl⟩
  · cases h
/-- A message at an offset: its parts, where it ends, whether it is one. -/
def rsec (zs : List Int) (off : Int) : Int × Int × List Int × Int × Int × Bool :=
  match dec2 zs off with
  | (ls, p, true) => match rby zs p 60 with
    | (ys, q, true) => match rv zs q with
      | (m, r, true) => bif vsec (ls.getD 0 0) (ls.getD 1 0) ys.length m then (ls.getD 0 0, ls.getD 1 0, ys, m, r, true) else (0, 0, [], 0, 0, false)
      | (_, _, false) => (0, 0, [], 0, 0, false)
    | (_, _, false) => (0, 0, [], 0, 0, false)
  | (_, _, false) => (0, 0, [], 0, 0, false)
section
variable {zs ls ys : List Int} {off p q r m : Int} {d c : Int}
theorem rsec_1 (h : dec2 zs off = (ls, p, false)) : rsec zs off = (0, 0, [], 0, 0, false) := by simp only [rsec, h]
theorem rsec_2 (h : dec2 zs off = (ls, p, true)) (h2 : rby zs p 60 = (ys, q, false)) : rsec zs off = (0, 0, [], 0, 0, false) := by simp only [rsec, h, h2]
theorem rsec_3 (h : dec2 zs off = (ls, p, true)) (h2 : rby zs p 60 = (ys, q, true)) (h3 : rv zs q = (m, r, false)) : rsec zs off = (0, 0, [], 0, 0, false) := by simp only [rsec, h, h2, h3]
theorem rsec_4 (h : dec2 zs off = ([d, c], p, true)) (h2 : rby zs p 60 = (ys, q, true)) (h3 : rv zs q = (m, r, true)) (h4 : vsec d c ys.length m = false) : rsec zs off = (0, 0, [], 0, 0, false) := by
  simp only [rsec, h, h2, h3, List.getD_cons_zero, List.getD_cons_succ, h4, cond_false]
theorem rsec_5 (h : dec2 zs off = ([d, c], p, true)) (h2 : rby zs p 60 = (ys, q, true)) (h3 : rv zs q = (m, r, true)) (h4 : vsec d c ys.length m = true) : rsec zs off = (d, c, ys, m, r, true) := by
  simp only [rsec, h, h2, h3, List.getD_cons_zero, List.getD_cons_succ, h4, cond_true]
theorem rsec_ok {z : List Int} (hz : okz .u8 zs) (h : rsec zs off = (d, c, z, m, r, true)) : vsec d c z.length m = true ∧ okz .u8 z ∧ 0 ≤ off ∧ off < r ∧ r ≤ (zs.length : Int) ∧ ∃ p q, dec2 zs off = ([d, c], p, true) ∧ rby zs p 60 = (z, q, true) ∧ rv zs q = (m, r, true) := by
  rcases h1 : dec2 zs off with ⟨ls, p, o⟩
  cases o with
  | false => rw [rsec_1 h1] at h; cases h
  | true =>
    obtain ⟨a, b, q0, rfl, _, _, b1, b2, b3, b4, b5, b6, b7⟩ := dec2_ok hz h1
    rcases h2 : rby zs p 60 with ⟨ys, q, o⟩
    cases o with
    | false => rw [rsec_2 h1 h2] at h; cases h
    | true =>
      obtain ⟨c1, c2, c3, c4, c5, _⟩ := rby_ok hz h2
      rcases h3 : rv zs q with ⟨m', r', o⟩
      cases o with
      | false => rw [rsec_3 h1 h2 h3] at h; cases h
      | true =>
        have d1 := rv_bd hz h3
        cases h4 : vsec a b ys.length m' with
        | false => rw [rsec_4 h1 h2 h3 h4] at h; cases h
        | true =>
          rw [rsec_5 h1 h2 h3 h4] at h
          cases h
          exact ⟨h4, c1, by omega, by omega, by omega, p, q, by first | exact h1 | rfl, h2, h3⟩
end
/-- A packet: its parts, and whether the bytes are one. -/
def drad (zs : List Int) : Int × Int × Int × Int × List Int × Int × Bool :=
  match dec2 zs 0 with
  | (ls, p, true) => bif inR (ls.getD 0 0) 0 100000 && inR (ls.getD 1 0) 0 100000 then match rsec zs p with
      | (d, c, z, m, r, true) => bif decide (r = (zs.length : Int)) then (ls.getD 0 0, ls.getD 1 0, d, c, z, m, true) else (0, 0, 0, 0, [], 0, false)
      | (_, _, _, _, _, false) => (0, 0, 0, 0, [], 0, false)
    else (0, 0, 0, 0, [], 0, false)
  | (_, _, false) => (0, 0, 0, 0, [], 0, false)
section
variable {zs ls z : List Int} {p r m : Int} {a b d c : Int} {o : Bool}
theorem drad_1 (h : dec2 zs 0 = (ls, p, false)) : drad zs = (0, 0, 0, 0, [], 0, false) := by simp only [drad, h]
theorem drad_2 (h : dec2 zs 0 = ([a, b], p, true)) (h2 : ¬ (inR a 0 100000 = true ∧ inR b 0 100000 = true)) : drad zs = (0, 0, 0, 0, [], 0, false) := by
  have e : (inR a 0 100000 && inR b 0 100000) = false := by rw [Bool.eq_false_iff]; intro h; rw [Bool.and_eq_true] at h; exact h2 h
  simp only [drad, h, List.getD_cons_zero, List.getD_cons_succ, e, cond_false]
theorem drad_3 (h : dec2 zs 0 = ([a, b], p, true)) (h1 : inR a 0 100000 = true) (h2 : inR b 0 100000 = true) (h3 : rsec zs p = (d, c, z, m, r, false)) : drad zs = (0, 0, 0, 0, [], 0, false) := by
  simp only [drad, h, List.getD_cons_zero, List.getD_cons_succ, h1, h2, Bool.and_self, cond_true, h3]
theorem drad_4 (h : dec2 zs 0 = ([a, b], p, true)) (h1 : inR a 0 100000 = true) (h2 : inR b 0 100000 = true) (h3 : rsec zs p = (d, c, z, m, r, true)) (h4 : r ≠ (zs.length : Int)) : drad zs = (0, 0, 0, 0, [], 0, false) := by
  simp only [drad, h, List.getD_cons_zero, List.getD_cons_succ, h1, h2, Bool.and_self, cond_true, h3, decide_eq_false h4, cond_false]
theorem drad_5 (h : dec2 zs 0 = ([a, b], p, true)) (h1 : inR a 0 100000 = true) (h2 : inR b 0 100000 = true) (h3 : rsec zs p = (d, c, z, m, r, true)) (h4 : r = (zs.length : Int)) : drad zs = (a, b, d, c, z, m, true) := by
  simp only [drad, h, List.getD_cons_zero, List.getD_cons_succ, h1, h2, Bool.and_self, cond_true, h3, decide_eq_true h4]
end
/-- Reading behind the first bytes. -/
theorem rdk_drop (zs : List Int) (a o : Nat) : ∀ (f k : Nat) (acc : Int), rdk (zs.drop a) o f k acc = (rdk zs (a + o) f k acc).map fun q => (q.1, q.2 - (a : Int))
  | 0, _, _ => rfl
  | f + 1, k, acc => by
    simp only [rdk, List.getElem?_drop, show a + (o + k) = a + o + k by omega]
    split
    · rfl
    · split
      · exact rdk_drop zs a o f (k + 1) _
      · split
        · rfl
        · split
          · rfl
          · simp only [Option.map_some, Option.some.injEq, Prod.mk.injEq, true_and]; omega
theorem rv_drop {zs : List Int} {a : Nat} {off n p : Int} {b : Bool} (h0 : 0 ≤ off) (h : rv zs ((a : Int) + off) = (n, p, b)) : rv (zs.drop a) off = (n, (bif b then p - (a : Int) else 0), b) := by
  unfold rv at h ⊢
  rw [if_neg (by omega)] at h
  rw [if_neg (by omega), rdk_drop, show a + off.toNat = ((a : Int) + off).toNat by omega]
  cases hr : rdk zs ((a : Int) + off).toNat 6 0 0 with
  | none => rw [hr] at h; cases h; rfl
  | some q => obtain ⟨n', p'⟩ := q; rw [hr] at h; cases h; rfl
theorem dec2_drop {zs ls : List Int} {a : Nat} {off p : Int} {b : Bool} (hz : okz .u8 zs) (ha : a ≤ zs.length) (h0 : 0 ≤ off) (h : dec2 zs ((a : Int) + off) = (ls, p, b)) : dec2 (zs.drop a) off = (ls, (bif b then p - (a : Int) else 0), b) := by
  unfold dec2 at h ⊢
  rw [List.length_drop]
  by_cases hr : 0 ≤ (a : Int) + off ∧ (a : Int) + off ≤ (zs.length : Int)
  · rw [if_pos hr] at h
    rw [if_pos (by omega)]
    simp only [decn] at h ⊢
    rcases h1 : rv zs ((a : Int) + off) with ⟨n1, p1, o1⟩
    rw [rv_drop h0 h1]
    rw [h1] at h
    cases o1 with
    | false => simp only at h ⊢; cases h; rfl
    | true =>
      have b1 := rv_bd hz h1
      simp only [cond_true] at h ⊢
      rcases h2 : rv zs p1 with ⟨n2, p2, o2⟩
      rw [rv_drop (off := p1 - (a : Int)) (n := n2) (p := p2) (b := o2) (by omega) (by rw [show (a : Int) + (p1 - (a : Int)) = p1 by omega]; exact h2)]
      rw [h2] at h
      cases o2 with
      | false => simp only at h ⊢; cases h; rfl
      | true => simp only [cond_true] at h ⊢; cases h; rfl
  · rw [if_neg hr] at h
    rw [if_neg (by omega)]
    cases h
    rfl
theorem rby_drop {zs ys : List Int} {a : Nat} {off mx p : Int} {b : Bool} (hz : okz .u8 zs) (ha : a ≤ zs.length) (h0 : 0 ≤ off) (h : rby zs ((a : Int) + off) mx = (ys, p, b)) : rby (zs.drop a) off mx = (ys, (bif b then p - (a : Int) else 0), b) := by
  unfold rby at h ⊢
  rcases h1 : rv zs ((a : Int) + off) with ⟨n1, p1, o1⟩
  rw [rv_drop h0 h1]
  rw [h1] at h
  cases o1 with
  | false => simp only at h ⊢; cases h; rfl
  | true =>
    have b1 := rv_bd hz h1
    simp only [cond_true, List.length_drop] at h ⊢
    by_cases hc : mx < n1 ∨ (zs.length : Int) - p1 < n1
    · rw [if_pos hc] at h
      rw [if_pos (by omega)]
      cases h; rfl
    · rw [if_neg hc] at h
      rw [if_neg (by omega)]
      cases h
      simp only [cond_true, Prod.mk.injEq, and_true]
      refine ⟨?_, by omega⟩
      have e1 : (p1 - (a : Int) + n1).toNat - (p1 - (a : Int)).toNat = (p1 + n1).toNat - p1.toNat := by omega
      rw [List.drop_take, List.drop_take, List.drop_drop, e1]
      congr 2
      omega
theorem rsec_drop {zs z : List Int} {a : Nat} {d c m r : Int} {b : Bool} (hz : okz .u8 zs) (ha : a ≤ zs.length) (h : rsec zs (a : Int) = (d, c, z, m, r, b)) : rsec (zs.drop a) 0 = (d, c, z, m, (bif b then r - (a : Int) else 0), b) := by
  rcases h1 : dec2 zs (a : Int) with ⟨ls, p, o⟩
  have e1 := dec2_drop (ls := ls) (p := p) (b := o) (off := 0) hz ha (Int.le_refl 0) (by rw [Int.add_zero]; exact h1)
  cases o with
  | false => rw [rsec_1 h1] at h; rw [rsec_1 e1]; cases h; rfl
  | true =>
    obtain ⟨n1, n2, q0, rfl, _, _, b1, b2, b3, b4, b5, b6, b7⟩ := dec2_ok hz h1
    rw [cond_true] at e1
    rcases h2 : rby zs p 60 with ⟨ys, q, o⟩
    have e2 := rby_drop (ys := ys) (p := q) (b := o) (off := p - (a : Int)) (mx := 60) hz ha (by omega) (by rw [show (a : Int) + (p - (a : Int)) = p by omega]; exact h2)
    cases o with
    | false => rw [rsec_2 h1 h2] at h; rw [rsec_2 e1 e2]; cases h; rfl
    | true =>
      obtain ⟨c1, c2, c3, c4, c5, _⟩ := rby_ok hz h2
      rw [cond_true] at e2
      rcases h3 : rv zs q with ⟨m', r', o⟩
      have e3 := rv_drop (zs := zs) (a := a) (n := m') (p := r') (b := o) (off := q - (a : Int)) (by omega) (by rw [show (a : Int) + (q - (a : Int)) = q by omega]; exact h3)
      cases o with
      | false => rw [rsec_3 h1 h2 h3] at h; rw [rsec_3 e1 e2 e3]; cases h; rfl
      | true =>
        rw [cond_true] at e3
        cases h4 : vsec n1 n2 ys.length m' with
        | false => rw [rsec_4 h1 h2 h3 h4] at h; rw [rsec_4 e1 e2 e3 h4]; cases h; rfl
        | true => rw [rsec_5 h1 h2 h3 h4] at h; rw [rsec_5 e1 e2 e3 h4]; cases h; rfl
end Go.Proofs.Ytfkeiegajaofdaa
