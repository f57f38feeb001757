/-
  Plain laws of the radio coding: what is encoded is decoded, and what is decoded is encoded so.
-/
import Derived.Test.YtfkeiegajaofdaaSeal
namespace Go.Proofs.Ytfkeiegajaofdaa
open Go.RowKit

theorem rvAt {W pre rest : List Int} {n off : Int} (hW : W = pre ++ (uv n ++ rest)) (ho : off = (pre.length : Int)) (h0 : 0 ≤ n) (h1 : n ≤ 1000000000000) : rv W off = (n, off + ((uv n).length : Int), true) := by
  subst hW; subst ho; exact rv_uv pre rest h0 h1
theorem wire (A B C D E z F : List Int) : (A ++ B) ++ (((C ++ D) ++ E ++ z) ++ F) = A ++ (B ++ (C ++ (D ++ (E ++ (z ++ F))))) := by simp [List.append_assoc]
theorem encs2 (a b : Int) : encs [a, b] = uv a ++ uv b := by
  have := encs_snoc [a] b
  have h1 := encs_snoc [] a
  simp only [List.nil_append, List.cons_append] at this h1
  rw [this, h1]
  rfl
theorem cut_mid (P z R : List Int) : ((P ++ (z ++ R)).take (P.length + z.length)).drop P.length = z := by
  rw [← List.append_assoc, ← List.length_append, List.take_left, List.drop_left]
theorem drad_erad {g e d c m : Int} {z : List Int} (hg : inR g 0 100000 = true) (he : inR e 0 100000 = true) (hv : vsec d c z.length m = true) (hz : okz .u8 z) : drad (erad g e d c z m) = (g, e, d, c, z, m, true) := by
  obtain ⟨hg1, hg2⟩ := inR_iff.1 hg
  obtain ⟨he1, he2⟩ := inR_iff.1 he
  obtain ⟨hd, hc1, hc2, hl, hm1, hm2⟩ := vsec_bd hv
  have hE : erad g e d c z m = uv g ++ (uv e ++ (uv d ++ (uv c ++ (uv (z.length : Int) ++ (z ++ uv m))))) := by
    rw [erad, hg, he, hv, esec, hv]
    simp only [Bool.and_self, cond_true]
    rw [encs2, encs2, wire]
  obtain ⟨W, hW⟩ : ∃ W, W = erad g e d c z m := ⟨_, rfl⟩
  rw [← hW] at hE ⊢
  have r1 := rvAt (W := W) (pre := []) (n := g) (off := 0) (rest := uv e ++ (uv d ++ (uv c ++ (uv (z.length : Int) ++ (z ++ uv m))))) (by rw [hE]; rfl) rfl (by omega) (by omega)
  have r2 := rvAt (W := W) (pre := uv g) (n := e) (off := 0 + ((uv g).length : Int)) (rest := uv d ++ (uv c ++ (uv (z.length : Int) ++ (z ++ uv m)))) hE (by omega) (by omega) (by omega)
  have r3 := rvAt (W := W) (pre := uv g ++ uv e) (n := d) (off := 0 + ((uv g).length : Int) + ((uv e).length : Int)) (rest := uv c ++ (uv (z.length : Int) ++ (z ++ uv m))) (by rw [hE]; simp [List.append_assoc]) (by rw [List.length_append]; omega) (by omega) (by omega)
  have r4 := rvAt (W := W) (pre := uv g ++ uv e ++ uv d) (n := c) (off := 0 + ((uv g).length : Int) + ((uv e).length : Int) + ((uv d).length : Int)) (rest := uv (z.length : Int) ++ (z ++ uv m)) (by rw [hE]; simp [List.append_assoc]) (by simp only [List.length_append]; omega) (by omega) (by omega)
  have r5 := rvAt (W := W) (pre := uv g ++ uv e ++ uv d ++ uv c) (n := (z.length : Int)) (off := 0 + ((uv g).length : Int) + ((uv e).length : Int) + ((uv d).length : Int) + ((uv c).length : Int)) (rest := z ++ uv m) (by rw [hE]; simp [List.append_assoc]) (by simp only [List.length_append]; omega) (by omega) (by omega)
  have r6 := rvAt (W := W) (pre := uv g ++ uv e ++ uv d ++ uv c ++ uv (z.length : Int) ++ z) (n := m) (off := 0 + ((uv g).length : Int) + ((uv e).length : Int) + ((uv d).length : Int) + ((uv c).length : Int) + ((uv (z.length : Int)).length : Int) + (z.length : Int)) (rest := []) (by rw [hE]; simp [List.append_assoc]) (by simp only [List.length_append]; omega) (by omega) (by omega)
  have hWl : (W.length : Int) = 0 + ((uv g).length : Int) + ((uv e).length : Int) + ((uv d).length : Int) + ((uv c).length : Int) + ((uv (z.length : Int)).length : Int) + (z.length : Int) + ((uv m).length : Int) := by
    rw [hE]; simp only [List.length_append]; omega
  have d1 := dec2_of r1 r2 (by omega)
  have d2 := dec2_of r3 r4 (by omega)
  have b1 := rby_t (mx := 60) r5 (by omega)
  have hcut : (W.take (0 + ((uv g).length : Int) + ((uv e).length : Int) + ((uv d).length : Int) + ((uv c).length : Int) + ((uv (z.length : Int)).length : Int) + (z.length : Int)).toNat).drop (0 + ((uv g).length : Int) + ((uv e).length : Int) + ((uv d).length : Int) + ((uv c).length : Int) + ((uv (z.length : Int)).length : Int)).toNat = z := by
    have h2 := cut_mid (uv g ++ uv e ++ uv d ++ uv c ++ uv (z.length : Int)) z (uv m)
    have h3 : W = (uv g ++ uv e ++ uv d ++ uv c ++ uv (z.length : Int)) ++ (z ++ uv m) := by rw [hE]; simp [List.append_assoc]
    rw [← h3] at h2
    rw [show (0 + ((uv g).length : Int) + ((uv e).length : Int) + ((uv d).length : Int) + ((uv c).length : Int) + ((uv (z.length : Int)).length : Int) + (z.length : Int)).toNat = (uv g ++ uv e ++ uv d ++ uv c ++ uv (z.length : Int)).length + z.length by simp only [List.length_append]; omega,
      show (0 + ((uv g).length : Int) + ((uv e).length : Int) + ((uv d).length : Int) + ((uv c).length : Int) + ((uv (z.length : Int)).length : Int)).toNat = (uv g ++ uv e ++ uv d ++ uv c ++ uv (z.length : Int)).length by simp only [List.length_append]; omega]
    exact h2
  rw [hcut] at b1
  exact drad_5 d1 hg he (rsec_5 d2 b1 r6 hv) (by omega)
theorem drad_nil : drad [] = (0, 0, 0, 0, [], 0, false) := by decide
theorem drad_erad_no {g e d c m : Int} {z : List Int} (h : (inR g 0 100000 && (inR e 0 100000 && vsec d c z.length m)) = false) : drad (erad g e d c z m) = (0, 0, 0, 0, [], 0, false) := by
  rw [erad, h, cond_false]; exact drad_nil
def good (g e d c m : Int) (z : List Int) : Bool := inR g 0 100000 && (inR e 0 100000 && vsec d c z.length m)
theorem ok_good {g e d c m xg xe xd xc xm : Int} {z xz : List Int} {xo : Bool} (hz : okz .u8 z) (h : drad (erad g e d c z m) = (xg, xe, xd, xc, xz, xm, xo)) : xo = good g e d c m z := by
  cases hg : good g e d c m z
  · rw [drad_erad_no hg] at h
    simp only [Prod.mk.injEq] at h
    exact h.2.2.2.2.2.2.symm
  · simp only [good, Bool.and_eq_true] at hg
    rw [drad_erad hg.1 hg.2.1 hg.2.2 hz] at h
    simp only [Prod.mk.injEq] at h
    exact h.2.2.2.2.2.2.symm
theorem ok_same {g e d c m xg xe xd xc xm : Int} {z xz : List Int} (hz : okz .u8 z) (h : drad (erad g e d c z m) = (xg, xe, xd, xc, xz, xm, true)) : g = xg ∧ e = xe ∧ d = xd ∧ c = xc ∧ z = xz ∧ m = xm := by
  have hg := ok_good hz h
  simp only [good, Bool.true_eq, Bool.and_eq_true] at hg
  rw [drad_erad hg.1 hg.2.1 hg.2.2 hz] at h
  simp only [Prod.mk.injEq, and_true] at h
  exact h
/-- The wire's beginning grows by what is read. -/
theorem take_back {b : List Int} {off p n : Int} (hz : okz .u8 b) (h : rv b off = (n, p, true)) : b.take p.toNat = b.take off.toNat ++ uv n := by
  obtain ⟨_, _, h1, h2, h3, _⟩ := rv_bd hz h
  rw [← rv_back hz h, show p.toNat = off.toNat + (p.toNat - off.toNat) by omega, List.take_add, show off.toNat + (p.toNat - off.toNat) - off.toNat = p.toNat - off.toNat by omega]
theorem erad_drad {b z : List Int} {g e d c m : Int} (hz : okz .u8 b) (h : drad b = (g, e, d, c, z, m, true)) : erad g e d c z m = b := by
  rcases h0 : dec2 b 0 with ⟨ls, p, o⟩
  cases o with
  | false => rw [drad_1 h0] at h; simp at h
  | true =>
    obtain ⟨a, b', q, rfl, h1, h2, _⟩ := dec2_ok hz h0
    by_cases hin : inR a 0 100000 = true ∧ inR b' 0 100000 = true
    · rcases h3 : rsec b p with ⟨d', c', z', m', r, o⟩
      cases o with
      | false => rw [drad_3 h0 hin.1 hin.2 h3] at h; simp at h
      | true =>
        by_cases hr : r = (b.length : Int)
        · rw [drad_5 h0 hin.1 hin.2 h3 hr] at h
          simp only [Prod.mk.injEq, and_true] at h
          obtain ⟨rfl, rfl, rfl, rfl, rfl, rfl⟩ := h
          obtain ⟨hv, hzz, hp0, hpr, hrl, p2, q2, h4, h5, h6⟩ := rsec_ok hz h3
          obtain ⟨d2, c2, q3, he2, h7, h8, _⟩ := dec2_ok hz h4
          simp only [List.cons.injEq, and_true] at he2
          obtain ⟨rfl, rfl⟩ := he2
          obtain ⟨_, _, _, hq1, hq2, q4, h9, h10, h11⟩ := rby_ok hz h5
          have t1 := take_back hz h1
          have t2 := take_back hz h2
          have t3 := take_back hz h7
          have t4 := take_back hz h8
          have t5 := take_back hz h9
          have t7 := take_back hz h6
          have t6 : b.take q2.toNat = b.take q4.toNat ++ z' := by
            obtain ⟨_, _, _, _, hb4, _⟩ := rv_bd hz h9
            obtain ⟨_, _, hb5, _⟩ := rv_bd hz h9
            have hq4 : 0 ≤ q4 := by omega
            have ht := (List.take_append_drop q4.toNat (b.take q2.toNat)).symm
            rw [List.take_take, Nat.min_eq_left (by omega), ← h11] at ht
            exact ht
          rw [show (0 : Int).toNat = 0 from rfl, List.take_zero, List.nil_append] at t1
          rw [hr, Int.toNat_natCast, List.take_length] at t7
          rw [erad, hin.1, hin.2, hv, esec, hv]
          simp only [Bool.and_self, cond_true]
          rw [encs2, encs2, t7, t6, t5, t4, t3, t2, t1]
          simp [List.append_assoc]
        · rw [drad_4 h0 hin.1 hin.2 h3 hr] at h; simp at h
    · rw [drad_2 h0 hin] at h; simp at h
end Go.Proofs.Ytfkeiegajaofdaa
