/-
  Rows that are made shorter, or changed at one place; right bytes.
-/
import Derived.Test.YtfkeiegajaofdaaTxt
namespace Go.Proofs.Ytfkeiegajaofdaa
open Go.RowKit

theorem cutA_zero (A : Option Addr) (c sz : Nat) : cutA A c 0 sz = A := by
  unfold cutA
  split
  · rfl
  · cases A with
    | none => rfl
    | some a => simp [Addr.add]
theorem St.cutRow {w0 w : World} {own : List Res} {i : Nat} {A : Option Addr} {n c e : Nat} {xs : List Value} (h : St w0 w own) (hi : own[i]? = some (.row (.slice A n c) e 1 n xs)) (k : Nat) (hk : k ≤ n) :
    St w0 w (own.set i (.row (.slice (cutA A c 0 1) (k - 0) (c - 0)) e 1 (k - 0) (xs.take k))) := by
  rw [cutA_zero, Nat.sub_zero, Nat.sub_zero]
  have h1 := h.hold _ (List.mem_of_getElem? hi)
  refine h.upd hi ⟨rfl, rfl, rfl, Nat.le_refl _, fun _ _ _ => rfl⟩ ⟨?_, ?_⟩ (fun b hb => Or.inl (by cases A <;> exact hb))
  · rw [List.length_take, h1.1]; omega
  · rcases h1.2 with ⟨hv, hr⟩ | ⟨g, cap, cur, hv, hb, hh, hnc, hm, hs, ht⟩
    · left
      injection hv with a1 a2 a3
      subst a1; subst a2; subst a3
      obtain rfl : k = 0 := by omega
      refine ⟨rfl, ?_⟩
      first | exact hr | simp_all
    · right
      injection hv with a1 a2 a3
      subst a1; subst a3
      refine ⟨g, c, cur, rfl, hb, hh, by omega, hm, hs, ?_⟩
      rw [← ht, List.take_take]
      congr 1
      omega
theorem set_row {f : Int → Value} {xs : List Int} {k : Nat} {v : Int} (hk : k < xs.length) (o : Nat) (ho : o = k) : List.take o (xs.map f) ++ [f v] ++ List.drop (o + List.length [f v]) (xs.map f) = (xs.set k v).map f := by
  subst ho
  rw [List.set_eq_take_append_cons_drop, if_pos hk]
  simp
theorem okz_set {κ : IntKind} {xs : List Int} {k : Nat} {v : Int} (h : okz κ xs) (hv : (Lit.int κ v).wf = true) : okz κ (xs.set k v) := fun z hz => by
  rcases List.mem_or_eq_of_mem_set hz with hz | rfl
  · exact h z hz
  · exact hv
theorem okz_take {κ : IntKind} {xs : List Int} (h : okz κ xs) (k : Nat) : okz κ (xs.take k) := fun z hz => h z (List.mem_of_mem_take hz)
theorem wf_u8 {v : Int} (h1 : 0 ≤ v) (h2 : v ≤ 255) : (Lit.int .u8 v).wf = true := by
  simp [Lit.wf, IntKind.min, IntKind.max, IntKind.signed, IntKind.bits]; omega
end Go.Proofs.Ytfkeiegajaofdaa
