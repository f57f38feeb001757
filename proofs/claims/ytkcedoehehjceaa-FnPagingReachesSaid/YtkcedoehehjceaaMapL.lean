/-
  A nested slice that is changed in place: one element's numbers are taken out, changed or replaced, and put back.
-/
import Derived.Test.YtkcedoehehjceaaCell
import Derived.Test.YtkcedoehehjceaaCur
namespace Go.Proofs.Ytkcedoehehjceaa
open Go.RowKit

section
variable {w0 w : World} {κ : IntKind} {tb : TypeId} {ys : List It} {k : Nat} {y y' : It} {tl : List Res}
theorem St.borE (E : List Res) (h : St w0 w (E ++ (ys.map (It.row κ tb) ++ tl))) (hy : ys[k]? = some y) : St w0 w (y.row κ tb :: (E ++ ((ys.eraseIdx k).map (It.row κ tb) ++ tl))) := by
  refine h.perm ?_
  have h1 := ((perm_erase hy).map (It.row κ tb)).append_right tl
  exact (List.Perm.append_left E h1).trans List.perm_middle
theorem St.unborE (E : List Res) (h : St w0 w (y'.row κ tb :: (E ++ ((ys.eraseIdx k).map (It.row κ tb) ++ tl)))) (hk : k < ys.length) : St w0 w (E ++ ((ys.set k y').map (It.row κ tb) ++ tl)) := by
  refine h.perm ?_
  have hy : (ys.set k y')[k]? = some y' := List.getElem?_set_self hk
  have h1 := ((perm_erase hy).map (It.row κ tb)).append_right tl
  rw [erase_set] at h1
  exact (List.perm_middle.symm).trans (List.Perm.append_left E h1.symm)
theorem St.swapE (E : List Res) (h : St w0 w (y'.row κ tb :: (E ++ (ys.map (It.row κ tb) ++ tl)))) (hk : k < ys.length) : St w0 w (E ++ ((ys.set k y').map (It.row κ tb) ++ tl)) := by
  have h1 : St w0 w (y'.row κ tb :: (E ++ ((ys.eraseIdx k).map (It.row κ tb) ++ tl))) :=
    h.sub (List.Sublist.cons_cons _ (List.Sublist.append_left (List.Sublist.append_right ((List.eraseIdx_sublist ys k).map _) tl) E))
  exact St.unborE E h1 hk
end
theorem okL.set {κ : IntKind} {L : List (Int × List Int)} {k : Nat} {q : Int × List Int} (h : okL κ L) (h1 : I64 q.1) (h2 : okz κ q.2) : okL κ (L.set k q) := fun x hx => by
  rcases List.mem_or_eq_of_mem_set hx with hx | rfl
  · exact h x hx
  · exact ⟨h1, h2⟩
theorem wt_set : ∀ {L : List (Int × List Int)} {k : Nat} {q q' : Int × List Int}, L[k]? = some q → wt (L.set k q') + q.2.length = wt L + q'.2.length
  | [], _, _, _, h => by simp at h
  | x :: l, 0, q, q', h => by
    simp only [List.getElem?_cons_zero, Option.some.injEq] at h; subst h
    simp only [List.set_cons_zero, wt]; omega
  | x :: l, k + 1, q, q', h => by
    simp only [List.getElem?_cons_succ] at h
    have := wt_set (q' := q') h
    simp only [List.set_cons_succ, wt]; omega
/-- One element is changed: what is known of the list behind it. -/
theorem set_facts {κ : IntKind} {ys : List It} {k n W : Nat} {y y' : It} (h : ys[k]? = some y) (hl : ys.length = n) (ho : okL κ (ys.map (con true))) (hw : wt (ys.map (con true)) ≤ W) (h1 : I64 y'.s) (h2 : okz κ y'.zs) :
    (ys.set k y').length = n ∧ okL κ ((ys.set k y').map (con true)) ∧ wt ((ys.set k y').map (con true)) + y.zs.length ≤ W + y'.zs.length ∧ y.zs.length + 1 ≤ wt (ys.map (con true)) := by
  have hk : (ys.map (con true))[k]? = some (con true y) := con_get h
  have hs := wt_set (q' := con true y') hk
  have hm := wt_mem (List.mem_of_getElem? hk)
  rw [List.map_set]
  refine ⟨by rw [List.length_set]; exact hl, ho.set h1 h2, ?_, hm⟩
  have e1 : (con true y).2 = y.zs := rfl
  have e2 : (con true y').2 = y'.zs := rfl
  rw [e1, e2] at hs
  omega
theorem el_facts {κ : IntKind} {ys : List It} {k W : Nat} {y : It} (h : ys[k]? = some y) (ho : okL κ (ys.map (con true))) (hw : wt (ys.map (con true)) ≤ W) : I64 y.s ∧ okz κ y.zs ∧ y.zs.length + 1 ≤ W := by
  have hk : (ys.map (con true))[k]? = some (con true y) := con_get h
  have hm := wt_mem (List.mem_of_getElem? hk)
  obtain ⟨h1, h2⟩ := ho _ (List.mem_of_getElem? hk)
  exact ⟨h1, h2, Nat.le_trans hm hw⟩
theorem flat_set_v {ys : List It} {k : Nat} {y : It} (h : ys[k]? = some y) (y' : It) (hy' : y'.s = y.s) (o : Nat) (ho : o = k * 2 + 1) (vs : List Value) (hv : vs = [y'.val]) :
    (flat true ys).take o ++ vs ++ (flat true ys).drop (o + vs.length) = flat true (ys.set k y') := by
  subst ho; subst hv
  obtain ⟨hk, e⟩ := List.getElem?_eq_some_iff.1 h
  have h1 : ys.set k y' = ys.take k ++ (y' :: ys.drop (k + 1)) := by rw [List.set_eq_take_append_cons_drop, if_pos hk]
  have h2 := flat_take true ys k
  have h3 := flat_drop true ys (k + 1)
  have h4 := flat_drop true ys k
  simp only [csz] at h2 h3 h4
  have h5 : (flat true ys).drop (k * 2) = cel true y ++ flat true (ys.drop (k + 1)) := by rw [h4, List.drop_eq_getElem_cons hk, e]; rfl
  have h6 : (flat true ys).drop (k * 2 + 1 + [y'.val].length) = ((flat true ys).drop (k * 2)).drop 2 := by rw [List.drop_drop]; rfl
  have h7 : (flat true ys).take (k * 2 + 1) = flat true (ys.take k) ++ [.int .i64 y.s] := by
    rw [List.take_add, h5, h2]; rfl
  rw [h1, flat_append, h6, h5, h7, List.append_assoc, List.append_assoc]
  congr 1
  show [Value.int .i64 y.s] ++ ([y'.val] ++ flat true (ys.drop (k + 1))) = [Value.int .i64 y'.s, y'.val] ++ flat true (ys.drop (k + 1))
  rw [hy']; rfl
theorem row_set_s {κ : IntKind} {tb : TypeId} {ys : List It} {k : Nat} {y : It} (h : ys[k]? = some y) (s : Int) : (ys.set k ⟨s, y.A, y.c, y.zs⟩).map (It.row κ tb) = ys.map (It.row κ tb) := by
  obtain ⟨hk, e⟩ := List.getElem?_eq_some_iff.1 h
  rw [List.map_set]
  have e2 : (ys.map (It.row κ tb))[k]? = some (It.row κ tb ⟨s, y.A, y.c, y.zs⟩) := by rw [List.getElem?_map, h]; rfl
  obtain ⟨hk2, e3⟩ := List.getElem?_eq_some_iff.1 e2
  rw [← e3, List.set_getElem_self]
theorem okz_snoc64 {zs : List Int} {z : Int} (h : okz .i64 zs) (h1 : -9223372036854775808 ≤ z) (h2 : z ≤ 9223372036854775807) : okz .i64 (zs ++ [z]) := fun y hy => by
  rcases List.mem_append.1 hy with hy | hy
  · exact h y hy
  · rw [List.mem_singleton] at hy; subst hy
    simp [Lit.wf, IntKind.min, IntKind.max, IntKind.signed, IntKind.bits]; omega
theorem flat_at1 {p : Bool} {ys : List It} {k r : Nat} {y : It} {u : Value} (h : ys[k]? = some y) (hu : (cel p y)[r]? = some u) {o : Nat} (ho : o = k * csz p + r) : (flat p ys)[o]? = some u := by subst ho; exact flat_at h hu
end Go.Proofs.Ytkcedoehehjceaa
