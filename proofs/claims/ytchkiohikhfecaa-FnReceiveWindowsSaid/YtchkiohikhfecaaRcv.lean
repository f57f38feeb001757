/-
  What a receiving window does with a packet, as plain functions on lists.
-/
import Derived.Test.YtchkiohikhfecaaWinR
import Derived.Test.YtchkiohikhfecaaWin
namespace Go.Proofs.Ytchkiohikhfecaa
open Go.RowKit
/-- The first that is so, or -1. -/
def fnd (p : Nat → Bool) : Nat → Int
  | 0 => -1
  | n + 1 => if 0 ≤ fnd p n then fnd p n else if p n = true then (n : Int) else -1
theorem fnd_miss {p : Nat → Bool} {n : Nat} (h : ∀ j, j < n → p j = false) : fnd p n = -1 := by
  induction n with
  | zero => rfl
  | succ n ih => rw [fnd, ih (fun j hj => h j (by omega)), if_neg (by omega), if_neg (by rw [h n (by omega)]; simp)]
theorem fnd_keep {p : Nat → Bool} {n m : Nat} (hm : n ≤ m) (h : 0 ≤ fnd p n) : fnd p m = fnd p n := by
  induction m with
  | zero => rw [show n = 0 by omega]
  | succ m ih =>
    rcases Nat.lt_or_ge m n with h' | h'
    · rw [show n = m + 1 by omega]
    · rw [fnd, ih h', if_pos h]
theorem fnd_hit {p : Nat → Bool} {n k : Nat} (hk : k < n) (hp : p k = true) (h : ∀ j, j < k → p j = false) : fnd p n = (k : Int) := by
  have h1 : fnd p (k + 1) = (k : Int) := by rw [fnd, fnd_miss h, if_neg (by omega), if_pos hp]
  rw [fnd_keep (n := k + 1) hk (by omega), h1]
theorem fnd_bd (p : Nat → Bool) (n : Nat) : -1 ≤ fnd p n ∧ fnd p n < n ∨ n = 0 ∧ fnd p n = -1 := by
  induction n with
  | zero => exact .inr ⟨rfl, rfl⟩
  | succ n ih => left; rw [fnd]; split <;> (try split) <;> omega
theorem fnd_neg {p : Nat → Bool} {n : Nat} (h : ¬ 0 ≤ fnd p n) : ∀ j, j < n → p j = false := by
  induction n with
  | zero => intro j hj; omega
  | succ n ih =>
    rw [fnd] at h
    split at h
    · omega
    · rename_i h0
      split at h
      · omega
      · rename_i h1
        intro j hj
        rcases Nat.lt_or_ge j n with h' | h'
        · exact ih h0 j h'
        · rw [show j = n by omega]; simpa using h1
theorem fnd_pos {p : Nat → Bool} {n : Nat} (h : 0 ≤ fnd p n) : ∃ k : Nat, fnd p n = (k : Int) ∧ k < n ∧ p k = true ∧ ∀ j, j < k → p j = false := by
  induction n with
  | zero => simp [fnd] at h
  | succ n ih =>
    by_cases h0 : 0 ≤ fnd p n
    · obtain ⟨k, h1, h2, h3⟩ := ih h0
      exact ⟨k, by rw [fnd, if_pos h0, h1], by omega, h3⟩
    · rw [fnd, if_neg h0] at h ⊢
      split at h
      · rename_i h1; exact ⟨n, by rw [if_pos h1], by omega, h1, fnd_neg h0⟩
      · omega
theorem fnd_iff {p : Nat → Bool} {n : Nat} : 0 ≤ fnd p n ↔ ∃ j, j < n ∧ p j = true := by
  constructor
  · intro h; obtain ⟨k, _, h2, h3, _⟩ := fnd_pos h; exact ⟨k, h2, h3⟩
  · rintro ⟨j, h1, h2⟩
    refine Decidable.byContradiction fun h => ?_
    rw [fnd_neg h j h1] at h2; cases h2
theorem step_no {p : Nat → Bool} {k : Nat} (h : ∀ j, j < k → p j = false) (hk : p k = false) : ∀ j, j < k + 1 → p j = false := fun j hj => by
  rcases Nat.lt_or_ge j k with h' | h'
  · exact h j h'
  · rw [show j = k by omega]; exact hk
abbrev PL := List (Int × List Int)
def sqAt (L : PL) (k : Nat) : Int := (L.getD k (0, [])).1
theorem sqAt_get {L : PL} {k : Nat} {q : Int × List Int} (h : L[k]? = some q) : sqAt L k = q.1 := by simp [sqAt, h]
def isP (L : PL) (s : Int) (k : Nat) : Bool := decide (sqAt L k = s)
/-- How many stand before the number s. -/
def cntLt (s : Int) : PL → Nat
  | [] => 0
  | q :: l => if q.1 < s then cntLt s l + 1 else 0
theorem cntLt_le (s : Int) : ∀ (L : PL), cntLt s L ≤ L.length
  | [] => Nat.le_refl _
  | q :: l => by rw [cntLt]; split <;> simp [cntLt_le s l]
theorem cntLt_eq {s : Int} : ∀ {L : PL} {k : Nat}, (∀ j, j < k → sqAt L j < s) → k ≤ L.length → (k = L.length ∨ ¬ sqAt L k < s) → cntLt s L = k
  | [], k, _, hk, _ => by simp at hk; subst hk; rfl
  | q :: l, 0, _, _, he => by
    rcases he with he | he
    · cases he
    · have he' : ¬ q.1 < s := he
      rw [cntLt, if_neg he']
  | q :: l, k + 1, h, hk, he => by
    have h0 : q.1 < s := h 0 (by omega)
    rw [cntLt, if_pos h0, cntLt_eq (L := l) (k := k) (fun j hj => h (j + 1) (by omega)) (by simpa using hk) (by
      rcases he with he | he
      · exact .inl (by simpa using he)
      · exact .inr he)]
def insR (s : Int) (z : List Int) (L : PL) : PL := L.take (cntLt s L) ++ (s, z) :: L.drop (cntLt s L)
/-- What is delivered. -/
def dlv (x : Int) : PL → PL → Int × PL × PL
  | [], D => (x, [], D)
  | q :: l, D => if q.1 = x ∧ D.length < 24 then dlv (x + 1) l (D ++ [(0, q.2)]) else (x, q :: l, D)
def rOk (a : Int) (L D : PL) (s : Int) (z : List Int) : Bool :=
  vrecv a L D && (!decide ((60 : Int) < ((z.length : Nat) : Int)) && (inR s a (a + 8 - 1) && (!decide ((0 : Int) ≤ fnd (isP L s) L.length) && !decide ((24 : Int) ≤ ((D.length : Nat) : Int)))))
def recvP (a : Int) (L D : PL) (s : Int) (z : List Int) : Int × PL × PL :=
  if rOk a L D s z = true then ((dlv a (insR s z L) D).1, (if 24 ≤ (dlv a (insR s z L) D).2.2.length then [] else (dlv a (insR s z L) D).2.1), (dlv a (insR s z L) D).2.2) else (a, L, D)
def rvA (a : Int) (L D : PL) (s : Int) (z : List Int) : Int := (recvP a L D s z).1
def rvL (a : Int) (L D : PL) (s : Int) (z : List Int) : PL := (recvP a L D s z).2.1
def rvD (a : Int) (L D : PL) (s : Int) (z : List Int) : PL := (recvP a L D s z).2.2
section
variable {a x s : Int} {L D l d : PL} {z : List Int} {n m : Nat}
theorem recv_no (h : rOk a L D s z = false) : rvA a L D s z = a ∧ rvL a L D s z = L ∧ rvD a L D s z = D := by
  have e : recvP a L D s z = (a, L, D) := if_neg (by rw [h]; simp)
  simp [rvA, rvL, rvD, e]
theorem recv_fin (hok : rOk a L D s z = true) (h : dlv x l d = dlv a (insR s z L) D) (he : dlv x l d = (x, l, d)) : rvA a L D s z = x ∧ rvL a L D s z = (if 24 ≤ d.length then [] else l) ∧ rvD a L D s z = d := by
  have e : recvP a L D s z = (x, (if 24 ≤ d.length then [] else l), d) := by rw [recvP, if_pos hok, ← h, he]
  simp [rvA, rvL, rvD, e]
theorem dlv_stop {q : Int × List Int} (h : ¬ (q.1 = x ∧ d.length < 24)) : dlv x (q :: l) d = (x, q :: l, d) := by rw [dlv, if_neg h]
theorem dlv_step {q : It} {qs ds : List It} {A : Option Addr} {c : Nat} (h1 : q.s = x) (h2 : ds.length < 24) : dlv x ((q :: qs).map (con true)) (ds.map (con false)) = dlv (x + 1) (qs.map (con true)) ((ds ++ [It.mk 0 A c q.zs]).map (con false)) := by
  rw [List.map_cons, dlv, if_pos ⟨h1, by rw [List.length_map]; exact h2⟩, List.map_append]
  rfl
theorem dlv_stop' {q : It} {qs ds : List It} (h : ¬ (q.s = x ∧ ds.length < 24)) : dlv x ((q :: qs).map (con true)) (ds.map (con false)) = (x, (q :: qs).map (con true), ds.map (con false)) := by
  rw [List.map_cons]; exact dlv_stop (by rw [List.length_map]; exact h)
theorem dlv_ok : ∀ {l d : PL} {x : Int}, okL .u8 l → okL .u8 d → okL .u8 (dlv x l d).2.1 ∧ okL .u8 (dlv x l d).2.2
  | [], d, x, h1, h2 => ⟨h1, h2⟩
  | q :: l, d, x, h1, h2 => by
    rw [dlv]
    split
    · exact dlv_ok (fun y hy => h1 y (List.mem_cons_of_mem _ hy)) (okL.append h2 (okL.one (by unfold I64; omega) (h1 q (by simp)).2))
    · exact ⟨h1, h2⟩
theorem dlv_wt : ∀ {l d : PL} {x : Int}, wt (dlv x l d).2.1 + wt (dlv x l d).2.2 = wt l + wt d
  | [], d, x => rfl
  | q :: l, d, x => by
    rw [dlv]
    split
    · rw [dlv_wt, wt_append, wt_one]; simp only [wt]; omega
    · rfl
theorem dlv_len : ∀ {l d : PL} {x : Int}, d.length ≤ 24 → (dlv x l d).2.2.length ≤ 24 ∧ (dlv x l d).1 - ((dlv x l d).2.2.length : Int) = x - (d.length : Int)
  | [], d, x, h => ⟨h, rfl⟩
  | q :: l, d, x, h => by
    rw [dlv]
    split
    · rename_i h1
      have := dlv_len (l := l) (d := d ++ [(0, q.2)]) (x := x + 1) (by rw [List.length_append, List.length_singleton]; omega)
      rw [List.length_append, List.length_singleton] at this
      exact ⟨this.1, by omega⟩
    · exact ⟨h, rfl⟩
theorem insR_ok (h : okL .u8 L) (hs : I64 s) (hz : okz .u8 z) : okL .u8 (insR s z L) := by
  refine okL.append (h.take _) fun y hy => ?_
  rcases List.mem_cons.1 hy with rfl | hy
  · exact ⟨hs, hz⟩
  · exact h y (List.mem_of_mem_drop hy)
theorem insR_wt : wt (insR s z L) = wt L + (z.length + 1) := by
  have := wt_take L (cntLt s L)
  rw [insR, wt_append]; simp only [wt]; omega
theorem rv_ok (h1 : okL .u8 L) (h2 : okL .u8 D) (hs : I64 s) (hz : okz .u8 z) : okL .u8 (rvL a L D s z) ∧ okL .u8 (rvD a L D s z) := by
  have h := dlv_ok (x := a) (insR_ok h1 hs hz) h2
  unfold rvL rvD recvP
  split
  · refine ⟨?_, h.2⟩
    show okL .u8 (if _ then _ else _)
    split
    · exact okL.nil
    · exact h.1
  · exact ⟨h1, h2⟩
theorem rv_wt : wt (rvL a L D s z) + wt (rvD a L D s z) ≤ wt L + wt D + (z.length + 1) := by
  have h := dlv_wt (l := insR s z L) (d := D) (x := a)
  have h2 := insR_wt (s := s) (z := z) (L := L)
  unfold rvL rvD recvP
  split
  · show wt (if _ then _ else _) + wt (dlv a (insR s z L) D).2.2 ≤ _
    split
    · simp only [wt]; omega
    · omega
  · show wt L + wt D ≤ _; omega
theorem vrecv_a (h : vrecv a L D = true) (hn : L.length = n) (hm : D.length = m) : a = (m : Int) + 1 ∧ m ≤ 24 ∧ n ≤ 8 := by
  subst hn; subst hm
  simp only [vrecv, Bool.and_eq_true, decide_eq_true_eq] at h
  exact ⟨h.1.1.1.1, h.1.1.1.2, h.1.1.2⟩
end
/-- Behind the shift. -/
def shf (zs : List It) (k m : Nat) : List It := zs.take (k + 1) ++ (zs.drop k).take m
section
variable {ys zs : List It} {y : It} {k n m : Nat}
theorem flat_shift : (flat true zs).take ((k + 1) * 2) ++ ((flat true zs).drop (k * 2)).take (m * 2) = flat true (shf zs k m) := by
  have h1 := flat_take true zs (k + 1)
  have h2 := flat_drop true zs k
  have h3 := flat_take true (zs.drop k) m
  simp only [csz] at h1 h2 h3
  rw [h1, h2, h3, shf, flat_append]
theorem flat_put (hk : k ≤ ys.length) {z0 : It} {o : Nat} (ho : o = k * 2) {vs : List Value} (hv : vs = cel true y) {m : Nat} (hm : m = ys.length - k) :
    (flat true (shf (ys ++ [z0]) k m)).take o ++ vs ++ (flat true (shf (ys ++ [z0]) k m)).drop (o + vs.length) = flat true (ys.take k ++ y :: ys.drop k) := by
  subst ho; subst hv; subst hm
  have hl : (cel true y).length = 2 := rfl
  have h1 := flat_take true (shf (ys ++ [z0]) k (ys.length - k)) k
  have h2 := flat_drop true (shf (ys ++ [z0]) k (ys.length - k)) (k + 1)
  simp only [csz] at h1 h2
  have e : k * 2 + (cel true y).length = (k + 1) * 2 := by rw [hl]; omega
  rw [e, h1, h2]
  have e1 : (shf (ys ++ [z0]) k (ys.length - k)).take k = ys.take k := by
    rw [shf, List.take_append_of_le_length (by rw [List.length_take, List.length_append, List.length_singleton]; omega), List.take_take, Nat.min_eq_left (by omega), List.take_append_of_le_length hk]
  have e2 : (shf (ys ++ [z0]) k (ys.length - k)).drop (k + 1) = ys.drop k := by
    have hlen : ((ys ++ [z0]).take (k + 1)).length = k + 1 := by rw [List.length_take, List.length_append, List.length_singleton]; omega
    rw [shf, List.drop_append, List.drop_of_length_le (by rw [hlen]; exact Nat.le_refl _), List.nil_append, hlen, Nat.sub_self, List.drop_zero, List.drop_append_of_le_length hk, List.take_append_of_le_length (by rw [List.length_drop]; exact Nat.le_refl _), List.take_of_length_le (by rw [List.length_drop]; exact Nat.le_refl _)]
  rw [e1, e2, flat_append, List.append_assoc]
  rfl
theorem ins_len (hl : ys.length = n) (hk : k ≤ n) : List.length (ys.take k ++ y :: ys.drop k) = n + 1 := by
  rw [List.length_append, List.length_cons, List.length_take, List.length_drop]; omega
theorem ins_con {L : PL} {s : Int} {z : List Int} (h : ys.map (con true) = L) (hk : cntLt s L = k) (hy : con true y = (s, z)) : (ys.take k ++ y :: ys.drop k).map (con true) = insR s z L := by
  rw [List.map_append, List.map_cons, List.map_take, List.map_drop, h, hy, insR, hk]
theorem St.insI {w0 w : World} {κ : IntKind} {tb : TypeId} (k : Nat) (E tl : List Res) (ys : List It) (y : It) (h : St w0 w (y.row κ tb :: (E ++ (ys.map (It.row κ tb) ++ tl)))) : St w0 w (E ++ ((ys.take k ++ y :: ys.drop k).map (It.row κ tb) ++ tl)) := by
  refine h.perm ?_
  refine List.perm_middle.symm.trans (List.Perm.append_left E ?_)
  rw [List.map_append, List.map_cons]
  have h2 : ys.map (It.row κ tb) = (ys.take k).map (It.row κ tb) ++ (ys.drop k).map (It.row κ tb) := by rw [← List.map_append, List.take_append_drop]
  rw [h2, ← List.cons_append]
  exact List.Perm.append_right tl List.perm_middle.symm
theorem rd_part {w : World} {B l r c : Nat} {A : Option Addr} (h : Rd w B A (n * 2) (flat true ys)) (h1 : l ≤ r) (h2 : r ≤ n) (hc : n ≤ c) : Rd w B (cutA A c l 2) ((r - l) * 2) (flat true ((ys.take r).drop l)) := by
  have h3 := flat_take true ys r
  have h4 := flat_drop true (ys.take r) l
  simp only [csz] at h3 h4
  have := h.cut h1 h2 hc
  rwa [h3, h4] at this
theorem isP_t {s : Int} (h : ys[k]? = some y) (hs : y.s = s) : isP (ys.map (con true)) s k = true := decide_eq_true ((sqAt_get (con_get h)).trans hs)
theorem isP_f {s : Int} (h : ys[k]? = some y) (hs : ¬ y.s = s) : isP (ys.map (con true)) s k = false := decide_eq_false fun e => hs ((sqAt_get (con_get h)).symm.trans e)
theorem step_lt {s : Int} (h : ∀ j, j < k → sqAt (ys.map (con true)) j < s) (hy : ys[k]? = some y) (hs : y.s < s) : ∀ j, j < k + 1 → sqAt (ys.map (con true)) j < s := fun j hj => by
  rcases Nat.lt_or_ge j k with h' | h'
  · exact h j h'
  · rw [show j = k by omega, sqAt_get (con_get hy)]; exact hs
theorem insS (hl : ys.length ≤ n) : (ys.take k ++ [y]) ++ (ys.take n).drop k = ys.take k ++ y :: ys.drop k := by
  rw [List.take_of_length_le hl, List.append_assoc]; rfl
theorem St.consE {w0 w : World} {κ : IntKind} {tb : TypeId} (E : List Res) {tl : List Res} {q : It} {qs : List It} (h : St w0 w (E ++ ((q :: qs).map (It.row κ tb) ++ tl))) : St w0 w (q.row κ tb :: (E ++ (qs.map (It.row κ tb) ++ tl))) := h.perm List.perm_middle
theorem cons_of {ys : List It} (h : 0 < ys.length) : ∃ q qs, ys = q :: qs := by
  cases ys with
  | nil => simp at h
  | cons q qs => exact ⟨q, qs, rfl⟩
end
end Go.Proofs.Ytchkiohikhfecaa
