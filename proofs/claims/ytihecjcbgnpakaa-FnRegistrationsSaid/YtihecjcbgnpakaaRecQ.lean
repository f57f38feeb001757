/-
  Copies of elements of any size, and what a slice of structs of six ints holds, read off its flat list.
-/
import Derived.Test.YtihecjcbgnpakaaRec
import Derived.Test.YtihecjcbgnpakaaSlice
namespace Go.Proofs.Ytihecjcbgnpakaa
open Go.RowKit
section
variable {P : Program} {w0 w : World} {own : List Res} {n : Nat} {l : List (Nat × Value)} {g : Nat → Value} {Q : Exit → Act → World → Prop} {K : Act → World → Prop} {o : Oper}
theorem run_copy_noneN (w : World) (dT sT ty elem : TypeId) (d a : Option Addr) (dLen dCap sLen sCap sz : Nat) (hu : P.underlying dT = some (.slice elem)) (hs : (P.info? elem).map (·.size) = some sz) (hn : Nat.min sLen dLen = 0) :
    (Builtin.copy_ #[dT, sT] ty #[.slice d dLen dCap, .slice a sLen sCap]).run P w = .ok (goInt 0) w := by
  cases hq : P.info? elem with
  | none => simp [hq] at hs
  | some i =>
    have hl : ∀ (x : Addr), (loadCells x 0).run P w = .ok #[] w := fun x => by simpa using run_loadCells_list (P := P) w x [] (by simp)
    cases d <;> cases a <;> simp [Builtin.copy_, run_underlying hu, Builtin.lenOf, Builtin.firstCells, sizeOf, typeInfo, hq, hn, storeCells, hl]
theorem run_copy_rowN (w : World) (dT sT ty elem : TypeId) (g o dLen dCap : Nat) (a : Addr) (sLen sCap sz : Nat) (cur : Array Value) (t : TypeId) (cs : List Value)
    (hu : P.underlying dT = some (.slice elem)) (hs : (P.info? elem).map (·.size) = some sz)
    (hg : w.heap[g]? = some (.cells cur t (0, 0))) (hn : cs.length = Nat.min sLen dLen * sz)
    (hsrc : ∀ j v, cs[j]? = some v → w.cell? (a.add j) = some v) (hfit : o + cs.length ≤ cur.size) (h1 : ∀ v ∈ cs, v.oneCell' = true) :
    (Builtin.copy_ #[dT, sT] ty #[.slice (some ⟨g, o, none⟩) dLen dCap, .slice (some a) sLen sCap]).run P w =
      .ok (goInt (Nat.min sLen dLen)) (w.setRow g (cur.toList.take o ++ cs ++ cur.toList.drop (o + cs.length)).toArray) := by
  have hl := run_loadCells_list (P := P) w a cs hsrc
  rw [hn] at hl
  have hst := run_storeCells_at P g o t cs 0 cur w hg (by simpa using hfit) h1
  cases hq : P.info? elem with
  | none => simp [hq] at hs
  | some i =>
    have hi : i.size = sz := by simpa [hq] using hs
    simp [Builtin.copy_, run_underlying hu, Builtin.lenOf, Builtin.firstCells, sizeOf, typeInfo, hq, hi, hl, hst]
theorem op_copyN {d : Option Tmp} (hd : o.dst = d) {x y : Operand} {dT sT : TypeId} (ho : o.op = .call { callee := .builtin .copy, args := #[x, y], argTypes := #[dT, sT] }) {e : TypeId} (ht : P.underlying dT = some (.slice e)) {sz : Nat} (hsz : sized P e sz = true)
    {i b cap m : Nat} {xs : List Value} (hi : own[i]? = some (.row (.slice (some ⟨b, 0, none⟩) m cap) e sz m xs)) (hx : ev n l g x = .slice (some ⟨b, 0, none⟩) m cap) {A : Option Addr} {c : Nat} (hy : ev n l g y = .slice A m c) (news : List Value)
    (hS : St w0 w own) (hr : Rd w w.heap.size A (m * sz) news) (h1 : ∀ u ∈ news, u.oneCell' = true)
    (h : ∀ w', St w0 w' (own.set i (.row (.slice (some ⟨b, 0, none⟩) m cap) e sz m news)) → K (FA n (putl d (.int .i64 (m : Int)) l) g) w') : OW P o (FA n l g) w K Q := by
  refine ⟨?_⟩
  obtain ⟨cur, hh, hnc, hcm, hs, htk, hl⟩ := hS.row_heap (List.mem_of_getElem? hi)
  have hszo : (P.info? e).map (·.size) = some sz := by
    unfold sized at hsz
    cases hI : P.info? e with
    | none => simp [hI] at hsz
    | some i => simp only [hI] at hsz; simp [Nat.eq_of_beq_eq_true hsz]
  have hln : news.length = m * sz := hr.1
  have hmin : Nat.min m m = m := Nat.min_self m
  have fin : ∀ w', (Builtin.copy_ #[dT, sT] o.type #[.slice (some ⟨b, 0, none⟩) m cap, .slice A m c]).run P w = .ok (.int .i64 (m : Int)) w' → St w0 w' (own.set i (.row (.slice (some ⟨b, 0, none⟩) m cap) e sz m news)) → o.wp P (FA n l g) w K Q := by
    intro w' hrun hst
    unfold Oper.wp
    obtain ⟨dst, op, ty, pos, af, gd⟩ := o
    simp only at ho hd; subst ho; subst hd
    simp only [execOp, resolve, invoke, builtin, Sem.run_bind, Sem.run_pure, Result.andThen_ok, List.map_toArray, List.map_cons, List.map_nil, FA_eval, hx, hy, hrun, Oper.upon, FA_put]
    exact h w' hst
  by_cases h0 : m * sz = 0
  · have hxs : xs = news := by rw [List.eq_nil_of_length_eq_zero (by omega : news.length = 0), List.eq_nil_of_length_eq_zero (by omega : xs.length = 0)]
    subst hxs
    have he : own.set i (.row (.slice (some ⟨b, 0, none⟩) m cap) e sz m xs) = own := by
      apply List.ext_getElem?
      intro j
      rw [List.getElem?_set]
      split
      · rename_i hij; subst hij; rw [hi]; simp [(List.getElem?_eq_some_iff.1 hi).1]
      · rfl
    by_cases hm : m = 0
    · subst hm
      have hrun := run_copy_noneN (P := P) w dT sT o.type e (some ⟨b, 0, none⟩) A 0 cap 0 c sz ht hszo rfl
      refine fin w hrun ?_
      rw [he]; exact hS
    · have hz : sz = 0 := by rcases Nat.mul_eq_zero.1 h0 with h | h <;> omega
      subst hz
      cases hq : P.info? e with
      | none => simp [hq] at hszo
      | some i =>
        have hi0 : i.size = 0 := by simpa [hq] using hszo
        have hl0 : ∀ (x : Addr), (loadCells x 0).run P w = .ok #[] w := fun x => by simpa using run_loadCells_list (P := P) w x [] (by simp)
        refine fin w ?_ (by rw [he]; exact hS)
        cases A <;> simp [Builtin.copy_, run_underlying ht, Builtin.lenOf, Builtin.firstCells, sizeOf, typeInfo, hq, hi0, storeCells, hl0, goInt]
  · obtain ⟨b2, off, rfl, _, hc⟩ := hr.2 (by omega)
    have hfit : cur.size = cap * sz := hs
    have hle : m * sz ≤ cap * sz := Nat.mul_le_mul_right _ hnc
    have hrun := run_copy_rowN (P := P) w dT sT o.type e b 0 m cap ⟨b2, off, none⟩ m c sz cur e news ht hszo hh (by rw [hmin]; exact hln) (fun j v hj => by
      rw [add_flat]; exact hc j v hj) (by rw [hln, hs]; omega) h1
    have hst := hS.setSeg hi hh 0 news (by rw [hln, hl]; omega)
    simp only [Nat.zero_add, List.take_zero, List.nil_append] at hst hrun
    rw [List.drop_of_length_le (by omega : xs.length ≤ news.length), List.append_nil] at hst
    rw [hmin] at hrun
    exact fin _ hrun hst
end
/-- Field i of the flat list. -/
def za (L : List Int) (i : Nat) : Int := L.getD i 0
theorem za_get {L : List Int} {i : Nat} (h : i < L.length) : L[i]? = some (za L i) := by
  simp [za, List.getElem?_eq_getElem h]
theorem za_ok {L : List Int} (hL : ∀ z ∈ L, I64 z) (i : Nat) : I64 (za L i) := by
  unfold za
  rw [List.getD]
  cases h : L[i]? with
  | none => simp [I64]
  | some v => exact hL _ (List.mem_of_getElem? h)
section
variable {L : List Int} {k : Nat}
abbrev fi : Int → Value := Value.int .i64
theorem za_at {j : Nat} (h : j < L.length) : (L.map (Value.int .i64))[j]? = some (.int .i64 (za L j)) := by simp [za_get h]
theorem seg6 (h : k * 6 + 6 ≤ L.length) : ((L.map (Value.int .i64)).drop (k * 6)).take 6 = [.int .i64 (za L (k * 6 + 0)), .int .i64 (za L (k * 6 + 1)), .int .i64 (za L (k * 6 + 2)), .int .i64 (za L (k * 6 + 3)), .int .i64 (za L (k * 6 + 4)), .int .i64 (za L (k * 6 + 5))] := by
  apply List.ext_getElem?
  intro i
  rw [List.getElem?_take, List.getElem?_drop]
  rcases i with _ | _ | _ | _ | _ | _ | i
  · rw [if_pos (by omega), za_at (by omega)]; rfl
  · rw [if_pos (by omega), za_at (by omega)]; rfl
  · rw [if_pos (by omega), za_at (by omega)]; rfl
  · rw [if_pos (by omega), za_at (by omega)]; rfl
  · rw [if_pos (by omega), za_at (by omega)]; rfl
  · rw [if_pos (by omega), za_at (by omega)]; rfl
  · rw [if_neg (by omega)]; rfl
theorem segA (h : k * 6 + 6 ≤ L.length) : ((L.map (Value.int .i64)).drop (k * 6)).take 2 = [.int .i64 (za L (k * 6 + 0)), .int .i64 (za L (k * 6 + 1))] := by
  apply List.ext_getElem?
  intro i
  rw [List.getElem?_take, List.getElem?_drop]
  rcases i with _ | _ | i
  · rw [if_pos (by omega), za_at (by omega)]; rfl
  · rw [if_pos (by omega), za_at (by omega)]; rfl
  · rw [if_neg (by omega)]; rfl
theorem segB (h : k * 6 + 6 ≤ L.length) : ((L.map (Value.int .i64)).drop (k * 6 + 4)).take 2 = [.int .i64 (za L (k * 6 + 4)), .int .i64 (za L (k * 6 + 5))] := by
  apply List.ext_getElem?
  intro i
  rw [List.getElem?_take, List.getElem?_drop]
  rcases i with _ | _ | i
  · rw [if_pos (by omega), za_at (by omega)]; rfl
  · rw [if_pos (by omega), za_at (by omega)]; rfl
  · rw [if_neg (by omega)]; rfl
/-- A part of a row, at an offset written another way. -/
theorem at_off {xs vs : List Value} {o p q : Nat} (ho : o = p) (h : (xs.drop p).take q = vs) : (xs.drop o).take q = vs := by rw [ho]; exact h
theorem at_off1 {o p : Nat} (ho : o = p) (h : p < L.length) : (L.map (Value.int .i64))[o]? = some (.int .i64 (za L p)) := by rw [ho]; exact za_at h
theorem rec_low {w : World} {b off o p q : Nat} {xs vs : List Value} (hcl : ∀ j u, xs[j]? = some u → w.cell? ⟨b, off + j, none⟩ = some u) (ho : o = off + p) (h : (xs.drop p).take q = vs) :
    ∀ j u, vs[j]? = some u → w.cell? ((⟨b, o, none⟩ : Addr).add j) = some u := fun j u hj => by
  rw [add_flat, ho, Nat.add_assoc]
  refine hcl _ _ ?_
  rw [← h, List.getElem?_take] at hj
  split at hj
  · rw [List.getElem?_drop] at hj; exact hj
  · cases hj
theorem rec_low1 {w : World} {b off o p : Nat} (hcl : ∀ j u, (L.map (Value.int .i64))[j]? = some u → w.cell? ⟨b, off + j, none⟩ = some u) (ho : o = off + p) (h : p < L.length) : w.cell? ⟨b, o, none⟩ = some (.int .i64 (za L p)) := by
  rw [ho]; exact hcl _ _ (za_at h)
end
/-- The rows' fillings, one element after another. -/
theorem fill6 {L : List Int} {k n : Nat} {o : Nat} (hl : n * 6 ≤ L.length) (hk : k < n) (ho : o = k * 6) :
    List.take o ((L.take (k * 6)).map (Value.int .i64) ++ List.replicate ((n - k) * 6) (Value.int .i64 0)) ++ [.int .i64 (za L (k * 6 + 0)), .int .i64 (za L (k * 6 + 1)), .int .i64 (za L (k * 6 + 2)), .int .i64 (za L (k * 6 + 3)), .int .i64 (za L (k * 6 + 4)), .int .i64 (za L (k * 6 + 5))] ++
      List.drop (o + List.length [Value.int .i64 (za L (k * 6 + 0)), .int .i64 (za L (k * 6 + 1)), .int .i64 (za L (k * 6 + 2)), .int .i64 (za L (k * 6 + 3)), .int .i64 (za L (k * 6 + 4)), .int .i64 (za L (k * 6 + 5))]) ((L.take (k * 6)).map (Value.int .i64) ++ List.replicate ((n - k) * 6) (Value.int .i64 0)) =
    (L.take ((k + 1) * 6)).map (Value.int .i64) ++ List.replicate ((n - (k + 1)) * 6) (Value.int .i64 0) := by
  have h1 : ((L.take (k * 6)).map (Value.int .i64)).length = k * 6 := by rw [List.length_map, List.length_take]; omega
  subst ho
  rw [List.take_append_of_le_length (by omega), List.take_of_length_le (by omega), List.drop_append, List.drop_of_length_le (by omega), List.nil_append, h1]
  rw [show ([Value.int .i64 (za L (k * 6 + 0)), .int .i64 (za L (k * 6 + 1)), .int .i64 (za L (k * 6 + 2)), .int .i64 (za L (k * 6 + 3)), .int .i64 (za L (k * 6 + 4)), .int .i64 (za L (k * 6 + 5))]).length = 6 from rfl]
  rw [← seg6 (by omega : k * 6 + 6 ≤ L.length), ← List.map_drop, ← List.map_take, ← List.map_append, ← List.take_add, List.drop_replicate]
  rw [show k * 6 + 6 = (k + 1) * 6 by omega, show (n - k) * 6 - ((k + 1) * 6 - k * 6) = (n - (k + 1)) * 6 by omega]
theorem mark6 {xs : List Value} {k0 v : Int} {o p n : Nat} (hl : xs.length = n) (hp : p < n) (ho : o = p) (hv : v = k0 + (p : Int)) :
    (((marks id k0 p).map (Value.int .i64) ++ xs.drop p).take o ++ [Value.int .i64 v] ++ ((marks id k0 p).map (Value.int .i64) ++ xs.drop p).drop (o + [Value.int .i64 v].length)) = (marks id k0 (p + 1)).map (Value.int .i64) ++ xs.drop (p + 1) := by
  subst hv
  have h := mark_stepI (g := Value.int .i64) (xs := xs) (k0 := k0) hl hp
  rw [off1] at h
  rw [ho]; exact h
theorem put6 {L : List Int} {i o : Nat} {a0 a1 a2 a3 a4 a5 : Int} (ho : o = i * 6) :
    (L.map (Value.int .i64)).take o ++ [Value.int .i64 a0, .int .i64 a1, .int .i64 a2, .int .i64 a3, .int .i64 a4, .int .i64 a5] ++ (L.map (Value.int .i64)).drop (o + List.length [Value.int .i64 a0, .int .i64 a1, .int .i64 a2, .int .i64 a3, .int .i64 a4, .int .i64 a5]) =
    (L.take (i * 6) ++ [a0, a1, a2, a3, a4, a5] ++ L.drop (i * 6 + 6)).map (Value.int .i64) := by
  subst ho; simp
theorem app6 {L : List Int} {a0 a1 a2 a3 a4 a5 : Int} : L.map (Value.int .i64) ++ [Value.int .i64 a0, .int .i64 a1, .int .i64 a2, .int .i64 a3, .int .i64 a4, .int .i64 a5] = (L ++ [a0, a1, a2, a3, a4, a5]).map (Value.int .i64) := by simp
theorem zrow6 (k : Nat) : zrow [Value.int .i64 0, .int .i64 0, .int .i64 0, .int .i64 0, .int .i64 0, .int .i64 0] (k * 6) = List.replicate (k * 6) (Value.int .i64 0) := by
  apply List.ext_getElem?
  intro i
  rw [List.getElem?_replicate]
  by_cases h : i < k * 6
  · rw [if_pos h, List.getElem?_eq_getElem (by rw [zrow_length]; exact h)]
    congr 1
    simp only [zrow, madeCells, Array.toList_map, Array.toList_range, List.getElem_map, List.getElem_range]
    have : i % 6 < 6 := Nat.mod_lt _ (by omega)
    show (#[Value.int .i64 0, .int .i64 0, .int .i64 0, .int .i64 0, .int .i64 0, .int .i64 0] : Array Value)[i % 6]! = _
    rcases hr : i % 6 with _ | _ | _ | _ | _ | _ | r
    all_goals first | rfl | omega
  · rw [if_neg h, List.getElem?_eq_none (by rw [zrow_length]; omega)]
theorem rd_cut0 {w : World} {B N c sz : Nat} {A : Option Addr} {xs : List Value} (h : Rd w B A (N * sz) xs) (hc0 : c ≠ 0) : Rd w B (cutA A c 0 sz) (N * sz) xs := by
  refine ⟨h.1, fun hp => ?_⟩
  obtain ⟨b, off, rfl, hb, hc⟩ := h.2 hp
  exact ⟨b, off, by rw [cutA, if_neg hc0]; simp [add_flat], hb, hc⟩
theorem cut_at {b off c sz : Nat} (h : c ≠ 0) : cutA (some ⟨b, off, none⟩) c 0 sz = some ⟨b, off, none⟩ := by
  rw [cutA, if_neg h]; simp [add_flat]
theorem held_low {w : World} {b off o p m : Nat} {k0 : Int} (hcl : ∀ j u, ((marks id k0 m).map (Value.int .i64))[j]? = some u → w.cell? ⟨b, off + j, none⟩ = some u) (ho : o = off + p) (hp : p < m) :
    w.cell? ⟨b, o, none⟩ = some (.int .i64 (k0 + (p : Int))) := by
  rw [ho]; exact hcl _ _ (map_get (marks_get hp))
theorem St.rec_len {w0 w : World} {own : List Res} {v : Value} {n e sz : Nat} {L : List Int} (h : St w0 w own) (hm : Res.row v e sz n (L.map (Value.int .i64)) ∈ own) : L.length = n * sz := by
  have := h.row_len hm; rwa [List.length_map] at this
theorem rec_flat {m n c B : Nat} {w : World} {A : Option Addr} {ys : List (List Int)} (h : IsRec m w B A n c ys) : n ≤ c ∧ c ≤ maxLen ∧ ∃ L : List Int, L.length = n * m ∧ (∀ z ∈ L, I64 z) ∧ Rd w B A (n * m) (L.map (Value.int .i64)) := by
  obtain ⟨h1, h2, h3, h4, h5⟩ := h
  refine ⟨h1, h2, ys.flatten, by rw [flatten_len (fun y hy => (h4 y hy).1), h3], fun z hz => ?_, h5⟩
  obtain ⟨y, hy, hz⟩ := List.mem_flatten.1 hz
  exact (h4 y hy).2 z hz
/-- The first that is so, or -1. -/
def fnd (p : Nat → Bool) : Nat → Int
  | 0 => -1
  | n + 1 => if 0 ≤ fnd p n then fnd p n else if p n = true then (n : Int) else -1
theorem fnd_miss {p : Nat → Bool} {n : Nat} (h : ∀ j, j < n → p j = false) : fnd p n = -1 := by
  induction n with
  | zero => rfl
  | succ n ih => rw [fnd, ih (fun j hj => h j (by omega)), if_neg (by omega), if_neg (by rw [h n (by omega)]; simp)]
theorem fnd_keep {p : Nat → Bool} {n m : Nat} (hm : n ≤ m) (h : 0 ≤ fnd p n) : fnd p m = fnd p n := by
  induction m with
  | zero => rw [show n = 0 by omega]
  | succ m ih =>
    rcases Nat.lt_or_ge m n with h' | h'
    · rw [show n = m + 1 by omega]
    · rw [fnd, ih h', if_pos h]
theorem fnd_hit {p : Nat → Bool} {n k : Nat} (hk : k < n) (hp : p k = true) (h : ∀ j, j < k → p j = false) : fnd p n = (k : Int) := by
  have h1 : fnd p (k + 1) = (k : Int) := by rw [fnd, fnd_miss h, if_neg (by omega), if_pos hp]
  rw [fnd_keep (n := k + 1) hk (by omega), h1]
theorem fnd_bd (p : Nat → Bool) (n : Nat) : -1 ≤ fnd p n ∧ fnd p n < n ∨ n = 0 ∧ fnd p n = -1 := by
  induction n with
  | zero => exact .inr ⟨rfl, rfl⟩
  | succ n ih => left; rw [fnd]; split <;> (try split) <;> omega
theorem fnd_neg {p : Nat → Bool} {n : Nat} (h : ¬ 0 ≤ fnd p n) : ∀ j, j < n → p j = false := by
  induction n with
  | zero => intro j hj; omega
  | succ n ih =>
    rw [fnd] at h
    split at h
    · omega
    · rename_i h0
      split at h
      · omega
      · rename_i h1
        intro j hj
        rcases Nat.lt_or_ge j n with h' | h'
        · exact ih h0 j h'
        · rw [show j = n by omega]; simpa using h1
theorem fnd_pos {p : Nat → Bool} {n : Nat} (h : 0 ≤ fnd p n) : ∃ k : Nat, fnd p n = (k : Int) ∧ k < n ∧ p k = true ∧ ∀ j, j < k → p j = false := by
  induction n with
  | zero => simp [fnd] at h
  | succ n ih =>
    by_cases h0 : 0 ≤ fnd p n
    · obtain ⟨k, h1, h2, h3⟩ := ih h0
      exact ⟨k, by rw [fnd, if_pos h0, h1], by omega, h3⟩
    · rw [fnd, if_neg h0] at h ⊢
      split at h
      · rename_i h1; exact ⟨n, by rw [if_pos h1], by omega, h1, fnd_neg h0⟩
      · omega
theorem fnd_iff {p : Nat → Bool} {n : Nat} : 0 ≤ fnd p n ↔ ∃ j, j < n ∧ p j = true := by
  constructor
  · intro h; obtain ⟨k, _, h2, h3, _⟩ := fnd_pos h; exact ⟨k, h2, h3⟩
  · rintro ⟨j, h1, h2⟩
    refine Decidable.byContradiction fun h => ?_
    rw [fnd_neg h j h1] at h2; cases h2
theorem step_no {p : Nat → Bool} {k : Nat} (h : ∀ j, j < k → p j = false) (hk : p k = false) : ∀ j, j < k + 1 → p j = false := fun j hj => by
  rcases Nat.lt_or_ge j k with h' | h'
  · exact h j h'
  · rw [show j = k by omega]; exact hk
/-- Element i has this identity; it has this temporary identity in this network. -/
def isID (L : List Int) (a b : Int) (i : Nat) : Bool := ((za L (i * 6 + 0)) == a) && (((za L (i * 6 + 1)) == b) && true)
def isTM (L : List Int) (c a b : Int) (i : Nat) : Bool := decide (za L (i * 6 + 2) = c) && (((za L (i * 6 + 4)) == a) && (((za L (i * 6 + 5)) == b) && true))
def vsub (a b : Int) : Bool := inR a 0 3 && inR b 0 99
def vtmp (a b : Int) : Bool := inR a 0 3 && inR b 0 9999
def okE (L : List Int) (i : Nat) : Bool := vsub (za L (i * 6 + 0)) (za L (i * 6 + 1)) && inR (za L (i * 6 + 2)) 0 3 && inR (za L (i * 6 + 3)) 0 2 && vtmp (za L (i * 6 + 4)) (za L (i * 6 + 5))
def clash (L : List Int) (i j : Nat) : Bool := isID L (za L (i * 6 + 0)) (za L (i * 6 + 1)) j || isTM L (za L (i * 6 + 2)) (za L (i * 6 + 4)) (za L (i * 6 + 5)) j
def goodE (L : List Int) (i : Nat) : Prop := okE L i = true ∧ ∀ j, j < i → clash L i j = false
instance (L : List Int) (i : Nat) : Decidable (goodE L i) := by unfold goodE; infer_instance
def okR (L : List Int) (n : Nat) : Bool := decide (n ≤ 8 ∧ ∀ i, i < n → goodE L i)
theorem okR_t {L : List Int} {n : Nat} (h : n ≤ 8) (h2 : ∀ i, i < n → goodE L i) : true = okR L n := (decide_eq_true ⟨h, h2⟩).symm
theorem okR_n {L : List Int} {n : Nat} (h : ¬ n ≤ 8) : false = okR L n := (decide_eq_false fun h' => h h'.1).symm
theorem okR_e {L : List Int} {n k : Nat} (hk : k < n) (h : okE L k = false) : false = okR L n := (decide_eq_false fun h' => by have := (h'.2 k hk).1; rw [h] at this; cases this).symm
theorem okR_c {L : List Int} {n k j : Nat} (hk : k < n) (hj : j < k) (h : clash L k j = true) : false = okR L n := (decide_eq_false fun h' => by have := (h'.2 k hk).2 j hj; rw [h] at this; cases this).symm
theorem okR_le {L : List Int} {n : Nat} (h2 : ∀ i, i < n → goodE L i) : decide (((n : Nat) : Int) ≤ 8) = okR L n := by
  by_cases h : n ≤ 8
  · rw [← okR_t h h2]; exact decide_eq_true (by omega)
  · rw [← okR_n h]; exact decide_eq_false (by omega)
theorem ne_fnd {L : List Int} {k : Nat} (h1 : ¬ 0 ≤ fnd (isID L (za L (k * 6 + 0)) (za L (k * 6 + 1))) k) (h2 : ¬ 0 ≤ fnd (isTM L (za L (k * 6 + 2)) (za L (k * 6 + 4)) (za L (k * 6 + 5))) k) : ∀ j, j < k → clash L k j = false := fun j hj => by
  rw [clash, fnd_neg h1 j hj, fnd_neg h2 j hj]; rfl
theorem fnd_cl1 {L : List Int} {k : Nat} (h1 : 0 ≤ fnd (isID L (za L (k * 6 + 0)) (za L (k * 6 + 1))) k) : ∃ j, j < k ∧ clash L k j = true := by
  obtain ⟨j, _, h2, h3, _⟩ := fnd_pos h1; exact ⟨j, h2, by rw [clash, h3]; rfl⟩
theorem fnd_cl2 {L : List Int} {k : Nat} (h1 : 0 ≤ fnd (isTM L (za L (k * 6 + 2)) (za L (k * 6 + 4)) (za L (k * 6 + 5))) k) : ∃ j, j < k ∧ clash L k j = true := by
  obtain ⟨j, _, h2, h3, _⟩ := fnd_pos h1; exact ⟨j, h2, by rw [clash, h3]; simp⟩
theorem step_good {L : List Int} {k : Nat} (h : ∀ i, i < k → goodE L i) (hk : goodE L k) : ∀ i, i < k + 1 → goodE L i := fun j hj => by
  rcases Nat.lt_or_ge j k with h' | h'
  · exact h j h'
  · rw [show j = k by omega]; exact hk
/-- What a registration leaves. -/
def putR (L : List Int) (n : Nat) (i : Int) (r : List Int) : List Int := if 0 ≤ i then L.take (i.toNat * 6) ++ r ++ L.drop (i.toNat * 6 + 6) else L ++ r
def putN (n : Nat) (i : Int) : Nat := if 0 ≤ i then n else n + 1
def fR (L : List Int) (n : Nat) (a b : Int) : Int := fnd (isID L a b) n
def okP (L : List Int) (n : Nat) (i : Int) (r : List Int) : Bool := okR (putR L n i r) (putN n i)
def regL (L : List Int) (n : Nat) (i : Int) (r : List Int) : List Int := if okP L n i r = true then putR L n i r else L
def regO (L : List Int) (n : Nat) (i : Int) (r : List Int) : Int := if okP L n i r = true then (if 0 ≤ i then za L (i.toNat * 6 + 2) else -1) else -1
theorem putR_len {L : List Int} {n : Nat} {i : Int} {r : List Int} (hL : L.length = n * 6) (hi : i < n ∨ i < 0) (hr : r.length = 6) : (putR L n i r).length = putN n i * 6 := by
  unfold putR putN
  split
  · simp only [List.length_append, List.length_take, List.length_drop]; omega
  · simp only [List.length_append]; omega
theorem regL_len {L : List Int} {n : Nat} {i : Int} {r : List Int} (hL : L.length = n * 6) (hi : i < n ∨ i < 0) (hr : r.length = 6) : (regL L n i r).length = (if okP L n i r = true then putN n i else n) * 6 := by
  unfold regL
  split
  · exact putR_len hL hi hr
  · exact hL
theorem regT_put {L : List Int} {n : Nat} {i : Int} {r : List Int} (h0 : 0 ≤ i) (h : okR (L.take (i.toNat * 6) ++ r ++ L.drop (i.toNat * 6 + 6)) n = true) :
    okP L n i r = true ∧ regL L n i r = L.take (i.toNat * 6) ++ r ++ L.drop (i.toNat * 6 + 6) ∧ regO L n i r = za L (i.toNat * 6 + 2) := by
  have e : okP L n i r = true := by rw [okP, putR, putN, if_pos h0, if_pos h0]; exact h
  exact ⟨e, by rw [regL, if_pos e, putR, if_pos h0], by rw [regO, if_pos e, if_pos h0]⟩
theorem regT_app {L : List Int} {n : Nat} {i : Int} {r : List Int} (h0 : ¬ 0 ≤ i) (h : okR (L ++ r) (n + 1) = true) :
    okP L n i r = true ∧ regL L n i r = L ++ r ∧ regO L n i r = -1 := by
  have e : okP L n i r = true := by rw [okP, putR, putN, if_neg h0, if_neg h0]; exact h
  exact ⟨e, by rw [regL, if_pos e, putR, if_neg h0], by rw [regO, if_pos e, if_neg h0]⟩
theorem regF_of {L : List Int} {n : Nat} {i : Int} {r : List Int} (e : okP L n i r = false) : okP L n i r = false ∧ regL L n i r = L ∧ regO L n i r = -1 :=
  ⟨e, by rw [regL, if_neg (by rw [e]; simp)], by rw [regO, if_neg (by rw [e]; simp)]⟩
theorem regF_put {L : List Int} {n : Nat} {i : Int} {r : List Int} (h0 : 0 ≤ i) (h : okR (L.take (i.toNat * 6) ++ r ++ L.drop (i.toNat * 6 + 6)) n = false) :
    okP L n i r = false ∧ regL L n i r = L ∧ regO L n i r = -1 := regF_of (by rw [okP, putR, putN, if_pos h0, if_pos h0]; exact h)
theorem regF_app {L : List Int} {n : Nat} {i : Int} {r : List Int} (h0 : ¬ 0 ≤ i) (h : okR (L ++ r) (n + 1) = false) :
    okP L n i r = false ∧ regL L n i r = L ∧ regO L n i r = -1 := regF_of (by rw [okP, putR, putN, if_neg h0, if_neg h0]; exact h)
end Go.Proofs.Ytihecjcbgnpakaa
