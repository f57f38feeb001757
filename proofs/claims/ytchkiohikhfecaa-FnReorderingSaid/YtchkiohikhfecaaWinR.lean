/-
  Slices that begin inside a block of the call's own: reads, stores, their tails; a copy within a row.
-/
import Derived.Test.YtchkiohikhfecaaDeep
import Derived.Test.YtchkiohikhfecaaCur
namespace Go.Proofs.Ytchkiohikhfecaa
open Go.RowKit
section
variable {P : Program} {w0 w w' : World} {own : List Res} {n : Nat} {l : List (Nat × Value)} {g : Nat → Value} {Q : Exit → Act → World → Prop} {K : Act → World → Prop} {o : Oper} {t : TypeId} {v : Value}
theorem win_of_row {B : Nat} {v : Value} {e sz n : Nat} {xs : List Value} (h : Res.holds B w (.row v e sz n xs)) : Res.holds B w (.win v e sz n xs) := by
  obtain ⟨h1, ⟨rfl, rfl⟩ | ⟨g, cap, cur, rfl, hb, hh, h2, h3, h4, h5⟩⟩ := h
  · exact ⟨none, 0, rfl, Nat.le_refl _, Nat.zero_le _, h1, .inl ⟨rfl, rfl⟩⟩
  · have hle : n * sz ≤ cap * sz := Nat.mul_le_mul_right _ h2
    exact ⟨_, cap, rfl, h2, h3, h1, .inr ⟨g, 0, cur, rfl, hb, hh, by omega, by simpa using h5⟩⟩
theorem St.swapRes {i : Nat} {r r' : Res} (h : St w0 w own) (hi : own[i]? = some r) (hh : r.holds w0.heap.size w → r'.holds w0.heap.size w) (hb : r'.blk = r.blk) : St w0 w (own.set i r') :=
  h.upd hi (World.grownBy.refl w _) (hh (h.hold _ (List.mem_of_getElem? hi))) (fun b hb' => .inl (by rw [← hb]; exact hb'))
theorem St.toWin {i : Nat} {v : Value} {e sz n : Nat} {xs : List Value} (h : St w0 w own) (hi : own[i]? = some (.row v e sz n xs)) : St w0 w (own.set i (.win v e sz n xs)) := h.swapRes hi win_of_row rfl
theorem St.nilwin (h : St w0 w own) (e sz : Nat) : St w0 w (.win (.slice none 0 0) e sz 0 [] :: own) :=
  h.new (World.grownBy.refl w _) ⟨none, 0, rfl, Nat.le_refl _, Nat.zero_le _, by simp, .inl ⟨rfl, rfl⟩⟩ (fun b hb => by cases hb)
theorem cutA_blk {A : Option Addr} {c k sz n m c' : Nat} : (Value.slice (cutA A c k sz) n c').ownBlock = (Value.slice A m c).ownBlock := by
  unfold cutA
  split
  · cases A <;> rfl
  · cases A with
    | none => rfl
    | some a => simp only [Option.map_some, Value.ownBlock]; congr 1; unfold Addr.add; split <;> rfl
theorem win_tail {B : Nat} {A : Option Addr} {n c e sz : Nat} {xs : List Value} (h : Res.holds B w (.win (.slice A (n + 1) c) e sz (n + 1) xs)) : Res.holds B w (.win (.slice (cutA A c 1 sz) n (c - 1)) e sz n (xs.drop sz)) := by
  obtain ⟨A', cap, hv, h1, h2, h3, h4⟩ := h
  injection hv with hA _ hc
  subst hA; subst hc
  have e1 : (n + 1) * sz = n * sz + sz := by rw [Nat.add_mul, Nat.one_mul]
  refine ⟨_, _, rfl, by omega, by omega, by rw [List.length_drop, h3, e1]; omega, ?_⟩
  rcases h4 with ⟨_, h0⟩ | ⟨b, off, cur, rfl, hB, hh, h5, h6⟩
  · omega
  · right
    by_cases hc1 : c = 1
    · have hn0 : n = 0 := by omega
      subst hn0
      refine ⟨b, off, cur, by rw [cutA, if_pos hc1], hB, hh, by omega, ?_⟩
      have e2 : xs.drop sz = [] := List.drop_of_length_le (by rw [h3]; omega)
      rw [e2]; simp
    · refine ⟨b, off + 1 * sz, cur, by rw [cutA, if_neg hc1]; exact congrArg some (add_flat _ _ _), hB, hh, by rw [Nat.one_mul]; omega, ?_⟩
      rw [← h6, Nat.one_mul, List.drop_take, List.drop_drop, e1, Nat.add_sub_cancel]
theorem St.tailWin {i : Nat} {A : Option Addr} {n c e sz : Nat} {xs : List Value} (h : St w0 w own) (hi : own[i]? = some (.win (.slice A (n + 1) c) e sz (n + 1) xs)) : St w0 w (own.set i (.win (.slice (cutA A c 1 sz) n (c - 1)) e sz n (xs.drop sz))) :=
  h.swapRes hi win_tail cutA_blk
theorem St.win_cap {i : Nat} {A : Option Addr} {n c e sz : Nat} {xs : List Value} (h : St w0 w own) (hi : own[i]? = some (.win (.slice A n c) e sz n xs)) : n ≤ c ∧ c ≤ maxLen := by
  obtain ⟨A', cap, hv, h1, h2, _⟩ := h.hold _ (List.mem_of_getElem? hi)
  injection hv with _ _ hc
  subst hc; exact ⟨h1, h2⟩
theorem St.win_heap {A : Option Addr} {n c e sz : Nat} {xs : List Value} (h : St w0 w own) (hm : Res.win (.slice A n c) e sz n xs ∈ own) (hn : 0 < n) :
    ∃ (b off : Nat) (cur : Array Value), A = some ⟨b, off, none⟩ ∧ w0.heap.size ≤ b ∧ w.heap[b]? = some (.cells cur e (0, 0)) ∧ off + n * sz ≤ cur.size ∧ (cur.toList.drop off).take (n * sz) = xs ∧ xs.length = n * sz := by
  obtain ⟨A', cap, hv, h1, h2, h3, h4⟩ := h.hold _ hm
  injection hv with hA _ hc
  subst hA; subst hc
  rcases h4 with ⟨_, h0⟩ | ⟨b, off, cur, hA, hB, hh, h5, h6⟩
  · omega
  · exact ⟨b, off, cur, hA, hB, hh, h5, h6, h3⟩
theorem St.win_at {A : Option Addr} {n c e sz : Nat} {xs : List Value} (h : St w0 w own) (hm : Res.win (.slice A n c) e sz n xs ∈ own) (hn : 0 < n) : ∃ b off, A = some ⟨b, off, none⟩ := by
  obtain ⟨b, off, _, hA, _⟩ := h.win_heap hm hn; exact ⟨b, off, hA⟩
theorem St.win_len {A : Option Addr} {n c e sz : Nat} {xs : List Value} (h : St w0 w own) (hm : Res.win (.slice A n c) e sz n xs ∈ own) : xs.length = n * sz := by
  obtain ⟨A', cap, hv, h1, h2, h3, h4⟩ := h.hold _ hm; exact h3
theorem St.winc {b off n c e sz j : Nat} {xs : List Value} {u : Value} (h : St w0 w own) (hm : Res.win (.slice (some ⟨b, off, none⟩) n c) e sz n xs ∈ own) (hu : xs[j]? = some u) : w.cell? ⟨b, off + j, none⟩ = some u := by
  have hl := h.win_len hm
  have hj := (List.getElem?_eq_some_iff.1 hu).1
  obtain ⟨b', off', cur, hA, _, hh, _, h6, _⟩ := h.win_heap hm (Nat.pos_of_ne_zero fun e => by subst e; omega)
  injection hA with hA; injection hA with e1 e2 _
  subst e1; subst e2
  rw [← h6, List.getElem?_take] at hu
  split at hu
  · rw [List.getElem?_drop] at hu; simp [World.cell?, hh]; simpa using hu
  · cases hu
theorem St.rdw {A : Option Addr} {n c e sz : Nat} {xs : List Value} (h : St w0 w own) (hm : Res.win (.slice A n c) e sz n xs ∈ own) : Rd w w.heap.size A (n * sz) xs := by
  refine ⟨h.win_len hm, fun hp => ?_⟩
  obtain ⟨b, off, cur, rfl, hB, hh, _⟩ := h.win_heap hm (Nat.pos_of_ne_zero fun e => by subst e; omega)
  exact ⟨b, off, rfl, (Array.getElem?_eq_some_iff.1 hh).1, fun j u hu => h.winc hm hu⟩
theorem ld_win {i b off n cap e sz j : Nat} {xs : List Value} (hi : own[i]? = some (.win (.slice (some ⟨b, off, none⟩) n cap) e sz n xs)) (hu : xs[j]? = some v) {a : Nat} (ha : a = off + j) (hty : scal P t = true) : LoadsAt P (fun x => St w0 x own) t ⟨b, a, none⟩ v :=
  loads1 hty fun _ hx => by rw [ha]; exact hx.winc (List.mem_of_getElem? hi) hu
theorem St.setWin {i b off n cap e sz : Nat} {xs : List Value} (h : St w0 w own) (hi : own[i]? = some (.win (.slice (some ⟨b, off, none⟩) n cap) e sz n xs)) {cur : Array Value} (hc : w.heap[b]? = some (.cells cur e (0, 0))) (q : Nat) (vs : List Value) (ho : q + vs.length ≤ xs.length) (hn : 0 < n) :
    St w0 (w.setRow b (cur.toList.take (off + q) ++ vs ++ cur.toList.drop (off + q + vs.length)).toArray) (own.set i (.win (.slice (some ⟨b, off, none⟩) n cap) e sz n (xs.take q ++ vs ++ xs.drop (q + vs.length)))) := by
  have hm := List.mem_of_getElem? hi
  obtain ⟨b', off', cur', hA, hB, hh, hs, ht, hl⟩ := h.win_heap hm hn
  injection hA with hA; injection hA with e1 e2 _
  subst e1; subst e2
  rw [hh] at hc
  injection hc with hc
  injection hc with hc
  subst hc
  obtain ⟨_, cap', hv, c1, c2, _⟩ := h.hold _ hm
  injection hv with _ _ hcc
  subst hcc
  have hsz : cur'.toList.length = cur'.size := Array.length_toList
  refine h.upd hi (grownBy_setRow w b _) ⟨_, cap, rfl, c1, c2, ?_, .inr ⟨b, off, _, rfl, hB, setRow_heap w b _ _ e _ hh, ?_, ?_⟩⟩ (fun b' hb' => Or.inl hb')
  · simp only [List.length_append, List.length_take, List.length_drop]; omega
  · simp only [List.size_toArray, List.length_append, List.length_take, List.length_drop, Array.length_toList]; omega
  · rw [List.toList_toArray, ← ht]
    apply List.ext_getElem?
    intro j
    simp only [List.getElem?_take, List.getElem?_append, List.length_take, List.length_append, List.length_drop, List.getElem?_drop]
    rw [Nat.min_eq_left (show off + q ≤ cur'.toList.length by omega), Nat.min_eq_left (show q ≤ min (n * sz) (cur'.toList.length - off) by omega)]
    by_cases hj : j < n * sz
    · simp only [hj, if_true]
      by_cases h1 : j < q + vs.length
      · simp only [h1, if_true, show off + j < off + q + vs.length by omega]
        by_cases h2 : j < q
        · simp only [h2, if_true, show off + j < off + q by omega]
        · simp only [h2, if_false, show ¬ off + j < off + q by omega]
          congr 1; omega
      · simp only [h1, if_false, show ¬ off + j < off + q + vs.length by omega]
        rw [if_pos (by omega)]
        congr 1; omega
    · have h1 : ¬ j < q + vs.length := by omega
      simp only [hj, h1, if_false]
      rw [if_neg (by omega)]
theorem op_storeWin {d : Option Tmp} (hd : o.dst = d) {x y : Operand} (ho : o.op = .store t x y) {i b off a q m cap e sz : Nat} {xs : List Value} (hi : own[i]? = some (.win (.slice (some ⟨b, off, none⟩) m cap) e sz m xs)) (hx : ev n l g x = .pointer (some ⟨b, a, none⟩)) (ha : a = off + q) (vs : List Value) (hv : (ev n l g y).cells = vs.toArray)
    (hty : sized P t vs.length = true) (hfit : q + vs.length ≤ xs.length) (hm : 0 < m) (h1 : vs.all (·.oneCell') = true) (own' : List Res) (ho' : own.set i (.win (.slice (some ⟨b, off, none⟩) m cap) e sz m (xs.take q ++ vs ++ xs.drop (q + vs.length))) = own') (hS : St w0 w own)
    (h : ∀ w', St w0 w' own' → K (FA n (putl d undef l) g) w') : OW P o (FA n l g) w K Q := by
  refine ⟨?_⟩
  subst ha
  obtain ⟨b', off', cur, hA, _, hh, hs, ht, hl⟩ := hS.win_heap (List.mem_of_getElem? hi) hm
  injection hA with hA; injection hA with e1 e2 _
  subst e1; subst e2
  have hsz : cur.toList.length = cur.size := Array.length_toList
  have hr := run_storeVar_box (P := P) (t := t) (v := ev n l g y) (off := off + q) (vs := vs) (cs := cur.toList) (by simpa using hh) hv hty (by omega) (List.all_eq_true.1 h1)
  have hS' := hS.setWin hi hh q vs hfit hm
  rw [ho'] at hS'
  unfold Oper.wp
  obtain ⟨dst, op, ty, pos, af, gd⟩ := o
  simp only at ho hd; subst ho; subst hd
  simp only [execOp, FA_eval, hx, Instr.storeAt, Instr.sureAddr, Sem.run_bind, Sem.run_pure, Result.andThen_ok, hr, Oper.upon, FA_put]
  exact h _ hS'
theorem run_copy_noneN (w : World) (dT sT ty elem : TypeId) (d a : Option Addr) (dLen dCap sLen sCap sz : Nat) (hu : P.underlying dT = some (.slice elem)) (hs : (P.info? elem).map (·.size) = some sz) (hn : Nat.min sLen dLen = 0) :
    (Builtin.copy_ #[dT, sT] ty #[.slice d dLen dCap, .slice a sLen sCap]).run P w = .ok (goInt 0) w := by
  cases hq : P.info? elem with
  | none => simp [hq] at hs
  | some i =>
    have hl : ∀ (x : Addr), (loadCells x 0).run P w = .ok #[] w := fun x => by simpa using run_loadCells_list (P := P) w x [] (by simp)
    cases d <;> cases a <;> simp [Builtin.copy_, run_underlying hu, Builtin.lenOf, Builtin.firstCells, sizeOf, typeInfo, hq, hn, storeCells, hl]
theorem run_copy_rowN (w : World) (dT sT ty elem : TypeId) (g o dLen dCap : Nat) (a : Addr) (sLen sCap sz : Nat) (cur : Array Value) (t : TypeId) (cs : List Value)
    (hu : P.underlying dT = some (.slice elem)) (hs : (P.info? elem).map (·.size) = some sz)
    (hg : w.heap[g]? = some (.cells cur t (0, 0))) (hn : cs.length = Nat.min sLen dLen * sz)
    (hsrc : ∀ j v, cs[j]? = some v → w.cell? (a.add j) = some v) (hfit : o + cs.length ≤ cur.size) (h1 : ∀ v ∈ cs, v.oneCell' = true) :
    (Builtin.copy_ #[dT, sT] ty #[.slice (some ⟨g, o, none⟩) dLen dCap, .slice (some a) sLen sCap]).run P w =
      .ok (goInt (Nat.min sLen dLen)) (w.setRow g (cur.toList.take o ++ cs ++ cur.toList.drop (o + cs.length)).toArray) := by
  have hl := run_loadCells_list (P := P) w a cs hsrc
  rw [hn] at hl
  have hst := run_storeCells_at P g o t cs 0 cur w hg (by simpa using hfit) h1
  cases hq : P.info? elem with
  | none => simp [hq] at hs
  | some i =>
    have hi : i.size = sz := by simpa [hq] using hs
    simp [Builtin.copy_, run_underlying hu, Builtin.lenOf, Builtin.firstCells, sizeOf, typeInfo, hq, hi, hl, hst]
/-- All behind place k goes one place on: copy(s[k+1:], s[k:]). -/
theorem op_shift {d : Option Tmp} (hd : o.dst = d) {x y : Operand} {dT sT : TypeId} (ho : o.op = .call { callee := .builtin .copy, args := #[x, y], argTypes := #[dT, sT] }) {e : TypeId} (ht : P.underlying dT = some (.slice e)) {sz : Nat} (hsz : sized P e sz = true)
    {i b cap m k : Nat} {xs : List Value} (hi : own[i]? = some (.row (.slice (some ⟨b, 0, none⟩) m cap) e sz m xs)) (hkm : k < m) (hx : ev n l g x = .slice (cutA (some ⟨b, 0, none⟩) cap (k + 1) sz) (m - (k + 1)) (cap - (k + 1))) (hy : ev n l g y = .slice (cutA (some ⟨b, 0, none⟩) cap k sz) (m - k) (cap - k))
    (hS : St w0 w own) (h1 : ∀ u ∈ xs, u.oneCell' = true)
    (h : ∀ w', St w0 w' (own.set i (.row (.slice (some ⟨b, 0, none⟩) m cap) e sz m (xs.take ((k + 1) * sz) ++ (xs.drop (k * sz)).take ((m - (k + 1)) * sz)))) → K (FA n (putl d (.int .i64 ((m - (k + 1) : Nat) : Int)) l) g) w') : OW P o (FA n l g) w K Q := by
  refine ⟨?_⟩
  obtain ⟨cur, hh, hnc, hcm, hs, htk, hl⟩ := hS.row_heap (List.mem_of_getElem? hi)
  have hszo : (P.info? e).map (·.size) = some sz := by
    unfold sized at hsz
    cases hI : P.info? e with
    | none => simp [hI] at hsz
    | some i => simp only [hI] at hsz; simp [Nat.eq_of_beq_eq_true hsz]
  have hcy : cutA (some ⟨b, 0, none⟩) cap k sz = some ⟨b, k * sz, none⟩ := by rw [cutA, if_neg (by omega)]; simp [add_flat]
  rw [hcy] at hy
  have fin : ∀ (D : Option Addr) w', ev n l g x = .slice D (m - (k + 1)) (cap - (k + 1)) → (Builtin.copy_ #[dT, sT] o.type #[.slice D (m - (k + 1)) (cap - (k + 1)), .slice (some ⟨b, k * sz, none⟩) (m - k) (cap - k)]).run P w = .ok (.int .i64 ((m - (k + 1) : Nat) : Int)) w' → St w0 w' (own.set i (.row (.slice (some ⟨b, 0, none⟩) m cap) e sz m (xs.take ((k + 1) * sz) ++ (xs.drop (k * sz)).take ((m - (k + 1)) * sz)))) → o.wp P (FA n l g) w K Q := by
    intro D w' hx hrun hst
    unfold Oper.wp
    obtain ⟨dst, op, ty, pos, af, gd⟩ := o
    simp only at ho hd; subst ho; subst hd
    simp only [execOp, resolve, invoke, builtin, Sem.run_bind, Sem.run_pure, Result.andThen_ok, List.map_toArray, List.map_cons, List.map_nil, FA_eval, hx, hy, hrun, Oper.upon, FA_put]
    exact h w' hst
  have e1 : (k + 1) * sz = k * sz + sz := by rw [Nat.add_mul, Nat.one_mul]
  by_cases h0 : k + 1 = m
  · have hmin : Nat.min (m - k) (m - (k + 1)) = 0 := by rw [show m - (k + 1) = 0 by omega]; exact Nat.min_zero _
    have hrun := run_copy_noneN (P := P) w dT sT o.type e (cutA (some ⟨b, 0, none⟩) cap (k + 1) sz) (some ⟨b, k * sz, none⟩) (m - (k + 1)) (cap - (k + 1)) (m - k) (cap - k) sz ht hszo hmin
    refine fin _ w hx (by rw [hrun, show m - (k + 1) = 0 by omega]; rfl) ?_
    have hxs : xs.take ((k + 1) * sz) ++ (xs.drop (k * sz)).take ((m - (k + 1)) * sz) = xs := by
      rw [show m - (k + 1) = 0 by omega, Nat.zero_mul, List.take_zero, List.append_nil, List.take_of_length_le (by rw [hl, h0]; exact Nat.le_refl _)]
    rw [hxs]
    have he : own.set i (.row (.slice (some ⟨b, 0, none⟩) m cap) e sz m xs) = own := by
      apply List.ext_getElem?
      intro j
      rw [List.getElem?_set]
      split
      · rename_i hij; subst hij; rw [hi]; simp [(List.getElem?_eq_some_iff.1 hi).1]
      · rfl
    rw [he]; exact hS
  · have hcx : cutA (some ⟨b, 0, none⟩) cap (k + 1) sz = some ⟨b, (k + 1) * sz, none⟩ := by rw [cutA, if_neg (by omega)]; simp [add_flat]
    rw [hcx] at hx
    have hmin : Nat.min (m - k) (m - (k + 1)) = m - (k + 1) := Nat.min_eq_right (by omega)
    have hmul : m * sz = (k + 1) * sz + (m - (k + 1)) * sz := by rw [← Nat.add_mul, show k + 1 + (m - (k + 1)) = m by omega]
    have hcl : ((xs.drop (k * sz)).take ((m - (k + 1)) * sz)).length = (m - (k + 1)) * sz := by rw [List.length_take, List.length_drop, hl]; omega
    have hcap : m * sz ≤ cap * sz := Nat.mul_le_mul_right _ hnc
    have hrun := run_copy_rowN (P := P) w dT sT o.type e b ((k + 1) * sz) (m - (k + 1)) (cap - (k + 1)) ⟨b, k * sz, none⟩ (m - k) (cap - k) sz cur e ((xs.drop (k * sz)).take ((m - (k + 1)) * sz)) ht hszo hh (by rw [hmin]; exact hcl) (fun j v hj => by
      rw [List.getElem?_take] at hj
      split at hj
      · rw [List.getElem?_drop] at hj; rw [add_flat]; exact hS.rowc (List.mem_of_getElem? hi) hj
      · cases hj) (by rw [hcl, hs]; omega) (fun v hv => h1 v (List.mem_of_mem_drop (List.mem_of_mem_take hv)))
    have hst := hS.setSeg hi hh ((k + 1) * sz) ((xs.drop (k * sz)).take ((m - (k + 1)) * sz)) (by rw [hcl, hl]; omega)
    have e2 : xs.drop ((k + 1) * sz + ((xs.drop (k * sz)).take ((m - (k + 1)) * sz)).length) = [] := List.drop_of_length_le (by rw [hcl, hl]; omega)
    rw [e2, List.append_nil] at hst
    rw [hmin] at hrun
    exact fin _ _ hx hrun hst
end
section
variable {κ : IntKind} {p : Bool} {w0 w : World} {n : Nat} {A : Option Addr} {ys : List It} {own : List Res} {L : List (Int × List Int)}
theorem St.rdiw {c t tb : Nat} (h : St w0 w own) (hm : Res.win (.slice A n c) t (csz p) n (flat p ys) ∈ own) (hs : ∀ y ∈ ys, y.row κ tb ∈ own) (hl : ys.length = n) : RdI κ p w w.heap.size A n ys :=
  ⟨hl, h.rdw hm, fun y hy => by
    have h1 := hs y hy
    obtain ⟨_, A', c', hv, h2, h3⟩ := h.row_slice h1
    have h4 : Res.row (.slice y.A y.zs.length y.c) tb 1 y.zs.length (y.zs.map (Value.int κ)) ∈ own := h1
    injection hv with _ _ hc
    subst hc
    exact ⟨(h.rd h4).u1, h2, h3⟩⟩
theorem St.rdlw {c t tb : Nat} (h : St w0 w own) (hm : Res.win (.slice A n c) t (csz p) n (flat p ys) ∈ own) (hs : ∀ y ∈ ys, y.row κ tb ∈ own) (hc : ys.map (con p) = L) (ho : okL κ L) (hn : L.length = n) : RdL κ p w w.heap.size A n L :=
  ⟨ho, ys, h.rdiw hm hs (by rw [← hn, ← hc, List.length_map]), hc⟩
end
section
variable {κ : IntKind} {w w' w0 : World} {tl : List Res} {f : Int → Int} {k0 : Int} {ys : List It} {k n c e tb : Nat} {y : It} {A : Option Addr}
theorem St.markedW (h : St w0 w (.row (.slice y.A y.zs.length y.c) tb 1 y.zs.length ((marks f (k0 + (tot true (ys.take k) : Int) + 1) y.zs.length).map (Value.int κ)) :: .win (.slice A n c) e 2 n (flat true ((zat f true k0 ys k).set k ⟨k0 + (tot true (ys.take k) : Int), y.A, y.c, y.zs⟩)) :: (((zat f true k0 ys k).eraseIdx k).map (It.row κ tb) ++ tl))) (hy : ys[k]? = some y) :
    St w0 w (.win (.slice A n c) e 2 n (flat true (zat f true k0 ys (k + 1))) :: ((zat f true k0 ys (k + 1)).map (It.row κ tb) ++ tl)) := by
  have hz := zat_get (f := f) (p := true) (k0 := k0) hy
  have h1 : (mkE f true (k0 + (tot true (ys.take k) : Int)) y).row κ tb = .row (.slice y.A y.zs.length y.c) tb 1 y.zs.length ((marks f (k0 + (tot true (ys.take k) : Int) + 1) y.zs.length).map (Value.int κ)) := by
    simp [It.row, It.val, mkE, marks_length, pi]
  rw [← h1] at h
  have h2 := h.unbor (List.getElem?_eq_some_iff.1 hz).1
  rw [← zat_set hy, ← flat_set_same (p := true) (y' := mkE f true (k0 + (tot true (ys.take k) : Int)) y) (set_get (y' := ⟨k0 + (tot true (ys.take k) : Int), y.A, y.c, y.zs⟩) hz) (by simp [cel, It.val, mkE, marks_length]), List.set_set] at *
  exact h2
end
end Go.Proofs.Ytchkiohikhfecaa
