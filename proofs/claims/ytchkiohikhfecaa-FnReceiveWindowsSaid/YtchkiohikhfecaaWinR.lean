/-
  Slices that begin inside a block of the call's own: reads, stores, their tails; a copy within a row.
-/
import Derived.Test.YtchkiohikhfecaaDeep
import Derived.Test.YtchkiohikhfecaaCur
namespace Go.Proofs.Ytchkiohikhfecaa
open Go.RowKit
section
variable {P : Program} {w0 w w' : World} {own : List Res} {n : Nat} {l : List (Nat × Value)} {g : Nat → Value} {Q : Exit → Act → World → Prop} {K : Act → World → Prop} {o : Oper} {t : TypeId} {v : Value}
theorem win_of_row {B : Nat} {v : Value} {e sz n : Nat} {xs : List Value} (h : Res.holds B w (.row v e sz n xs)) : Res.holds B w (.win v e sz n xs) := by
  obtain ⟨h1, ⟨rfl, rfl⟩ | ⟨g, cap, cur, rfl, hb, hh, h2, h3, h4, h5⟩⟩ := h
  · exact ⟨none, 0, rfl, Nat.le_refl _, Nat.zero_le _, h1, .inl ⟨rfl, rfl, rfl⟩⟩
  · have hle : n * sz ≤ cap * sz := Nat.mul_le_mul_right _ h2
    exact ⟨_, cap, rfl, h2, h3, h1, .inr ⟨g, 0, cur, rfl, hb, hh, by omega, by simpa using h5⟩⟩
theorem St.swapRes {i : Nat} {r r' : Res} (h : St w0 w own) (hi : own[i]? = some r) (hh : r.holds w0.heap.size w → r'.holds w0.heap.size w) (hb : r'.blk = r.blk) : St w0 w (own.set i r') :=
  h.upd hi (World.grownBy.refl w _) (hh (h.hold _ (List.mem_of_getElem? hi))) (fun b hb' => .inl (by rw [← hb]; exact hb'))
theorem St.toWin {i : Nat} {v : Value} {e sz n : Nat} {xs : List Value} (h : St w0 w own) (hi : own[i]? = some (.row v e sz n xs)) : St w0 w (own.set i (.win v e sz n xs)) := h.swapRes hi win_of_row rfl
theorem St.nilwin (h : St w0 w own) (e sz : Nat) : St w0 w (.win (.slice none 0 0) e sz 0 [] :: own) :=
  h.new (World.grownBy.refl w _) ⟨none, 0, rfl, Nat.le_refl _, Nat.zero_le _, by simp, .inl ⟨rfl, rfl, rfl⟩⟩ (fun b hb => by cases hb)
theorem cutA_blk {A : Option Addr} {c k sz n m c' : Nat} : (Value.slice (cutA A c k sz) n c').ownBlock = (Value.slice A m c).ownBlock := by
  unfold cutA
  split
  · cases A <;> rfl
  · cases A with
    | none => rfl
    | some a => simp only [Option.map_some, Value.ownBlock]; congr 1; unfold Addr.add; split <;> rfl
theorem win_tail {B : Nat} {A : Option Addr} {n c e sz : Nat} {xs : List Value} (h : Res.holds B w (.win (.slice A (n + 1) c) e sz (n + 1) xs)) : Res.holds B w (.win (.slice (cutA A c 1 sz) n (c - 1)) e sz n (xs.drop sz)) := by
  obtain ⟨A', cap, hv, h1, h2, h3, h4⟩ := h
  injection hv with hA _ hc
  subst hA; subst hc
  have e1 : (n + 1) * sz = n * sz + sz := by rw [Nat.add_mul, Nat.one_mul]
  refine ⟨_, _, rfl, by omega, by omega, by rw [List.length_drop, h3, e1]; omega, ?_⟩
  have ec : (c - 1) * sz + sz = c * sz := by rw [show c * sz = (c - 1 + 1) * sz by rw [show c - 1 + 1 = c by omega], Nat.add_mul, Nat.one_mul]
  rcases h4 with ⟨_, h0, _⟩ | ⟨b, off, cur, rfl, hB, hh, h5, h6⟩
  · omega
  · right
    by_cases hc1 : c = 1
    · have hn0 : n = 0 := by omega
      subst hn0
      refine ⟨b, off, cur, by rw [cutA, if_pos hc1], hB, hh, by omega, ?_⟩
      have e2 : xs.drop sz = [] := List.drop_of_length_le (by rw [h3]; omega)
      rw [e2]; simp
    · refine ⟨b, off + 1 * sz, cur, by rw [cutA, if_neg hc1]; exact congrArg some (add_flat _ _ _), hB, hh, by rw [Nat.one_mul]; omega, ?_⟩
      rw [← h6, Nat.one_mul, List.drop_take, List.drop_drop, e1, Nat.add_sub_cancel]
theorem St.tailWin {i : Nat} {A : Option Addr} {n c e sz : Nat} {xs : List Value} (h : St w0 w own) (hi : own[i]? = some (.win (.slice A (n + 1) c) e sz (n + 1) xs)) : St w0 w (own.set i (.win (.slice (cutA A c 1 sz) n (c - 1)) e sz n (xs.drop sz))) :=
  h.swapRes hi win_tail cutA_blk
theorem St.win_cap {i : Nat} {A : Option Addr} {n c e sz : Nat} {xs : List Value} (h : St w0 w own) (hi : own[i]? = some (.win (.slice A n c) e sz n xs)) : n ≤ c ∧ c ≤ maxLen := by
  obtain ⟨A', cap, hv, h1, h2, _⟩ := h.hold _ (List.mem_of_getElem? hi)
  injection hv with _ _ hc
  subst hc; exact ⟨h1, h2⟩
theorem St.win_heap {A : Option Addr} {n c e sz : Nat} {xs : List Value} (h : St w0 w own) (hm : Res.win (.slice A n c) e sz n xs ∈ own) (hn : 0 < n) :
    ∃ (b off : Nat) (cur : Array Value), A = some ⟨b, off, none⟩ ∧ w0.heap.size ≤ b ∧ w.heap[b]? = some (.cells cur e (0, 0)) ∧ off + c * sz ≤ cur.size ∧ off + n * sz ≤ cur.size ∧ (cur.toList.drop off).take (n * sz) = xs ∧ xs.length = n * sz := by
  obtain ⟨A', cap, hv, h1, h2, h3, h4⟩ := h.hold _ hm
  injection hv with hA _ hc
  subst hA; subst hc
  rcases h4 with ⟨_, h0, _⟩ | ⟨b, off, cur, hA, hB, hh, h5, h6⟩
  · omega
  · exact ⟨b, off, cur, hA, hB, hh, h5, Nat.le_trans (Nat.add_le_add_left (Nat.mul_le_mul_right _ h1) _) h5, h6, h3⟩
theorem St.win_at {A : Option Addr} {n c e sz : Nat} {xs : List Value} (h : St w0 w own) (hm : Res.win (.slice A n c) e sz n xs ∈ own) (hn : 0 < n) : ∃ b off, A = some ⟨b, off, none⟩ := by
  obtain ⟨b, off, _, hA, _⟩ := h.win_heap hm hn; exact ⟨b, off, hA⟩
theorem St.win_len {A : Option Addr} {n c e sz : Nat} {xs : List Value} (h : St w0 w own) (hm : Res.win (.slice A n c) e sz n xs ∈ own) : xs.length = n * sz := by
  obtain ⟨A', cap, hv, h1, h2, h3, h4⟩ := h.hold _ hm; exact h3
theorem St.winc {b off n c e sz j : Nat} {xs : List Value} {u : Value} (h : St w0 w own) (hm : Res.win (.slice (some ⟨b, off, none⟩) n c) e sz n xs ∈ own) (hu : xs[j]? = some u) : w.cell? ⟨b, off + j, none⟩ = some u := by
  have hl := h.win_len hm
  have hj := (List.getElem?_eq_some_iff.1 hu).1
  obtain ⟨b', off', cur, hA, _, hh, _, _, h6, _⟩ := h.win_heap hm (Nat.pos_of_ne_zero fun e => by subst e; omega)
  injection hA with hA; injection hA with e1 e2 _
  subst e1; subst e2
  rw [← h6, List.getElem?_take] at hu
  split at hu
  · rw [List.getElem?_drop] at hu; simp [World.cell?, hh]; simpa using hu
  · cases hu
theorem St.rdw {A : Option Addr} {n c e sz : Nat} {xs : List Value} (h : St w0 w own) (hm : Res.win (.slice A n c) e sz n xs ∈ own) : Rd w w.heap.size A (n * sz) xs := by
  refine ⟨h.win_len hm, fun hp => ?_⟩
  obtain ⟨b, off, cur, rfl, hB, hh, _⟩ := h.win_heap hm (Nat.pos_of_ne_zero fun e => by subst e; omega)
  exact ⟨b, off, rfl, (Array.getElem?_eq_some_iff.1 hh).1, fun j u hu => h.winc hm hu⟩
theorem ld_win {i b off n cap e sz j : Nat} {xs : List Value} (hi : own[i]? = some (.win (.slice (some ⟨b, off, none⟩) n cap) e sz n xs)) (hu : xs[j]? = some v) {a : Nat} (ha : a = off + j) (hty : scal P t = true) : LoadsAt P (fun x => St w0 x own) t ⟨b, a, none⟩ v :=
  loads1 hty fun _ hx => by rw [ha]; exact hx.winc (List.mem_of_getElem? hi) hu
theorem St.setWin {i b off n cap e sz : Nat} {xs : List Value} (h : St w0 w own) (hi : own[i]? = some (.win (.slice (some ⟨b, off, none⟩) n cap) e sz n xs)) {cur : Array Value} (hc : w.heap[b]? = some (.cells cur e (0, 0))) (q : Nat) (vs : List Value) (ho : q + vs.length ≤ xs.length) (hn : 0 < n) :
    St w0 (w.setRow b (cur.toList.take (off + q) ++ vs ++ cur.toList.drop (off + q + vs.length)).toArray) (own.set i (.win (.slice (some ⟨b, off, none⟩) n cap) e sz n (xs.take q ++ vs ++ xs.drop (q + vs.length)))) := by
  have hm := List.mem_of_getElem? hi
  obtain ⟨b', off', cur', hA, hB, hh, hsc, hs, ht, hl⟩ := h.win_heap hm hn
  injection hA with hA; injection hA with e1 e2 _
  subst e1; subst e2
  rw [hh] at hc
  injection hc with hc
  injection hc with hc
  subst hc
  obtain ⟨_, cap', hv, c1, c2, _⟩ := h.hold _ hm
  injection hv with _ _ hcc
  subst hcc
  have hsz : cur'.toList.length = cur'.size := Array.length_toList
  refine h.upd hi (grownBy_setRow w b _) ⟨_, cap, rfl, c1, c2, ?_, .inr ⟨b, off, _, rfl, hB, setRow_heap w b _ _ e _ hh, ?_, ?_⟩⟩ (fun b' hb' => Or.inl hb')
  · simp only [List.length_append, List.length_take, List.length_drop]; omega
  · simp only [List.size_toArray, List.length_append, List.length_take, List.length_drop, Array.length_toList]; omega
  · rw [List.toList_toArray, ← ht]
    apply List.ext_getElem?
    intro j
    simp only [List.getElem?_take, List.getElem?_append, List.length_take, List.length_append, List.length_drop, List.getElem?_drop]
    rw [Nat.min_eq_left (show off + q ≤ cur'.toList.length by omega), Nat.min_eq_left (show q ≤ min (n * sz) (cur'.toList.length - off) by omega)]
    by_cases hj : j < n * sz
    · simp only [hj, if_true]
      by_cases h1 : j < q + vs.length
      · simp only [h1, if_true, show off + j < off + q + vs.length by omega]
        by_cases h2 : j < q
        · simp only [h2, if_true, show off + j < off + q by omega]
        · simp only [h2, if_false, show ¬ off + j < off + q by omega]
          congr 1; omega
      · simp only [h1, if_false, show ¬ off + j < off + q + vs.length by omega]
        rw [if_pos (by omega)]
        congr 1; omega
    · have h1 : ¬ j < q + vs.length := by omega
      simp only [hj, h1, if_false]
      rw [if_neg (by omega)]
theorem op_storeWin {d : Option Tmp} (hd : o.dst = d) {x y : Operand} (ho : o.op = .store t x y) {i b off a q m cap e sz : Nat} {xs : List Value} (hi : own[i]? = some (.win (.slice (some ⟨b, off, none⟩) m cap) e sz m xs)) (hx : ev n l g x = .pointer (some ⟨b, a, none⟩)) (ha : a = off + q) (vs : List Value) (hv : (ev n l g y).cells = vs.toArray)
    (hty : sized P t vs.length = true) (hfit : q + vs.length ≤ xs.length) (hm : 0 < m) (h1 : vs.all (·.oneCell') = true) (own' : List Res) (ho' : own.set i (.win (.slice (some ⟨b, off, none⟩) m cap) e sz m (xs.take q ++ vs ++ xs.drop (q + vs.length))) = own') (hS : St w0 w own)
    (h : ∀ w', St w0 w' own' → K (FA n (putl d undef l) g) w') : OW P o (FA n l g) w K Q := by
  refine ⟨?_⟩
  subst ha
  obtain ⟨b', off', cur, hA, _, hh, hsc, hs, ht, hl⟩ := hS.win_heap (List.mem_of_getElem? hi) hm
  injection hA with hA; injection hA with e1 e2 _
  subst e1; subst e2
  have hsz : cur.toList.length = cur.size := Array.length_toList
  have hr := run_storeVar_box (P := P) (t := t) (v := ev n l g y) (off := off + q) (vs := vs) (cs := cur.toList) (by simpa using hh) hv hty (by omega) (List.all_eq_true.1 h1)
  have hS' := hS.setWin hi hh q vs hfit hm
  rw [ho'] at hS'
  unfold Oper.wp
  obtain ⟨dst, op, ty, pos, af, gd⟩ := o
  simp only at ho hd; subst ho; subst hd
  simp only [execOp, FA_eval, hx, Instr.storeAt, Instr.sureAddr, Sem.run_bind, Sem.run_pure, Result.andThen_ok, hr, Oper.upon, FA_put]
  exact h _ hS'
theorem run_copy_noneN (w : World) (dT sT ty elem : TypeId) (d a : Option Addr) (dLen dCap sLen sCap sz : Nat) (hu : P.underlying dT = some (.slice elem)) (hs : (P.info? elem).map (·.size) = some sz) (hn : Nat.min sLen dLen = 0) :
    (Builtin.copy_ #[dT, sT] ty #[.slice d dLen dCap, .slice a sLen sCap]).run P w = .ok (goInt 0) w := by
  cases hq : P.info? elem with
  | none => simp [hq] at hs
  | some i =>
    have hl : ∀ (x : Addr), (loadCells x 0).run P w = .ok #[] w := fun x => by simpa using run_loadCells_list (P := P) w x [] (by simp)
    cases d <;> cases a <;> simp [Builtin.copy_, run_underlying hu, Builtin.lenOf, Builtin.firstCells, sizeOf, typeInfo, hq, hn, storeCells, hl]
theorem run_copy_rowN (w : World) (dT sT ty elem : TypeId) (g o dLen dCap : Nat) (a : Addr) (sLen sCap sz : Nat) (cur : Array Value) (t : TypeId) (cs : List Value)
    (hu : P.underlying dT = some (.slice elem)) (hs : (P.info? elem).map (·.size) = some sz)
    (hg : w.heap[g]? = some (.cells cur t (0, 0))) (hn : cs.length = Nat.min sLen dLen * sz)
    (hsrc : ∀ j v, cs[j]? = some v → w.cell? (a.add j) = some v) (hfit : o + cs.length ≤ cur.size) (h1 : ∀ v ∈ cs, v.oneCell' = true) :
    (Builtin.copy_ #[dT, sT] ty #[.slice (some ⟨g, o, none⟩) dLen dCap, .slice (some a) sLen sCap]).run P w =
      .ok (goInt (Nat.min sLen dLen)) (w.setRow g (cur.toList.take o ++ cs ++ cur.toList.drop (o + cs.length)).toArray) := by
  have hl := run_loadCells_list (P := P) w a cs hsrc
  rw [hn] at hl
  have hst := run_storeCells_at P g o t cs 0 cur w hg (by simpa using hfit) h1
  cases hq : P.info? elem with
  | none => simp [hq] at hs
  | some i =>
    have hi : i.size = sz := by simpa [hq] using hs
    simp [Builtin.copy_, run_underlying hu, Builtin.lenOf, Builtin.firstCells, sizeOf, typeInfo, hq, hi, hl, hst]
theorem run_append_roomO (w : World) (t ty e : TypeId) (i : TypeInfo) (ht : P.underlying t = some (.slice e)) (hi : P.info? e = some i)
    (g o sLen sCap : Nat) (cur : Array Value) (hg : w.heap[g]? = some (.cells cur e (0, 0)))
    (a : Addr) (m c : Nat) (news : List Value) (hl : news.length = m * i.size) (hnews : ∀ j u, news[j]? = some u → w.cell? (a.add j) = some u) (h1 : ∀ u ∈ news, u.oneCell' = true)
    (hroom : sLen + m ≤ sCap) (hfit : o + sLen * i.size + news.length ≤ cur.size) :
    (Builtin.append_ #[t, t] ty #[.slice (some ⟨g, o, none⟩) sLen sCap, .slice (some a) m c]).run P w =
      .ok (.slice (some ⟨g, o, none⟩) (sLen + m) sCap) (w.setRow g (cur.toList.take (o + sLen * i.size) ++ news ++ cur.toList.drop (o + sLen * i.size + news.length)).toArray) := by
  have hf := run_firstCells_some (P := P) w i.size m a m c news hl hnews
  have hst := run_storeCells_at P g (o + sLen * i.size) e news 0 cur w hg (by simpa using hfit) h1
  simp only [Nat.add_zero] at hst
  have ha : (⟨g, o, none⟩ : Addr).add (sLen * i.size) = ⟨g, o + sLen * i.size, none⟩ := add_flat _ _ _
  simp [Builtin.append_, run_underlying ht, sizeOf, typeInfo, hi, Builtin.lenOf, hroom, hf, ha, hst]
theorem run_append_win (w : World) {t ty e : TypeId} {z : Value} {size bytes : Nat} (E : El P t e z size bytes) {base n cap : Nat} {A : Option Addr} {xs : List Value} (hown : Res.holds base w (.win (.slice A n cap) e size n xs))
    {ad : Addr} {m c : Nat} (hm0 : 0 < m) {news : List Value} (hl : news.length = m * size) (hnews : ∀ j u, news[j]? = some u → w.cell? (ad.add j) = some u) (h1 : ∀ u ∈ news, u.oneCell' = true)
    (h63 : n + m ≤ maxLen) (hbytes : (n + m) * bytes ≤ 140737488355328) (hbase : base ≤ w.heap.size) :
    ∃ A' cap' w', (Builtin.append_ #[t, t] ty #[.slice A n cap, .slice (some ad) m c]).run P w = .ok (.slice A' (n + m) cap') w' ∧ Res.holds base w' (.win (.slice A' (n + m) cap') e size (n + m) (xs ++ news)) ∧ w.grownBy w' (Value.slice A n cap).ownBlock ∧
      ((Value.slice A' (n + m) cap').ownBlock = (Value.slice A n cap).ownBlock ∨ (Value.slice A' (n + m) cap').ownBlock = some w.heap.size) := by
  obtain ⟨i, hi, hz, hsz, hby⟩ := E.hi
  have hzs := E.hz
  have ht := E.ht
  subst hsz; subst hby
  have hsmall : n + m ≤ 9223372036854775807 := by simp only [maxLen] at h63; omega
  obtain ⟨A0, cap0, hv, hnc, hcm, hxl, hcase⟩ := hown
  injection hv with e1 _ e2
  subst e1; subst e2
  have hlen : (xs ++ news).length = (n + m) * i.size := by rw [List.length_append, hxl, hl, Nat.add_mul]
  have grown : ∀ (old : Nat), old < n + m → ∀ (row : Option Nat),
      Res.holds base (w.drew.alloc (.cells (xs.toArray ++ news.toArray ++ Builtin.zeroCells z.cells (grownCap w (n + m) old e - (n + m))) e)) (.win
        (.slice (some ⟨w.heap.size, 0, none⟩) (n + m) (grownCap w (n + m) old e)) e i.size (n + m) (xs ++ news)) ∧
      w.grownBy (w.drew.alloc (.cells (xs.toArray ++ news.toArray ++ Builtin.zeroCells z.cells (grownCap w (n + m) old e - (n + m))) e)) row := by
    intro old ho row
    have hge := grownCap_ge w (n + m) old e
    have hcm2 : grownCap w (n + m) old e ≤ maxLen := grownCap_le_maxLen w (n + m) old e h63
    refine ⟨⟨_, _, rfl, hge, hcm2, hlen, .inr ⟨w.heap.size, 0, _, rfl, hbase, heap_alloc_new w.drew _, ?_, ?_⟩⟩, ⟨rfl, rfl, rfl, by simp, fun k hk _ => heap_alloc_old w.drew _ hk⟩⟩
    · simp only [Array.size_append, List.size_toArray, size_zeroCells, hzs, hxl, hl, ← Nat.add_mul, Nat.zero_add]
      exact Nat.mul_le_mul_right _ (by omega)
    · simp only [Array.toList_append, List.append_assoc, List.drop_zero]
      rw [← List.append_assoc, ← hlen]
      exact List.take_left
  rcases hcase with ⟨rfl, rfl, rfl⟩ | ⟨g, off, cur, rfl, hbg, hg, hcs, htake⟩
  · have hx : xs = [] := List.eq_nil_of_length_eq_zero (by simpa using hxl)
    subst hx
    have hr := run_append_nil (P := P) w t ty e i z ht hi hz ad m c news hl hnews hm0 (by omega) (by have hb := hbytes; simp only [Nat.zero_add] at hb; omega)
    have hgr := grown 0 (by omega) (Value.ownBlock (.slice none 0 0))
    simp only [Nat.zero_add, List.nil_append, Array.empty_append] at hgr ⊢
    exact ⟨_, _, _, hr, hgr.1, hgr.2, .inr rfl⟩
  · have hle : n * i.size ≤ cap * i.size := Nat.mul_le_mul_right _ hnc
    have hsz2 : cur.toList.length = cur.size := Array.length_toList
    by_cases hroom : n + m ≤ cap
    · have hmul : n * i.size + news.length ≤ cap * i.size := by rw [hl, ← Nat.add_mul]; exact Nat.mul_le_mul_right _ hroom
      have hr := run_append_roomO (P := P) w t ty e i ht hi g off n cap cur hg ad m c news hl hnews h1 hroom (by omega)
      refine ⟨_, _, _, hr, ⟨_, cap, rfl, hroom, hcm, hlen, .inr ⟨g, off, _, rfl, hbg, setRow_heap w g cur _ e _ hg, ?_, ?_⟩⟩, ⟨rfl, rfl, rfl, by simp, fun k _ hk => setRow_other w g k _ (fun e => hk (by simp [Value.ownBlock, e]))⟩, .inl rfl⟩
      · simp only [List.size_toArray, List.length_append, List.length_take, List.length_drop, Array.length_toList]
        omega
      · rw [List.toList_toArray, List.append_assoc, List.drop_append_of_le_length (by rw [List.length_take]; omega), List.drop_take, show off + n * i.size - off = n * i.size by omega, htake, ← List.append_assoc, ← hlen]
        exact List.take_left
    · have holds : ∀ j u, xs[j]? = some u → w.cell? ((⟨g, off, none⟩ : Addr).add j) = some u := fun j u hj => by
        rw [add_flat]
        rw [← htake, List.getElem?_take] at hj
        split at hj
        · rw [List.getElem?_drop] at hj; simp [World.cell?, hg]; simpa using hj
        · cases hj
      have hr := run_append_grow (P := P) w t ty e i z ht hi hz ⟨g, off, none⟩ n cap xs hxl holds ad m c news hl hnews (by omega) (by omega) (growslice_fits (by omega) hbytes)
      have hgr := grown cap (by omega) (Value.ownBlock (.slice (some ⟨g, off, none⟩) n cap))
      exact ⟨_, _, _, hr, hgr.1, hgr.2, .inr rfl⟩
theorem op_appendWin {d : Option Tmp} (hd : o.dst = d) {s x : Operand} (ho : o.op = .call { callee := .builtin .append, args := #[s, x], argTypes := #[t, t] }) {e : TypeId} {z : Value} {sz bytes : Nat} (E : El P t e z sz bytes) {i m cap : Nat} {A : Option Addr} {xs : List Value} (hS : St w0 w own) (hi : own[i]? = some (.win (.slice A m cap) e sz m xs)) (hs : ev n l g s = .slice A m cap)
    {ad : Addr} {k c : Nat} (hk : 0 < k) {news : List Value} (hx : ev n l g x = .slice (some ad) k c) (hr : Rd w w.heap.size (some ad) (k * sz) news) (h1 : ∀ u ∈ news, u.oneCell' = true) (h63 : m + k ≤ 140737488355328) (hbytes : (m + k) * bytes ≤ 140737488355328)
    (h : ∀ A' c' w', St w0 w' (own.set i (.win (.slice A' (m + k) c') e sz (m + k) (xs ++ news))) → K (FA n (putl d (.slice A' (m + k) c') l) g) w') : OW P o (FA n l g) w K Q := by
  refine ⟨?_⟩
  obtain ⟨A', c', w', hrun, h2, h3, h4⟩ := run_append_win (P := P) (ty := o.type) w E (hS.hold _ (List.mem_of_getElem? hi)) (c := c) hk hr.1 hr.at_add h1 (by unfold maxLen; omega) hbytes hS.size
  have hS' : St w0 w' (own.set i (.win (.slice A' (m + k) c') e sz (m + k) (xs ++ news))) := hS.upd hi h3 h2 (fun b hb => by
    rcases h4 with h4 | h4
    · exact .inl (by show (Value.slice A m cap).ownBlock = some b; rw [← h4]; exact hb)
    · right
      have hb' : (Value.slice A' (m + k) c').ownBlock = some b := hb
      rw [h4] at hb'; injection hb' with hb'; omega)
  unfold Oper.wp
  obtain ⟨dst, op, ty, pos, af, gd⟩ := o
  simp only at ho hd; subst ho; subst hd
  simp only [execOp, resolve, invoke, builtin, Sem.run_bind, Sem.run_pure, Result.andThen_ok, List.map_toArray, List.map_cons, List.map_nil, FA_eval, hs, hx, hrun, Oper.upon, FA_put]
  exact h A' c' w' hS'
/-- All behind place k goes one place on: copy(s[k+1:], s[k:]). -/
theorem op_shift {d : Option Tmp} (hd : o.dst = d) {x y : Operand} {dT sT : TypeId} (ho : o.op = .call { callee := .builtin .copy, args := #[x, y], argTypes := #[dT, sT] }) {e : TypeId} (ht : P.underlying dT = some (.slice e)) {sz : Nat} (hsz : sized P e sz = true)
    {i b cap m k : Nat} {xs : List Value} (hi : own[i]? = some (.row (.slice (some ⟨b, 0, none⟩) m cap) e sz m xs)) (hkm : k < m) (hx : ev n l g x = .slice (cutA (some ⟨b, 0, none⟩) cap (k + 1) sz) (m - (k + 1)) (cap - (k + 1))) (hy : ev n l g y = .slice (cutA (some ⟨b, 0, none⟩) cap k sz) (m - k) (cap - k))
    (hS : St w0 w own) (h1 : ∀ u ∈ xs, u.oneCell' = true)
    (h : ∀ w', St w0 w' (own.set i (.row (.slice (some ⟨b, 0, none⟩) m cap) e sz m (xs.take ((k + 1) * sz) ++ (xs.drop (k * sz)).take ((m - (k + 1)) * sz)))) → K (FA n (putl d (.int .i64 ((m - (k + 1) : Nat) : Int)) l) g) w') : OW P o (FA n l g) w K Q := by
  refine ⟨?_⟩
  obtain ⟨cur, hh, hnc, hcm, hs, htk, hl⟩ := hS.row_heap (List.mem_of_getElem? hi)
  have hszo : (P.info? e).map (·.size) = some sz := by
    unfold sized at hsz
    cases hI : P.info? e with
    | none => simp [hI] at hsz
    | some i => simp only [hI] at hsz; simp [Nat.eq_of_beq_eq_true hsz]
  have hcy : cutA (some ⟨b, 0, none⟩) cap k sz = some ⟨b, k * sz, none⟩ := by rw [cutA, if_neg (by omega)]; simp [add_flat]
  rw [hcy] at hy
  have fin : ∀ (D : Option Addr) w', ev n l g x = .slice D (m - (k + 1)) (cap - (k + 1)) → (Builtin.copy_ #[dT, sT] o.type #[.slice D (m - (k + 1)) (cap - (k + 1)), .slice (some ⟨b, k * sz, none⟩) (m - k) (cap - k)]).run P w = .ok (.int .i64 ((m - (k + 1) : Nat) : Int)) w' → St w0 w' (own.set i (.row (.slice (some ⟨b, 0, none⟩) m cap) e sz m (xs.take ((k + 1) * sz) ++ (xs.drop (k * sz)).take ((m - (k + 1)) * sz)))) → o.wp P (FA n l g) w K Q := by
    intro D w' hx hrun hst
    unfold Oper.wp
    obtain ⟨dst, op, ty, pos, af, gd⟩ := o
    simp only at ho hd; subst ho; subst hd
    simp only [execOp, resolve, invoke, builtin, Sem.run_bind, Sem.run_pure, Result.andThen_ok, List.map_toArray, List.map_cons, List.map_nil, FA_eval, hx, hy, hrun, Oper.upon, FA_put]
    exact h w' hst
  have e1 : (k + 1) * sz = k * sz + sz := by rw [Nat.add_mul, Nat.one_mul]
  by_cases h0 : k + 1 = m
  · have hmin : Nat.min (m - k) (m - (k + 1)) = 0 := by rw [show m - (k + 1) = 0 by omega]; exact Nat.min_zero _
    have hrun := run_copy_noneN (P := P) w dT sT o.type e (cutA (some ⟨b, 0, none⟩) cap (k + 1) sz) (some ⟨b, k * sz, none⟩) (m - (k + 1)) (cap - (k + 1)) (m - k) (cap - k) sz ht hszo hmin
    refine fin _ w hx (by rw [hrun, show m - (k + 1) = 0 by omega]; rfl) ?_
    have hxs : xs.take ((k + 1) * sz) ++ (xs.drop (k * sz)).take ((m - (k + 1)) * sz) = xs := by
      rw [show m - (k + 1) = 0 by omega, Nat.zero_mul, List.take_zero, List.append_nil, List.take_of_length_le (by rw [hl, h0]; exact Nat.le_refl _)]
    rw [hxs]
    have he : own.set i (.row (.slice (some ⟨b, 0, none⟩) m cap) e sz m xs) = own := by
      apply List.ext_getElem?
      intro j
      rw [List.getElem?_set]
      split
      · rename_i hij; subst hij; rw [hi]; simp [(List.getElem?_eq_some_iff.1 hi).1]
      · rfl
    rw [he]; exact hS
  · have hcx : cutA (some ⟨b, 0, none⟩) cap (k + 1) sz = some ⟨b, (k + 1) * sz, none⟩ := by rw [cutA, if_neg (by omega)]; simp [add_flat]
    rw [hcx] at hx
    have hmin : Nat.min (m - k) (m - (k + 1)) = m - (k + 1) := Nat.min_eq_right (by omega)
    have hmul : m * sz = (k + 1) * sz + (m - (k + 1)) * sz := by rw [← Nat.add_mul, show k + 1 + (m - (k + 1)) = m by omega]
    have hcl : ((xs.drop (k * sz)).take ((m - (k + 1)) * sz)).length = (m - (k + 1)) * sz := by rw [List.length_take, List.length_drop, hl]; omega
    have hcap : m * sz ≤ cap * sz := Nat.mul_le_mul_right _ hnc
    have hrun := run_copy_rowN (P := P) w dT sT o.type e b ((k + 1) * sz) (m - (k + 1)) (cap - (k + 1)) ⟨b, k * sz, none⟩ (m - k) (cap - k) sz cur e ((xs.drop (k * sz)).take ((m - (k + 1)) * sz)) ht hszo hh (by rw [hmin]; exact hcl) (fun j v hj => by
      rw [List.getElem?_take] at hj
      split at hj
      · rw [List.getElem?_drop] at hj; rw [add_flat]; exact hS.rowc (List.mem_of_getElem? hi) hj
      · cases hj) (by rw [hcl, hs]; omega) (fun v hv => h1 v (List.mem_of_mem_drop (List.mem_of_mem_take hv)))
    have hst := hS.setSeg hi hh ((k + 1) * sz) ((xs.drop (k * sz)).take ((m - (k + 1)) * sz)) (by rw [hcl, hl]; omega)
    have e2 : xs.drop ((k + 1) * sz + ((xs.drop (k * sz)).take ((m - (k + 1)) * sz)).length) = [] := List.drop_of_length_le (by rw [hcl, hl]; omega)
    rw [e2, List.append_nil] at hst
    rw [hmin] at hrun
    exact fin _ _ hx hrun hst
end
section
variable {κ : IntKind} {p : Bool} {w0 w : World} {n : Nat} {A : Option Addr} {ys : List It} {own : List Res} {L : List (Int × List Int)}
theorem St.rdiw {c t tb : Nat} (h : St w0 w own) (hm : Res.win (.slice A n c) t (csz p) n (flat p ys) ∈ own) (hs : ∀ y ∈ ys, y.row κ tb ∈ own) (hl : ys.length = n) : RdI κ p w w.heap.size A n ys :=
  ⟨hl, h.rdw hm, fun y hy => by
    have h1 := hs y hy
    obtain ⟨_, A', c', hv, h2, h3⟩ := h.row_slice h1
    have h4 : Res.row (.slice y.A y.zs.length y.c) tb 1 y.zs.length (y.zs.map (Value.int κ)) ∈ own := h1
    injection hv with _ _ hc
    subst hc
    exact ⟨(h.rd h4).u1, h2, h3⟩⟩
theorem St.rdlw {c t tb : Nat} (h : St w0 w own) (hm : Res.win (.slice A n c) t (csz p) n (flat p ys) ∈ own) (hs : ∀ y ∈ ys, y.row κ tb ∈ own) (hc : ys.map (con p) = L) (ho : okL κ L) (hn : L.length = n) : RdL κ p w w.heap.size A n L :=
  ⟨ho, ys, h.rdiw hm hs (by rw [← hn, ← hc, List.length_map]), hc⟩
end
section
variable {κ : IntKind} {w w' w0 : World} {tl : List Res} {f : Int → Int} {k0 : Int} {ys : List It} {k n c e tb : Nat} {y : It} {A : Option Addr}
theorem St.markedW (h : St w0 w (.row (.slice y.A y.zs.length y.c) tb 1 y.zs.length ((marks f (k0 + (tot true (ys.take k) : Int) + 1) y.zs.length).map (Value.int κ)) :: .win (.slice A n c) e 2 n (flat true ((zat f true k0 ys k).set k ⟨k0 + (tot true (ys.take k) : Int), y.A, y.c, y.zs⟩)) :: (((zat f true k0 ys k).eraseIdx k).map (It.row κ tb) ++ tl))) (hy : ys[k]? = some y) :
    St w0 w (.win (.slice A n c) e 2 n (flat true (zat f true k0 ys (k + 1))) :: ((zat f true k0 ys (k + 1)).map (It.row κ tb) ++ tl)) := by
  have hz := zat_get (f := f) (p := true) (k0 := k0) hy
  have h1 : (mkE f true (k0 + (tot true (ys.take k) : Int)) y).row κ tb = .row (.slice y.A y.zs.length y.c) tb 1 y.zs.length ((marks f (k0 + (tot true (ys.take k) : Int) + 1) y.zs.length).map (Value.int κ)) := by
    simp [It.row, It.val, mkE, marks_length, pi]
  rw [← h1] at h
  have h2 := h.unbor (List.getElem?_eq_some_iff.1 hz).1
  rw [← zat_set hy, ← flat_set_same (p := true) (y' := mkE f true (k0 + (tot true (ys.take k) : Int)) y) (set_get (y' := ⟨k0 + (tot true (ys.take k) : Int), y.A, y.c, y.zs⟩) hz) (by simp [cel, It.val, mkE, marks_length]), List.set_set] at *
  exact h2
end
end Go.Proofs.Ytchkiohikhfecaa
