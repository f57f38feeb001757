/-
  The state of a call: what the call owns (boxes of its struct variables, rows of its slices), apart from each other; everything below the call's first block is as it was.
-/
import Derived.Test.YtchkiohikhfecaaBase
import Derived.Maps.AppendAt
import Derived.Laws.Tables
import Derived.Laws.MakeOwn
import Derived.OrdersHeld
namespace Go.Proofs.Ytchkiohikhfecaa
open Go.RowKit

/-- One thing that a call owns: a box (a variable), or the row of a slice value. -/
inductive Res where
  | box (b : Nat) (cs : List Value) (t : TypeId)
  | row (v : Value) (e : TypeId) (sz n : Nat) (xs : List Value)
  | ro (v : Value) (n : Nat) (xs : List Value)
  | win (v : Value) (e : TypeId) (sz n : Nat) (xs : List Value)
def Res.blk : Res → Option Nat
  | .box b _ _ => some b
  | .row v _ _ _ _ => v.ownBlock
  | .ro v _ _ => v.ownBlock
  | .win v _ _ _ _ => v.ownBlock
def Res.holds (B : Nat) (w : World) : Res → Prop
  | .box b cs t => B ≤ b ∧ w.heap[b]? = some (.cells cs.toArray t (0, 0))
  | .row v e sz n xs => w.ownsRow B e sz v n xs
  | .ro v n xs => ∃ g cap cs t m, v = .slice (some ⟨g, 0, none⟩) n cap ∧ B ≤ g ∧ w.heap[g]? = some (.cells cs t m) ∧ xs.length = n ∧ cs.toList.take n = xs
  | .win v e sz n xs => ∃ A cap, v = .slice A n cap ∧ n ≤ cap ∧ cap ≤ maxLen ∧ xs.length = n * sz ∧ (A = none ∧ n = 0 ∧ cap = 0 ∨ ∃ b off cur, A = some ⟨b, off, none⟩ ∧ B ≤ b ∧ w.heap[b]? = some (.cells cur e (0, 0)) ∧ off + cap * sz ≤ cur.size ∧ (cur.toList.drop off).take (n * sz) = xs)
def Res.apart (r s : Res) : Prop := ∀ b, r.blk = some b → s.blk ≠ some b
theorem Res.apart.symm {r s : Res} (h : r.apart s) : s.apart r := fun b hs hr => h b hr hs

/-- At world w, of a call that began (or whose frame began) at w0, the call owns 'own'. -/
structure St (w0 w : World) (own : List Res) : Prop where
  bel : Below w0.heap.size w0 w
  hold : ∀ r ∈ own, r.holds w0.heap.size w
  nd : own.Pairwise Res.apart

section
variable {w0 w w' : World} {own : List Res}

theorem Res.holds.lt {B : Nat} {r : Res} (h : r.holds B w) : ∀ b, r.blk = some b → B ≤ b ∧ b < w.heap.size := by
  intro b hb
  cases r with
  | box b' cs t =>
    simp only [Res.blk, Option.some.injEq] at hb; subst hb
    exact ⟨h.1, (Array.getElem?_eq_some_iff.1 h.2).1⟩
  | row v e sz n xs => exact World.ownsRow.lt h b hb
  | ro v n xs =>
    obtain ⟨g, cap, cs, t, m, rfl, hB, hh, _⟩ := h
    simp only [Res.blk, Value.ownBlock, Option.some.injEq] at hb; subst hb
    exact ⟨hB, (Array.getElem?_eq_some_iff.1 hh).1⟩
  | win v e sz n xs =>
    obtain ⟨A, cap, rfl, _, _, _, ⟨rfl, _⟩ | ⟨g, off, cur, rfl, hB, hh, _⟩⟩ := h
    · cases hb
    · simp only [Res.blk, Value.ownBlock, Option.some.injEq] at hb; subst hb
      exact ⟨hB, (Array.getElem?_eq_some_iff.1 hh).1⟩
theorem Res.holds.kept {B : Nat} {r : Res} (h : r.holds B w) (hk : ∀ b, r.blk = some b → w'.heap[b]? = w.heap[b]?) : r.holds B w' := by
  cases r with
  | box b cs t => exact ⟨h.1, (hk b rfl).trans h.2⟩
  | row v e sz n xs =>
    refine ⟨h.1, ?_⟩
    rcases h.2 with hn | ⟨g, cap, cur, rfl, hb, hgg, rest⟩
    · exact .inl hn
    · exact .inr ⟨g, cap, cur, rfl, hb, (hk g rfl).trans hgg, rest⟩
  | ro v n xs =>
    obtain ⟨g, cap, cs, t, m, rfl, hB, hh, rest⟩ := h
    exact ⟨g, cap, cs, t, m, rfl, hB, (hk g rfl).trans hh, rest⟩
  | win v e sz n xs =>
    obtain ⟨A, cap, rfl, h1, h2, h3, h4⟩ := h
    refine ⟨A, cap, rfl, h1, h2, h3, ?_⟩
    rcases h4 with h4 | ⟨g, off, cur, rfl, hB, hh, rest⟩
    · exact .inl h4
    · exact .inr ⟨g, off, cur, rfl, hB, (hk g rfl).trans hh, rest⟩
theorem Res.holds.base {B B' : Nat} {r : Res} (h : r.holds B w) (hB : B' ≤ B) : r.holds B' w := by
  cases r with
  | box b cs t => exact ⟨Nat.le_trans hB h.1, h.2⟩
  | row v e sz n xs => exact ⟨h.1, h.2.elim Or.inl (fun ⟨g, cap, cur, hv, hg, r⟩ => Or.inr ⟨g, cap, cur, hv, Nat.le_trans hB hg, r⟩)⟩
  | ro v n xs =>
    obtain ⟨g, cap, cs, t, m, hv, hg, rest⟩ := h
    exact ⟨g, cap, cs, t, m, hv, Nat.le_trans hB hg, rest⟩
  | win v e sz n xs =>
    obtain ⟨A, cap, hv, h1, h2, h3, h4⟩ := h
    exact ⟨A, cap, hv, h1, h2, h3, h4.elim Or.inl (fun ⟨g, off, cur, hA, hg, r⟩ => Or.inr ⟨g, off, cur, hA, Nat.le_trans hB hg, r⟩)⟩

theorem St.init (w : World) : St w w [] := ⟨Below.refl _ _, fun _ h => by simp at h, .nil⟩
theorem St.sub {own' : List Res} (h : St w0 w own) (hs : own'.Sublist own) : St w0 w own' := ⟨h.bel, fun r hr => h.hold r (hs.subset hr), h.nd.sublist hs⟩
theorem St.drop {r : Res} (h : St w0 w (r :: own)) : St w0 w own := h.sub (List.sublist_cons_self _ _)
theorem St.perm {own' : List Res} (h : St w0 w own) (hp : own.Perm own') : St w0 w own' :=
  ⟨h.bel, fun r hr => h.hold r (hp.mem_iff.2 hr), (hp.pairwise_iff (fun {x y} hxy => Res.apart.symm hxy)).1 h.nd⟩
theorem St.size (h : St w0 w own) : w0.heap.size ≤ w.heap.size := h.bel.size
/-- What was there when the call began. -/
theorem St.low {a : Addr} {v : Value} (h : St w0 w own) (hc : w0.cell? a = some v) : w.cell? a = some v := (h.bel.cell (block_lt_of_cell hc)).trans hc
/-- All that is owned lasts over a call that leaves what is there. -/
theorem St.later (h : St w0 w own) (hb : Below w.heap.size w w') : St w0 w' own :=
  ⟨h.bel.trans (hb.mono h.size), fun r hr => (h.hold r hr).kept fun b hb' => hb.block b ((h.hold r hr).lt b hb').2, h.nd⟩
/-- Behind a call: what it made is owned besides. -/
theorem St.call {new : List Res} (h : St w0 w own) (k : St w w' new) : St w0 w' (new ++ own) := by
  have h' := h.later k.bel
  refine ⟨h'.bel, fun r hr => ?_, ?_⟩
  · rcases List.mem_append.1 hr with hr | hr
    · exact (k.hold r hr).base h.size
    · exact h'.hold r hr
  · refine List.pairwise_append.2 ⟨k.nd, h.nd, fun r hr s hs b hb hb' => ?_⟩
    have h1 := ((k.hold r hr).lt b hb).1
    have h2 := ((h.hold s hs).lt b hb').2
    omega
theorem St.upd {i : Nat} {r r' : Res} (h : St w0 w own) (hi : own[i]? = some r) (hg : w.grownBy w' r.blk) (hr : r'.holds w0.heap.size w') (hb : ∀ b, r'.blk = some b → r.blk = some b ∨ w.heap.size ≤ b) : St w0 w' (own.set i r') := by
  have hrm : r ∈ own := List.mem_of_getElem? hi
  have hap : ∀ j s, own[j]? = some s → j ≠ i → Res.apart r s := by
    intro j s hj hji
    obtain ⟨hil, hie⟩ := List.getElem?_eq_some_iff.1 hi
    obtain ⟨hjl, hje⟩ := List.getElem?_eq_some_iff.1 hj
    have hp := List.pairwise_iff_getElem.1 h.nd
    rcases Nat.lt_or_gt_of_ne hji with hlt | hlt
    · have := hp j i hjl hil hlt
      rw [hje, hie] at this
      exact this.symm
    · have := hp i j hil hjl hlt
      rw [hje, hie] at this
      exact this
  have keep : ∀ j s, own[j]? = some s → j ≠ i → s.holds w0.heap.size w' := by
    intro j s hj hji
    have hs := h.hold s (List.mem_of_getElem? hj)
    refine hs.kept fun b hb' => hg.block b (hs.lt b hb').2 (fun e => (hap j s hj hji) b e.symm hb')
  have far : ∀ j s, own[j]? = some s → j ≠ i → Res.apart r' s := by
    intro j s hj hji b hb1 hb2
    rcases hb b hb1 with h1 | h1
    · exact hap j s hj hji b h1 hb2
    · have := ((h.hold s (List.mem_of_getElem? hj)).lt b hb2).2
      omega
  refine ⟨h.bel.grown hg h.size (fun k hk => ((h.hold r hrm).lt k hk).1), fun s hs => ?_, ?_⟩
  · obtain ⟨j, hj⟩ := List.mem_iff_getElem?.1 hs
    by_cases hji : j = i
    · subst hji
      rw [List.getElem?_set_self (List.getElem?_eq_some_iff.1 hi).1] at hj
      injection hj with hj; subst hj; exact hr
    · rw [List.getElem?_set_ne (Ne.symm hji)] at hj
      exact keep j s hj hji
  · refine List.pairwise_iff_getElem.2 fun x y hx hy hxy => ?_
    have e1 : (own.set i r')[x]? = some (own.set i r')[x] := List.getElem?_eq_getElem hx
    have e2 : (own.set i r')[y]? = some (own.set i r')[y] := List.getElem?_eq_getElem hy
    have hlen : i < own.length := (List.getElem?_eq_some_iff.1 hi).1
    by_cases hxi : x = i
    · subst hxi
      rw [List.getElem?_set_self hlen] at e1
      rw [List.getElem?_set_ne (by omega)] at e2
      injection e1 with e1
      rw [← e1]
      exact far y _ e2 (by omega)
    · rw [List.getElem?_set_ne (Ne.symm hxi)] at e1
      by_cases hyi : y = i
      · subst hyi
        rw [List.getElem?_set_self hlen] at e2
        injection e2 with e2
        rw [← e2]
        exact (far x _ e1 hxi).symm
      · rw [List.getElem?_set_ne (Ne.symm hyi)] at e2
        have hxl := (List.getElem?_eq_some_iff.1 e1)
        have hyl := (List.getElem?_eq_some_iff.1 e2)
        rw [← hxl.2, ← hyl.2]
        exact List.pairwise_iff_getElem.1 h.nd x y hxl.1 hyl.1 hxy
/-- A new thing in a new block. -/
theorem St.new {r : Res} (h : St w0 w own) (hg : w.grownBy w' none) (hr : r.holds w0.heap.size w') (hb : ∀ b, r.blk = some b → w.heap.size ≤ b) : St w0 w' (r :: own) := by
  have keep : ∀ s ∈ own, s.holds w0.heap.size w' := fun s hs => (h.hold s hs).kept fun b hb' => hg.block b ((h.hold s hs).lt b hb').2 (by simp)
  refine ⟨h.bel.grown hg h.size (fun k hk => by cases hk), fun s hs => ?_, List.pairwise_cons.2 ⟨fun s hs b hb1 hb2 => ?_, h.nd⟩⟩
  · rcases List.mem_cons.1 hs with rfl | hs
    · exact hr
    · exact keep s hs
  · have h1 := hb b hb1
    have h2 := ((h.hold s hs).lt b hb2).2
    omega
theorem St.alloc (h : St w0 w own) (cs : List Value) (t : TypeId) : St w0 (w.alloc (.cells cs.toArray t)) (.box w.heap.size cs t :: own) :=
  h.new (World.grownBy_alloc w _ none) ⟨h.size, heap_alloc_new w _⟩ (fun b hb => by simp only [Res.blk, Option.some.injEq] at hb; omega)
theorem St.lit (h : St w0 w own) (cs : List Value) (e : TypeId) (sz n : Nat) (hl : cs.length = n * sz) (hm : n ≤ maxLen) :
    St w0 (w.alloc (.cells cs.toArray e)) (.row (.slice (some ⟨w.heap.size, 0, none⟩) n n) e sz n cs :: own) :=
  h.new (World.grownBy_alloc w _ none) (by simpa [Res.holds] using World.ownsRow_lit (e := e) (size := sz) (base := w0.heap.size) w cs.toArray n h.size hm (by simpa using hl)) (fun b hb => by simp only [Res.blk, Value.ownBlock, Option.some.injEq] at hb; omega)
/-- A box's cells are stored to. -/
theorem grownBy_setRow (w : World) (g : Nat) (cs : Array Value) : w.grownBy (w.setRow g cs) (some g) :=
  ⟨rfl, rfl, rfl, by simp [World.setRow], fun k _ hk => setRow_other w g k cs (fun e => hk (by rw [e]))⟩
theorem St.box_heap {b : Nat} {cs : List Value} {t : TypeId} (h : St w0 w own) (hm : Res.box b cs t ∈ own) : w.heap[b]? = some (.cells cs.toArray t (0, 0)) := (h.hold _ hm).2
theorem St.setBox {i b : Nat} {cs : List Value} {t : TypeId} (h : St w0 w own) (hi : own[i]? = some (.box b cs t)) (cs' : List Value) : St w0 (w.setRow b cs'.toArray) (own.set i (.box b cs' t)) :=
  h.upd hi (grownBy_setRow w b _) ⟨(h.hold _ (List.mem_of_getElem? hi)).1, setRow_heap w b _ _ t _ (h.box_heap (List.mem_of_getElem? hi))⟩ (fun b' hb' => Or.inl hb')
theorem St.row_heap {g n cap e sz : Nat} {xs : List Value} (h : St w0 w own) (hm : Res.row (.slice (some ⟨g, 0, none⟩) n cap) e sz n xs ∈ own) :
    ∃ cur : Array Value, w.heap[g]? = some (.cells cur e (0, 0)) ∧ n ≤ cap ∧ cap ≤ maxLen ∧ cur.size = cap * sz ∧ cur.toList.take (n * sz) = xs ∧ xs.length = n * sz := by
  have h1 := h.hold _ hm
  rcases h1.2 with ⟨hn, _⟩ | ⟨g', cap', cur, hv, _, hh, hnc, hm', hs, ht⟩
  · cases hn
  · injection hv with hv1 _ hv2
    injection hv1 with hv1
    injection hv1 with hv1
    subst hv1; subst hv2
    exact ⟨cur, hh, hnc, hm', hs, ht, h1.1⟩
/-- A part of a row is stored to. -/
theorem St.setSeg {i g n cap e sz : Nat} {xs : List Value} (h : St w0 w own) (hi : own[i]? = some (.row (.slice (some ⟨g, 0, none⟩) n cap) e sz n xs)) {cur : Array Value} (hc : w.heap[g]? = some (.cells cur e (0, 0))) (o : Nat) (vs : List Value) (ho : o + vs.length ≤ xs.length) :
    St w0 (w.setRow g (cur.toList.take o ++ vs ++ cur.toList.drop (o + vs.length)).toArray) (own.set i (.row (.slice (some ⟨g, 0, none⟩) n cap) e sz n (xs.take o ++ vs ++ xs.drop (o + vs.length)))) := by
  have hm := List.mem_of_getElem? hi
  obtain ⟨cur', hh, hnc, hcm, hs, ht, hl⟩ := h.row_heap hm
  rw [hh] at hc
  injection hc with hc
  injection hc with hc
  subst hc
  have hlen : n * sz ≤ cur'.toList.length := by rw [Array.length_toList, hs]; exact Nat.mul_le_mul_right _ hnc
  refine h.upd hi (grownBy_setRow w g _) ⟨?_, .inr ⟨g, cap, _, rfl, ((h.hold _ hm).lt g rfl).1, setRow_heap w g _ _ e _ hh, hnc, hcm, ?_, ?_⟩⟩ (fun b' hb' => Or.inl hb')
  · simp only [List.length_append, List.length_take, List.length_drop]; omega
  · simp only [List.size_toArray, List.length_append, List.length_take, List.length_drop, Array.length_toList]
    rw [Array.length_toList] at hlen; omega
  · have hx : xs.length = n * sz := hl
    rw [List.toList_toArray, ← ht]
    apply List.ext_getElem?
    intro j
    simp only [List.getElem?_take, List.getElem?_append, List.length_take, List.length_append, List.length_drop, List.getElem?_drop]
    have hle : n * sz ≤ cur'.toList.length := hlen
    rw [Nat.min_eq_left (show o ≤ cur'.toList.length by omega), Nat.min_eq_left (show o ≤ min (n * sz) cur'.toList.length by omega)]
    by_cases hj : j < n * sz
    · simp only [hj, if_true]
      by_cases h1 : j < o + vs.length
      · simp only [h1, if_true]
      · simp only [h1, if_false]
        rw [if_pos (by omega)]
    · have h1 : ¬ j < o + vs.length := by omega
      simp only [hj, h1, if_false]
      rw [if_neg (by omega)]
/-- The cells of a box, of a row. -/
theorem St.boxc {b o : Nat} {cs : List Value} {t : TypeId} {u : Value} (h : St w0 w own) (hm : Res.box b cs t ∈ own) (hu : cs[o]? = some u) : w.cell? ⟨b, o, none⟩ = some u := by
  simp [World.cell?, h.box_heap hm, hu]
theorem St.rowc {g n cap e sz j : Nat} {xs : List Value} {u : Value} (h : St w0 w own) (hm : Res.row (.slice (some ⟨g, 0, none⟩) n cap) e sz n xs ∈ own) (hu : xs[j]? = some u) : w.cell? ⟨g, j, none⟩ = some u := by
  obtain ⟨cur, hh, hnc, hcm, hs, ht, hl⟩ := h.row_heap hm
  rw [← ht, List.getElem?_take] at hu
  split at hu
  · simp [World.cell?, hh]; simpa using hu
  · cases hu
/-- What a value of the call's own looks like. -/
theorem St.row_form {v : Value} {e sz n : Nat} {xs : List Value} (h : St w0 w own) (hm : Res.row v e sz n xs ∈ own) (hn : 0 < n) : ∃ g cap, v = .slice (some ⟨g, 0, none⟩) n cap ∧ n ≤ cap ∧ cap ≤ maxLen := by
  rcases (h.hold _ hm).2 with ⟨_, h0⟩ | ⟨g, cap, cur, hv, _, _, h1, h2, _⟩
  · omega
  · exact ⟨g, cap, hv, h1, h2⟩
theorem St.row_slice {v : Value} {e sz n : Nat} {xs : List Value} (h : St w0 w own) (hm : Res.row v e sz n xs ∈ own) : xs.length = n * sz ∧ ∃ A cap, v = .slice A n cap ∧ n ≤ cap ∧ cap ≤ maxLen := by
  refine ⟨(h.hold _ hm).1, ?_⟩
  rcases (h.hold _ hm).2 with ⟨hv, h0⟩ | ⟨g, cap, cur, hv, _, _, h1, h2, _⟩
  · subst h0; exact ⟨none, 0, hv, Nat.le_refl _, Nat.zero_le _⟩
  · exact ⟨_, cap, hv, h1, h2⟩
end
end Go.Proofs.Ytchkiohikhfecaa
