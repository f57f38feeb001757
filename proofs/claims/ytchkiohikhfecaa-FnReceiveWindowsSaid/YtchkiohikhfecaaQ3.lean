/-
  Regions: the quiet operations of a region at once ('wpList_q', 'anyL_q'); an operation that is none ('anyL_op'); the order that a region draws ('wpAnyL': the kit's 'wpAnyH', but behind the region's last operations S need not hold).
-/
import Derived.Test.YtchkiohikhfecaaQ2
namespace Go.Proofs.Ytchkiohikhfecaa
open Go.RowKit

def conj : List Prop → Prop
  | [] => True
  | [p] => p
  | p :: q :: r => p ∧ conj (q :: r)
theorem conj_all : ∀ {cs : List Prop}, conj cs → ∀ c ∈ cs, c
  | [], _, _, h => by simp at h
  | [p], hp, c, h => by rw [List.mem_singleton] at h; subst h; exact hp
  | p :: q :: r, hp, c, h => by
    rcases List.mem_cons.1 h with rfl | h
    · exact hp.1
    · exact conj_all hp.2 c h
def qguard (ops : Array Oper) (n : Nat) (l : List (Nat × Value)) (g : Nat → Value) : Option (Nat × Bool) → Option (Option (Bool × Bool))
  | none => some none
  | some (j, want) => match (ops[j]?).bind (·.dst) with
    | some d => bif Nat.blt d n then (match lk l g d with
      | .bool b => some (some (b, want))
      | _ => none) else none
    | none => none
/-- The guard's operation was itself left out. -/
def gundef (ops : Array Oper) (n : Nat) (l : List (Nat × Value)) (g : Nat → Value) : Option (Nat × Bool) → Bool
  | none => false
  | some (j, _) => match (ops[j]?).bind (·.dst) with
    | some d => bif Nat.blt d n then (match lk l g d with
      | .tuple _ => true
      | _ => false) else false
    | none => false
def qstep (P : Program) (S : World → Prop) (ops : Array Oper) (n : Nat) (g : Nat → Value) (l : List (Nat × Value)) (o : Oper) (h : Hint) : Option (Value × List Prop) :=
  match qguard ops n l g o.guard with
  | none => match h with
    | .skip => bif gundef ops n l g o.guard then some (undef, []) else none
    | _ => none
  | some none => qop P S (ev n l g) h o
  | some (some (b, want)) => match h with
    | .skip => some (undef, [b = !want])
    | h => (qop P S (ev n l g) h o).map fun r => (r.1, (b = want) :: r.2)
def qrun (P : Program) (S : World → Prop) (ops : Array Oper) (n : Nat) (g : Nat → Value) : List Oper → List Hint → List (Nat × Value) → Option (List (Nat × Value) × List Prop)
  | _, [], l => some (l, [])
  | [], _ :: _, _ => none
  | o :: os, h :: hs, l => match qstep P S ops n g l o h with
    | some (v, cs) => (qrun P S ops n g os hs (putl o.dst v l)).map fun r => (r.1, cs ++ r.2)
    | none => none
def qgo (P : Program) (S : World → Prop) (ops : Array Oper) (n : Nat) (g : Nat → Value) (os : List Oper) (hs : List Hint) (l : List (Nat × Value)) : Option (List (Nat × Value) × Prop) :=
  (qrun P S ops n g os hs l).map fun r => (r.1, conj r.2)
section
variable {P : Program} {S : World → Prop} {ops : Array Oper} {n : Nat} {g : Nat → Value} {l : List (Nat × Value)} {Q : Exit → Act → World → Prop} {w : World} {v : Value} {cs : List Prop}
theorem wanted_of {o : Oper} {b want : Bool} (hq : qguard ops n l g o.guard = some (some (b, want))) : Region.wanted o (yielded ops (FA n l g).tmps) = (b == want) := by
  unfold qguard at hq
  split at hq
  · cases hq
  · rename_i j want' hg
    split at hq
    · rename_i d hd
      cases hb : Nat.blt d n with
      | false => simp [hb] at hq
      | true =>
        simp only [hb, cond_true] at hq
        have hlt : d < n := by rw [← Nat.blt_eq]; exact hb
        split at hq
        · rename_i b' hb'
          cases hq
          have hy : yielded ops (FA n l g).tmps j = some b := by
            unfold yielded
            rw [hd]
            simp [FA_get, hlt, hb']
          simp only [Region.wanted, hg, hy]
          cases b <;> cases want <;> rfl
        · cases hq
    · cases hq
theorem unwanted_of {o : Oper} (hq : gundef ops n l g o.guard = true) : Region.wanted o (yielded ops (FA n l g).tmps) = false := by
  unfold gundef at hq
  split at hq
  · cases hq
  · rename_i j want hg
    split at hq
    · rename_i d hd
      cases hb : Nat.blt d n with
      | false => simp [hb] at hq
      | true =>
        simp only [hb, cond_true] at hq
        have hlt : d < n := by rw [← Nat.blt_eq]; exact hb
        split at hq
        · rename_i vs hb'
          have hy : yielded ops (FA n l g).tmps j = none := by
            unfold yielded
            rw [hd]
            simp [FA_get, hlt, hb']
          simp only [Region.wanted, hg, hy]
          rfl
        · cases hq
    · cases hq
theorem qstep_sound {o : Oper} {h : Hint} (hq : qstep P S ops n g l o h = some (v, cs)) (hc : ∀ c ∈ cs, c) : YieldsIf P ops S o v (FA n l g) := by
  unfold qstep at hq
  split at hq
  · split at hq
    · cases hu : gundef ops n l g o.guard with
      | false => simp [hu] at hq
      | true =>
        simp only [hu, cond_true, Option.some.injEq, Prod.mk.injEq] at hq
        obtain ⟨rfl, rfl⟩ := hq
        exact .inr ⟨unwanted_of hu, rfl⟩
    · cases hq
  · rename_i hg
    refine .inl ⟨?_, ?_⟩
    · have : o.guard = none := by
        unfold qguard at hg
        split at hg
        · rename_i h'; exact h'
        · split at hg
          · rename_i d hd
            cases hb : Nat.blt d n <;> simp only [hb, cond_true, cond_false] at hg
            · cases hg
            · split at hg <;> cases hg
          · cases hg
      simp [Region.wanted, this]
    · rw [FA_evalf]; exact qop_sound hq hc
  · rename_i b want hg
    have hw := wanted_of hg
    split at hq
    · cases hq
      have h1 : b = !want := hc _ (by simp)
      exact .inr ⟨by rw [hw, h1]; cases want <;> rfl, rfl⟩
    · rename_i h' _
      obtain ⟨r, hr, he⟩ := Option.map_eq_some_iff.1 hq
      cases he
      have h1 : b = want := hc _ (by simp)
      refine .inl ⟨by rw [hw, h1]; cases want <;> rfl, ?_⟩
      rw [FA_evalf]
      exact qop_sound (show qop P S (ev n l g) h o = some (r.1, r.2) from hr) (fun c hm => hc c (List.mem_cons_of_mem _ hm))
theorem wpList_yields {o : Oper} {rest : List Oper} {a : Act} (hy : YieldsIf P ops S o v a) (hS : S w) (h : wpList P ops Q rest (a.put o.dst v) w) : wpList P ops Q (o :: rest) a w := by
  refine wpList_step fun K hK => ?_
  rcases hy with ⟨hw, hv⟩ | ⟨hw, rfl⟩
  · rw [if_pos hw]
    simp only [Oper.wp, hv w hS, Oper.upon]
    exact hK _ _ h
  · rw [if_neg (by simp [hw])]
    exact hK _ _ h
theorem wpList_run (hS : S w) : ∀ (os : List Oper) (hs : List Hint) (l l' : List (Nat × Value)) (cs : List Prop), qrun P S ops n g os hs l = some (l', cs) → (∀ c ∈ cs, c) →
    wpList P ops Q (os.drop hs.length) (FA n l' g) w → wpList P ops Q os (FA n l g) w
  | os, [], l, l', cs, hr, _, h => by cases os <;> (simp only [qrun, Option.some.injEq, Prod.mk.injEq] at hr; obtain ⟨rfl, rfl⟩ := hr; exact h)
  | [], _ :: _, l, l', cs, hr, _, _ => by simp [qrun] at hr
  | o :: os, h0 :: hs, l, l', cs, hr, hc, h => by
    simp only [qrun] at hr
    split at hr
    · rename_i v cs1 hq
      obtain ⟨r, hr1, he⟩ := Option.map_eq_some_iff.1 hr
      cases he
      refine wpList_yields (qstep_sound hq (fun c hm => hc c (List.mem_append_left _ hm))) hS ?_
      rw [FA_put]
      exact wpList_run hS os hs _ _ _ hr1 (fun c hm => hc c (List.mem_append_right _ hm)) h
    · cases hr
theorem wpList_q {os : List Oper} {hs : List Hint} {l' : List (Nat × Value)} {C : Prop} (hr : qgo P S ops n g os hs l = some (l', C)) (hC : C) (hS : S w)
    (h : wpList P ops Q (os.drop hs.length) (FA n l' g) w) : wpList P ops Q os (FA n l g) w := by
  obtain ⟨r, hr1, he⟩ := Option.map_eq_some_iff.1 hr
  cases he
  exact wpList_run hS os hs l r.1 r.2 hr1 (conj_all hC) h
/-- An operation of a plain region that is not quiet. -/
theorem wpList_op {o : Oper} {rest : List Oper} {a : Act} (hg : o.guard = none) (h : ∀ K : Act → World → Prop, (∀ a w, wpList P ops Q rest a w → K a w) → o.wp P a w K Q) : wpList P ops Q (o :: rest) a w := wpList_plain hg h
theorem wpList_opg {o : Oper} {rest : List Oper} {b want : Bool} (hq : qguard ops n l g o.guard = some (some (b, want))) (hb : b = want) (h : ∀ K : Act → World → Prop, (∀ a w, wpList P ops Q rest a w → K a w) → o.wp P (FA n l g) w K Q) : wpList P ops Q (o :: rest) (FA n l g) w :=
  wpList_step fun K hK => by rw [if_pos (by rw [wanted_of hq, hb]; cases want <;> rfl)]; exact h K hK

/-- None of the last operations has run. -/
def noneL (fin : List Nat) (listed : Array Bool) : Prop := ∀ f ∈ fin, listed.getD f false = false
def noneLb (fin : List Nat) (listed : Array Bool) : Bool := fin.all fun f => !(listed.getD f false)
theorem noneLb_spec {fin : List Nat} {listed : Array Bool} (h : noneLb fin listed = true) : noneL fin listed := fun f hf => by
  have := List.all_eq_true.1 h f hf
  simpa using this
theorem ready_lt {i : Nat} {listed : Array Bool} (h : i ∈ Region.ready .any ops listed) : i < listed.size := by
  have h1 := (mem_ready.1 h).1
  rcases Nat.lt_or_ge i listed.size with h2 | h2
  · exact h2
  · simp [Array.getElem?_eq_none h2] at h1
theorem noneL_ne {fin : List Nat} {listed : Array Bool} {i : Nat} (hb : i < listed.size) (h : noneL fin (listed.setIfInBounds i true)) : i ∉ fin := fun hm => by
  have := h i hm
  simp [hb] at this
theorem noneL_back {fin : List Nat} {listed : Array Bool} {i : Nat} (h : noneL fin (listed.setIfInBounds i true)) : noneL fin listed := fun f hf => by
  have h1 := h f hf
  cases hc : listed.getD f false with
  | false => rfl
  | true => rw [getD_set_true hc] at h1; cases h1
theorem noneL_set {fin : List Nat} {listed : Array Bool} {i : Nat} (h : noneL fin listed) (hi : i ∉ fin) : noneL fin (listed.setIfInBounds i true) := fun f hf => by
  rw [getD_set_ne false (fun e => hi (by rw [e]; exact hf))]
  exact h f hf
/-- Whatever order is picked, and S holds behind every operation but the last ones ('fin'). -/
def wpAnyL (P : Program) (ops : Array Oper) (Q : Exit → Act → World → Prop) (S : World → Prop) (fin : List Nat) : Nat → Array Bool → Act → World → Prop
  | 0, listed, a, w => Region.ready .any ops listed = [] ∧ Q .normal a w
  | fuel + 1, listed, a, w =>
    (Region.ready .any ops listed = [] → Q .normal a w) ∧
    ∀ i ∈ Region.ready .any ops listed, wpOp P ops Q i (fun a' w' => (noneL fin (listed.setIfInBounds i true) → S w') ∧ wpAnyL P ops Q S fin fuel (listed.setIfInBounds i true) a' w') a w
theorem wpAny_of_L {fin : List Nat} : ∀ (fuel : Nat) (listed : Array Bool) (a : Act) (w : World), wpAnyL P ops Q S fin fuel listed a w → wpAny P .any ops Q fuel listed a w
  | 0, _, _, _, h => h
  | fuel + 1, _, _, _, h => ⟨h.1, fun i hi => wpOp_mono (fun a' w' h' => wpAny_of_L fuel _ a' w' h'.2) (h.2 i hi)⟩
theorem wpAnyL_first {fin : List Nat} {i : Nat} {oi : Oper} (hi : ops[i]? = some oi) (hsel : ∀ (j : Nat) (o : Oper) cs b, ops[j]? = some o → o.op ≠ .select cs b)
    (hQ : ∀ c a w, Q (.panic c) (a.put oi.dst v) w → Q (.panic c) a w) (hfin : ∀ j oj, ops[j]? = some oj → j ∈ fin → ∃ e ∈ oj.after, Region.binds .any e = true ∧ e.on = i) :
    ∀ (fuel : Nat) (listed : Array Bool) (a : Act) (w : World),
      (∀ j oj, ops[j]? = some oj → j ≠ i → listed.getD j true = false → (∀ e ∈ oj.after, Region.binds .any e = true → e.on ≠ i) → oi.apart ops oj = true) →
      i ∈ Region.ready .any ops listed → YieldsIf P ops S oi v a → S w → noneL fin listed →
      wpAnyL P ops Q S fin fuel (listed.setIfInBounds i true) (a.put oi.dst v) w → wpAnyL P ops Q S fin (fuel + 1) listed a w := by
  intro fuel
  induction fuel with
  | zero =>
    intro listed a w _ hr hy hS hn H
    refine ⟨fun h => (by rw [h] at hr; cases hr), fun j hj => ?_⟩
    by_cases hji : j = i
    · subst hji; exact hy.wpOp hi hS ⟨fun _ => hS, H⟩
    · have := ready_mono hj hji
      rw [H.1] at this
      cases this
  | succ fuel ih =>
    intro listed a w hfree hr hy hS hn H
    refine ⟨fun h => (by rw [h] at hr; cases hr), fun j hj => ?_⟩
    by_cases hji : j = i
    · subst hji; exact hy.wpOp hi hS ⟨fun _ => hS, H⟩
    · have h1 := H.2 j (ready_mono hj hji)
      obtain ⟨hjun, oj, hoj, hall⟩ := mem_ready.1 hj
      have hnot : ∀ e ∈ oj.after, Region.binds .any e = true → e.on ≠ i := fun e he hb heq => by
        have h1 := hall e he hb
        have h0 := (mem_ready.1 hr).1
        rw [heq] at h1
        rcases Nat.lt_or_ge i listed.size with h' | h'
        · simp [h'] at h0 h1; rw [h0] at h1; cases h1
        · simp [Array.getElem?_eq_none h'] at h1
      have hjf : j ∉ fin := fun hm => by
        obtain ⟨e, he, hb, heq⟩ := hfin j oj hoj hm
        exact hnot e he hb heq
      have h2 := wpOp_putIf hoj (hfree j oj hoj hji hjun hnot) (fun cs b => hsel i oi cs b hi) (fun cs b => hsel j oj cs b hoj) hQ hy h1
      have hfree' : ∀ k ok, ops[k]? = some ok → k ≠ i → (listed.setIfInBounds j true).getD k true = false →
          (∀ e ∈ ok.after, Region.binds .any e = true → e.on ≠ i) → oi.apart ops ok = true := fun k ok hk hki hun hno => by
        refine hfree k ok hk hki ?_ hno
        by_cases hjk : j = k
        · subst hjk; exact hjun
        · rw [getD_set_ne true hjk] at hun; exact hun
      have hif : i ∉ fin := fun hm => by
        obtain ⟨e, he, hb, heq⟩ := hfin i oi hi hm
        obtain ⟨h0, o', ho', hall'⟩ := mem_ready.1 hr
        rw [hi] at ho'
        injection ho' with ho'
        subst ho'
        have h1' := hall' e he hb
        rw [heq] at h1'
        rcases Nat.lt_or_ge i listed.size with h' | h'
        · simp [h'] at h0 h1'; rw [h0] at h1'; cases h1'
        · simp [Array.getElem?_eq_none h'] at h1'
      refine wpOp_mono (fun a' w' h3 => ⟨fun _ => h3.2.1 (noneL_set (noneL_set hn hif) hjf), ih (listed.setIfInBounds j true) a' w' hfree' (ready_mono hr (Ne.symm hji)) h3.1 (h3.2.1 (noneL_set (noneL_set hn hif) hjf)) (noneL_set hn hjf) ?_⟩) h2
      rw [Array.setIfInBounds_comm _ _ hji]
      exact h3.2.2
theorem wpAnyL_pure {fin : List Nat} {i : Nat} {oi : Oper} (hi : ops[i]? = some oi) (hsel : ∀ (j : Nat) (o : Oper) cs b, ops[j]? = some o → o.op ≠ .select cs b)
    (hQ : ∀ c a w, Q (.panic c) (a.put oi.dst v) w → Q (.panic c) a w) (hif : i ∉ fin) :
    ∀ (fuel : Nat) (listed : Array Bool) (a : Act) (w : World),
      (∀ j oj, ops[j]? = some oj → j ≠ i → listed.getD j true = false → (∀ e ∈ oj.after, Region.binds .any e = true → e.on ≠ i) → oi.apart ops oj = true) →
      i ∈ Region.ready .any ops listed → YieldsIf P ops (fun _ => True) oi v a → (noneL fin listed → S w) →
      wpAnyL P ops Q S fin fuel (listed.setIfInBounds i true) (a.put oi.dst v) w → wpAnyL P ops Q S fin (fuel + 1) listed a w := by
  intro fuel
  induction fuel with
  | zero =>
    intro listed a w _ hr hy hS H
    refine ⟨fun h => (by rw [h] at hr; cases hr), fun j hj => ?_⟩
    by_cases hji : j = i
    · subst hji; exact hy.wpOp hi trivial ⟨fun h => hS (noneL_back h), H⟩
    · have := ready_mono hj hji
      rw [H.1] at this
      cases this
  | succ fuel ih =>
    intro listed a w hfree hr hy hS H
    refine ⟨fun h => (by rw [h] at hr; cases hr), fun j hj => ?_⟩
    by_cases hji : j = i
    · subst hji; exact hy.wpOp hi trivial ⟨fun h => hS (noneL_back h), H⟩
    · have h1 := H.2 j (ready_mono hj hji)
      obtain ⟨hjun, oj, hoj, hall⟩ := mem_ready.1 hj
      have hnot : ∀ e ∈ oj.after, Region.binds .any e = true → e.on ≠ i := fun e he hb heq => by
        have h1 := hall e he hb
        have h0 := (mem_ready.1 hr).1
        rw [heq] at h1
        rcases Nat.lt_or_ge i listed.size with h' | h'
        · simp [h'] at h0 h1; rw [h0] at h1; cases h1
        · simp [Array.getElem?_eq_none h'] at h1
      have h2 := wpOp_putIf hoj (hfree j oj hoj hji hjun hnot) (fun cs b => hsel i oi cs b hi) (fun cs b => hsel j oj cs b hoj) hQ hy h1
      have hfree' : ∀ k ok, ops[k]? = some ok → k ≠ i → (listed.setIfInBounds j true).getD k true = false →
          (∀ e ∈ ok.after, Region.binds .any e = true → e.on ≠ i) → oi.apart ops ok = true := fun k ok hk hki hun hno => by
        refine hfree k ok hk hki ?_ hno
        by_cases hjk : j = k
        · subst hjk; exact hjun
        · rw [getD_set_ne true hjk] at hun; exact hun
      have hS' : ∀ {w'}, (noneL fin ((listed.setIfInBounds i true).setIfInBounds j true) → S w') → noneL fin (listed.setIfInBounds j true) → S w' := fun hh hn => hh (by
        rw [Array.setIfInBounds_comm _ _ (Ne.symm hji)]
        exact noneL_set hn hif)
      refine wpOp_mono (fun a' w' h3 => ⟨hS' h3.2.1, ih (listed.setIfInBounds j true) a' w' hfree' (ready_mono hr (Ne.symm hji)) h3.1 (hS' h3.2.1) ?_⟩) h2
      rw [Array.setIfInBounds_comm _ _ hji]
      exact h3.2.2
def finOK (ops : Array Oper) (fin : List Nat) (i : Nat) : Bool := fin.all fun j => match ops[j]? with
  | some oj => oj.after.any (fun e => Region.binds .any e && e.on == i)
  | none => true
theorem finOK_spec {fin : List Nat} {i : Nat} (h : finOK ops fin i = true) : ∀ j oj, ops[j]? = some oj → j ∈ fin → ∃ e ∈ oj.after, Region.binds .any e = true ∧ e.on = i := by
  intro j oj hj hm
  have h1 := List.all_eq_true.1 h j hm
  simp only [hj] at h1
  obtain ⟨x, hx, h2⟩ := Array.any_eq_true.1 h1
  simp only [Bool.and_eq_true, beq_iff_eq] at h2
  exact ⟨_, Array.getElem_mem hx, h2.1, h2.2⟩
def trun (P : Program) (S : World → Prop) (ops : Array Oper) (fin : List Nat) (n : Nat) (g : Nat → Value) : List (Nat × Hint) → Array Bool → List (Nat × Value) → Option (List (Nat × Value) × List Prop × Array Bool)
  | [], listed, l => some (l, [], listed)
  | (i, h) :: r, listed, l => match ops[i]? with
    | none => none
    | some o => bif Region.free .any ops listed i && (Region.ready .any ops listed).contains i && ((finOK ops fin i && noneLb fin listed) || !fin.contains i) then
        match qstep P (bif finOK ops fin i && noneLb fin listed then S else fun _ => True) ops n g l o h with
        | some (v, cs) => (trun P S ops fin n g r (listed.setIfInBounds i true) (putl o.dst v l)).map fun q => (q.1, cs ++ q.2.1, q.2.2)
        | none => none
      else none
def tgo (P : Program) (S : World → Prop) (ops : Array Oper) (fin : List Nat) (n : Nat) (g : Nat → Value) (is : List (Nat × Hint)) (listed : Array Bool) (l : List (Nat × Value)) : Option (List (Nat × Value) × Prop × Array Bool) :=
  (trun P S ops fin n g is listed l).map fun r => (r.1, conj r.2.1, r.2.2)
/-- Q's panic arm does not look at the slots. -/
def Qpanic (Q : Exit → Act → World → Prop) : Prop := ∀ c d v a w, Q (.panic c) (a.put d v) w → Q (.panic c) a w
theorem anyL_run {fin : List Nat} (hsel : Region.noSelect ops = true) (hQ : Qpanic Q) (hS : S w) : ∀ (is : List (Nat × Hint)) (fuel : Nat) (listed listed' : Array Bool) (l l' : List (Nat × Value)) (cs : List Prop),
    trun P S ops fin n g is listed l = some (l', cs, listed') → (∀ c ∈ cs, c) → wpAnyL P ops Q S fin fuel listed' (FA n l' g) w → wpAnyL P ops Q S fin (fuel + is.length) listed (FA n l g) w
  | [], fuel, listed, listed', l, l', cs, hr, _, h => by
    simp only [trun, Option.some.injEq, Prod.mk.injEq] at hr
    obtain ⟨rfl, _, rfl⟩ := hr
    exact h
  | (i, h0) :: r, fuel, listed, listed', l, l', cs, hr, hc, h => by
    simp only [trun] at hr
    split at hr
    · cases hr
    · rename_i o ho
      cases hb : (Region.free .any ops listed i && (Region.ready .any ops listed).contains i && ((finOK ops fin i && noneLb fin listed) || !fin.contains i)) with
      | false => rw [hb, cond_false] at hr; cases hr
      | true =>
        rw [hb, cond_true] at hr
        rw [Bool.and_eq_true, Bool.and_eq_true] at hb
        split at hr
        · rename_i v cs1 hq
          obtain ⟨q, hr1, he⟩ := Option.map_eq_some_iff.1 hr
          cases he
          have hq' := qstep_sound hq (fun c hm => hc c (List.mem_append_left _ hm))
          have go := anyL_run hsel hQ hS r fuel _ _ _ _ _ hr1 (fun c hm => hc c (List.mem_append_right _ hm)) h
          rw [← FA_put] at go
          cases hf : (finOK ops fin i && noneLb fin listed) with
          | true =>
            rw [hf, cond_true] at hq'
            rw [Bool.and_eq_true] at hf
            exact wpAnyL_first ho (Region.noSelect_spec hsel) (fun c a w hh => hQ c _ _ a w hh) (finOK_spec hf.1) (fuel + r.length) listed _ w (Region.free_spec ho hb.1.1) (by simpa using hb.1.2) hq' hS (noneLb_spec hf.2) go
          | false =>
            rw [hf, cond_false] at hq'
            have hb2 := hb.2
            rw [hf, Bool.false_or] at hb2
            exact wpAnyL_pure ho (Region.noSelect_spec hsel) (fun c a w hh => hQ c _ _ a w hh) (by simpa using hb2) (fuel + r.length) listed _ w (Region.free_spec ho hb.1.1) (by simpa using hb.1.2) hq' (fun _ => hS) go
        · cases hr
theorem anyL_q {fin : List Nat} (is : List (Nat × Hint)) {fuel k : Nat} {listed listed' : Array Bool} {l' : List (Nat × Value)} {C : Prop} (hsel : Region.noSelect ops = true) (hQ : Qpanic Q) (hk : k = fuel + is.length)
    (hr : tgo P S ops fin n g is listed l = some (l', C, listed')) (hC : C) (hS : S w) (h : wpAnyL P ops Q S fin fuel listed' (FA n l' g) w) : wpAnyL P ops Q S fin k listed (FA n l g) w := by
  subst hk
  obtain ⟨r, hr1, he⟩ := Option.map_eq_some_iff.1 hr
  cases he
  exact anyL_run hsel hQ hS is fuel listed _ l r.1 r.2.1 hr1 (conj_all hC) h
/-- The one that comes up next, and is not quiet. -/
theorem anyL_op {fin : List Nat} {i : Nat} {o : Oper} {fuel k : Nat} {listed listed' : Array Bool} {a : Act} (hk : k = fuel + 1) (ho : ops[i]? = some o) (hr : Region.ready .any ops listed = [i]) (hl : listed.setIfInBounds i true = listed') (hg : o.guard = none)
    (h : ∀ K : Act → World → Prop, (∀ a w, (i ∉ fin → S w) → wpAnyL P ops Q S fin fuel listed' a w → K a w) → o.wp P a w K Q) : wpAnyL P ops Q S fin k listed a w := by
  subst hk; subst hl
  refine ⟨fun h0 => (by rw [hr] at h0; cases h0), fun j hj => ?_⟩
  rw [hr, List.mem_singleton] at hj
  subst hj
  refine wpOp_step ho (fun K hK => ?_)
  rw [if_pos (by simp [Region.wanted, hg])]
  exact h K fun a w h1 h2 => hK a w ⟨fun hn => h1 (noneL_ne (ready_lt (by rw [hr]; simp)) hn), h2⟩
theorem anyL_opg {fin : List Nat} {i : Nat} {o : Oper} {fuel k : Nat} {listed listed' : Array Bool} {b want : Bool} (hk : k = fuel + 1) (ho : ops[i]? = some o) (hr : Region.ready .any ops listed = [i]) (hl : listed.setIfInBounds i true = listed')
    (hq : qguard ops n l g o.guard = some (some (b, want))) (hb : b = want)
    (h : ∀ K : Act → World → Prop, (∀ a w, (i ∉ fin → S w) → wpAnyL P ops Q S fin fuel listed' a w → K a w) → o.wp P (FA n l g) w K Q) : wpAnyL P ops Q S fin k listed (FA n l g) w := by
  subst hk; subst hl
  refine ⟨fun h0 => (by rw [hr] at h0; cases h0), fun j hj => ?_⟩
  rw [hr, List.mem_singleton] at hj
  subst hj
  refine wpOp_step ho (fun K hK => ?_)
  rw [if_pos (by rw [wanted_of hq, hb]; cases want <;> rfl)]
  exact h K fun a w h1 h2 => hK a w ⟨fun hn => h1 (noneL_ne (ready_lt (by rw [hr]; simp)) hn), h2⟩
/-- Two may come up next. -/
theorem anyL_op2 {fin : List Nat} {i j : Nat} {oi oj : Oper} {fuel k : Nat} {listed li lj : Array Bool} {a : Act} (hk : k = fuel + 1) (hoi : ops[i]? = some oi) (hoj : ops[j]? = some oj) (hr : Region.ready .any ops listed = [i, j])
    (hli : listed.setIfInBounds i true = li) (hlj : listed.setIfInBounds j true = lj) (hgi : oi.guard = none) (hgj : oj.guard = none)
    (h1 : ∀ K : Act → World → Prop, (∀ a w, (i ∉ fin → S w) → wpAnyL P ops Q S fin fuel li a w → K a w) → oi.wp P a w K Q)
    (h2 : ∀ K : Act → World → Prop, (∀ a w, (j ∉ fin → S w) → wpAnyL P ops Q S fin fuel lj a w → K a w) → oj.wp P a w K Q) : wpAnyL P ops Q S fin k listed a w := by
  subst hk; subst hli; subst hlj
  refine ⟨fun h0 => (by rw [hr] at h0; cases h0), fun x hx => ?_⟩
  rw [hr] at hx
  rcases List.mem_cons.1 hx with rfl | hx
  · refine wpOp_step hoi (fun K hK => ?_)
    rw [if_pos (by simp [Region.wanted, hgi])]
    exact h1 K fun a w h1 h2 => hK a w ⟨fun hn => h1 (noneL_ne (ready_lt (by rw [hr]; simp)) hn), h2⟩
  · rw [List.mem_singleton] at hx
    subst hx
    refine wpOp_step hoj (fun K hK => ?_)
    rw [if_pos (by simp [Region.wanted, hgj])]
    exact h2 K fun a w h1 h2 => hK a w ⟨fun hn => h1 (noneL_ne (ready_lt (by rw [hr]; simp)) hn), h2⟩
theorem anyL_done {fin : List Nat} {listed : Array Bool} {a : Act} (hr : Region.ready .any ops listed = []) (h : Q .normal a w) : ∀ fuel, wpAnyL P ops Q S fin fuel listed a w
  | 0 => ⟨hr, h⟩
  | _ + 1 => ⟨fun _ => h, by rw [hr]; simp⟩
end
end Go.Proofs.Ytchkiohikhfecaa
