/-
  The walk over the code: regions, conditions, sequences, loops, and the end of a body.
-/
import Derived.Test.YtchkiohikhfecaaQ4
namespace Go.Proofs.Ytchkiohikhfecaa
open Go.RowKit

def retv : List Value → Value
  | [v] => v
  | vs => .tuple vs.toArray
def qrets (P : Program) (S : World → Prop) (n : Nat) (l : List (Nat × Value)) (g : Nat → Value) : List ResultVar → List Value → Option (List Value × List Prop)
  | [], _ => some ([], [])
  | .tmp t :: r, vs => (qrets P S n l g r vs).map fun q => (ev n l g (.tmp t) :: q.1, q.2)
  | .cell a t :: r, v :: vs => match ev n l g (.tmp a) with
    | .pointer (some ad) => (qrets P S n l g r vs).map fun q => (v :: q.1, LoadsAt P S t ad v :: q.2)
    | _ => none
  | .cell _ _ :: _, [] => none
def qend (P : Program) (S : World → Prop) (n : Nat) (l : List (Nat × Value)) (g : Nat → Value) (rs : List ResultVar) (hs : List Value) : Option (Value × Prop) :=
  (qrets P S n l g rs hs).map fun r => (retv r.1, conj r.2)
/-- The slots that are known read so. -/
def agree (l : List (Nat × Value)) (g : Nat → Value) : List (Nat × Value) → Prop
  | [] => True
  | p :: r => lk l g p.1 = p.2 ∧ agree l g r
section
variable {P : Program} {w0 w w' : World} {own : List Res} {S : World → Prop} {n : Nat} {l : List (Nat × Value)} {g : Nat → Value} {Q : Exit → Act → World → Prop}
theorem rets_sound (hS : S w) : ∀ (rs : List ResultVar) (hs vs : List Value) (cs : List Prop), qrets P S n l g rs hs = some (vs, cs) → (∀ c ∈ cs, c) →
    (rs.mapM (fun | .tmp t => pure ((FA n l g).tmps.getD t undef) | .cell a t => do loadVar t (← asAddr ((FA n l g).tmps.getD a undef)) : ResultVar → Sem Value)).run P w = .ok vs w
  | [], _, vs, cs, h, _ => by simp only [qrets, Option.some.injEq, Prod.mk.injEq] at h; obtain ⟨rfl, rfl⟩ := h; rfl
  | .tmp t :: r, hs, vs, cs, h, hc => by
    simp only [qrets] at h
    obtain ⟨q, hq, he⟩ := Option.map_eq_some_iff.1 h
    cases he
    have ih := rets_sound hS r hs q.1 q.2 hq hc
    have e : (FA n l g).tmps.getD t undef = ev n l g (.tmp t) := FA_eval (.tmp t)
    rw [List.mapM_cons, Sem.run_bind]
    simp only [Sem.run_pure, Result.andThen_ok, Sem.run_bind, ih, e]
  | .cell a t :: r, [], vs, cs, h, _ => by simp [qrets] at h
  | .cell a t :: r, v :: hs, vs, cs, h, hc => by
    simp only [qrets] at h
    split at h
    · rename_i ad hev
      obtain ⟨q, hq, he⟩ := Option.map_eq_some_iff.1 h
      cases he
      have ih := rets_sound hS r hs q.1 q.2 hq (fun c hm => hc c (List.mem_cons_of_mem _ hm))
      have e : (FA n l g).tmps.getD a undef = .pointer (some ad) := (FA_eval (.tmp a)).trans hev
      have hl : (loadVar t ad).run P w = .ok v w := (hc (LoadsAt P S t ad v) List.mem_cons_self) w hS
      rw [List.mapM_cons, Sem.run_bind, Sem.run_bind, e]
      have ha : (asAddr (.pointer (some ad))).run P w = .ok ad w := rfl
      simp only [ha, Result.andThen_ok, hl, Sem.run_bind, ih, Sem.run_pure]
    · cases h
theorem c_end {fn : Func} {R : Ending → World → Prop} {rs : List ResultVar} (hres : fn.results.toList = rs) (hs : List Value) {v : Value} {C : Prop} (hr : qend P S n l g rs hs = some (v, C)) (hC : C) (hS : S w) (hR : R (.returned v) w) : bodyPost P fn R .ret (FA n l g) w := by
  obtain ⟨r, hr1, he⟩ := Option.map_eq_some_iff.1 hr
  cases he
  have h1 := rets_sound hS rs hs r.1 r.2 hr1 (conj_all hC)
  refine ⟨rfl, retv r.1, ?_, hR⟩
  unfold results
  have h2 : (fn.results.mapM (fun | .tmp t => pure ((FA n l g).tmps.getD t undef) | .cell a t => do loadVar t (← asAddr ((FA n l g).tmps.getD a undef)) : ResultVar → Sem Value)).run P w = .ok r.1.toArray w := by
    rw [Array.mapM_eq_mapM_toList, hres]
    show (Bind.bind _ _ : Sem _).run P w = _
    rw [Sem.run_bind, h1]
    rfl
  rw [Sem.run_bind]
  refine (congrArg (fun z => Result.andThen z _) h2).trans ?_
  simp only [Result.andThen_ok, Sem.run_pure]
  congr 1
  cases hv : r.1 with
  | nil => rfl
  | cons x xs => cases xs with
    | nil => rfl
    | cons y ys => simp [retv]
theorem c_endN {fn : Func} {R : Ending → World → Prop} (h : bodyPost P fn R .ret (FA n l g) w) : bodyPost P fn R .normal (FA n l g) w := h
theorem FA_reset : ∀ (fl : List (Nat × Value)), agree l g fl → FA n l g = FA n fl (lk l g) := by
  intro fl h
  have key : ∀ t, lk fl (lk l g) t = lk l g t := by
    intro t
    induction fl with
    | nil => rfl
    | cons p r ih =>
      simp only [lk]
      by_cases hp : p.1 = t
      · subst hp; simp [h.1]
      · rw [Nat_beq_false hp, cond_false]; exact ih h.2
  simp only [FA, Act.mk.injEq, and_true]
  apply Array.ext
  · simp
  · intro i h1 h2; simp [key]
/-- What a round hands on: the loop's state at a smaller number. -/
def Rnd {X : Type} (n : Nat) (fl : X → List (Nat × Value)) (R : X → World → Prop) (μ : X → Nat) (x : X) (a' : Act) (w' : World) : Prop := ∃ x' g', a' = FA n (fl x') g' ∧ R x' w' ∧ μ x' < μ x
theorem c_loop {X : Type} {c : Code} (fl : X → List (Nat × Value)) (R : X → World → Prop) (μ : X → Nat) (x0 : X) (hf : agree l g (fl x0)) (h0 : R x0 w)
    (round : ∀ x g w, R x w → c.wp P (Exit.then (Rnd n fl R μ x) Q) (FA n (fl x) g) w) : (Code.loop c).wp P Q (FA n l g) w := by
  refine wp_loop_ghost (fun m a w => ∃ x g, m = μ x ∧ a = FA n (fl x) g ∧ R x w) (μ x0) ⟨x0, lk l g, rfl, FA_reset _ hf, h0⟩ ?_
  rintro m a w ⟨x, g, rfl, rfl, hR⟩
  refine wp_mono (round x g w hR) ?_
  intro e a' w' hq
  cases e with
  | normal => obtain ⟨x', g', h1, h2, h3⟩ := hq; exact ⟨μ x', h3, x', g', rfl, h1, h2⟩
  | _ => exact hq
theorem round_end {X : Type} {fl : X → List (Nat × Value)} {R : X → World → Prop} {μ : X → Nat} {x : X} (x' : X) (hf : agree l g (fl x')) (hR : R x' w) (hm : μ x' < μ x) : Rnd n fl R μ x (FA n l g) w :=
  ⟨x', lk l g, FA_reset _ hf, hR, hm⟩
theorem c_cond {c : Operand} {x y : Code} {b : Bool} (hc : ev n l g c = .bool b) (ht : b = true → x.wp P Q (FA n l g) w) (hf : b = false → y.wp P Q (FA n l g) w) : (Code.cond c x y).wp P Q (FA n l g) w :=
  wp_cond_split ((FA_eval c).trans hc) ht hf
theorem c_true {c : Operand} {x y : Code} {b : Bool} (hc : ev n l g c = .bool b) (hb : b = true) (h : x.wp P Q (FA n l g) w) : (Code.cond c x y).wp P Q (FA n l g) w := by
  subst hb; exact wp_cond_true ((FA_eval c).trans hc) h
theorem c_false {c : Operand} {x y : Code} {b : Bool} (hc : ev n l g c = .bool b) (hb : b = false) (h : y.wp P Q (FA n l g) w) : (Code.cond c x y).wp P Q (FA n l g) w := by
  subst hb; exact wp_cond_false ((FA_eval c).trans hc) h
/-- The two judgements behind a name that the elaborator does not unfold. -/
structure WL (P : Program) (ops : Array Oper) (Q : Exit → Act → World → Prop) (os : List Oper) (a : Act) (w : World) : Prop where
  h : wpList P ops Q os a w
structure WA (P : Program) (ops : Array Oper) (Q : Exit → Act → World → Prop) (S : World → Prop) (fin : List Nat) (k : Nat) (listed : Array Bool) (a : Act) (w : World) : Prop where
  h : wpAnyL P ops Q S fin k listed a w
theorem c_reg {id : Nat} {ops : Array Oper} {a : Act} (h : WL P ops Q ops.toList a w) : (Code.region id ops false).wp P Q a w := wp_region_list h.h
theorem l_op {ops : Array Oper} {os rest : List Oper} {o : Oper} {a : Act} (he : os = o :: rest) (hg : o.guard = none) (h : ∀ K : Act → World → Prop, (∀ a w, WL P ops Q rest a w → K a w) → OW P o a w K Q) : WL P ops Q os a w :=
  ⟨he ▸ wpList_op hg fun K hK => (h K fun a w hw => hK a w hw.h).h⟩
theorem l_opg {ops : Array Oper} {os rest : List Oper} {o : Oper} {b want : Bool} (he : os = o :: rest) (hq : qguard ops n l g o.guard = some (some (b, want))) (hb : b = want) (h : ∀ K : Act → World → Prop, (∀ a w, WL P ops Q rest a w → K a w) → OW P o (FA n l g) w K Q) : WL P ops Q os (FA n l g) w :=
  ⟨he ▸ wpList_opg hq hb fun K hK => (h K fun a w hw => hK a w hw.h).h⟩
theorem a_op {ops : Array Oper} {fin : List Nat} {i : Nat} {o : Oper} {fuel k : Nat} {listed listed' : Array Bool} {a : Act} (hk : k = fuel + 1) (ho : ops[i]? = some o) (hr : Region.ready .any ops listed = [i]) (hl : listed.setIfInBounds i true = listed') (hg : o.guard = none)
    (h : ∀ K : Act → World → Prop, (∀ a w, (i ∉ fin → S w) → WA P ops Q S fin fuel listed' a w → K a w) → OW P o a w K Q) : WA P ops Q S fin k listed a w :=
  ⟨anyL_op hk ho hr hl hg fun K hK => (h K fun a w h1 h2 => hK a w h1 h2.h).h⟩
theorem a_opg {ops : Array Oper} {fin : List Nat} {i : Nat} {o : Oper} {fuel k : Nat} {listed listed' : Array Bool} {b want : Bool} (hk : k = fuel + 1) (ho : ops[i]? = some o) (hr : Region.ready .any ops listed = [i]) (hl : listed.setIfInBounds i true = listed')
    (hq : qguard ops n l g o.guard = some (some (b, want))) (hb : b = want)
    (h : ∀ K : Act → World → Prop, (∀ a w, (i ∉ fin → S w) → WA P ops Q S fin fuel listed' a w → K a w) → OW P o (FA n l g) w K Q) : WA P ops Q S fin k listed (FA n l g) w :=
  ⟨anyL_opg hk ho hr hl hq hb fun K hK => (h K fun a w h1 h2 => hK a w h1 h2.h).h⟩
theorem a_op2 {ops : Array Oper} {fin : List Nat} {i j : Nat} {oi oj : Oper} {fuel k : Nat} {listed li lj : Array Bool} {a : Act} (hk : k = fuel + 1) (hoi : ops[i]? = some oi) (hoj : ops[j]? = some oj) (hr : Region.ready .any ops listed = [i, j])
    (hli : listed.setIfInBounds i true = li) (hlj : listed.setIfInBounds j true = lj) (hgi : oi.guard = none) (hgj : oj.guard = none)
    (h1 : ∀ K : Act → World → Prop, (∀ a w, (i ∉ fin → S w) → WA P ops Q S fin fuel li a w → K a w) → OW P oi a w K Q)
    (h2 : ∀ K : Act → World → Prop, (∀ a w, (j ∉ fin → S w) → WA P ops Q S fin fuel lj a w → K a w) → OW P oj a w K Q) : WA P ops Q S fin k listed a w :=
  ⟨anyL_op2 hk hoi hoj hr hli hlj hgi hgj (fun K hK => (h1 K fun a w h1 h2 => hK a w h1 h2.h).h) (fun K hK => (h2 K fun a w h1 h2 => hK a w h1 h2.h).h)⟩
theorem a_done {ops : Array Oper} {fin : List Nat} {listed : Array Bool} {k : Nat} {a : Act} (hr : Region.ready .any ops listed = []) (h : Q .normal a w) : WA P ops Q S fin k listed a w := ⟨anyL_done hr h k⟩
theorem c_drawn {id : Nat} {ops : Array Oper} {a : Act} (fin : List Nat) (hm : P.follows .mixedOrders = true) (hS : St w0 w own)
    (h : ∀ w', St w0 w' own → WA P ops Q (fun x => St w0 x own) fin ops.size (Array.replicate ops.size false) a w') : (Code.region id ops true).wp P Q a w :=
  wp_region_any hm (wpAny_of_L _ _ _ _ (h _ (hS.drew _)).h)
theorem c_drawnS {id : Nat} {ops : Array Oper} {a : Act} (fin : List Nat) (hm : P.follows .mixedOrders = true) (hS : St w0 w own)
    (h : ∀ w', St w0 w' own → WA P ops Q S fin ops.size (Array.replicate ops.size false) a w') : (Code.region id ops true).wp P Q a w :=
  wp_region_any hm (wpAny_of_L _ _ _ _ (h _ (hS.drew _)).h)
theorem c_mid {x y : Code} {a : Act} (I : Act → World → Prop) (h : x.wp P (Exit.then I Q) a w) (k : ∀ a w, I a w → y.wp P Q a w) : (Code.seq x y).wp P Q a w :=
  wp_seq (wp_mono h fun e a w hq => by cases e <;> first | exact k a w hq | exact hq)
theorem c_cut {c : Code} {a : Act} (I : Act → World → Prop) (h : c.wp P (Exit.then I Q) a w) (k : ∀ a w, I a w → Q .normal a w) : c.wp P Q a w :=
  wp_mono h fun e a w hq => by cases e <;> first | exact k a w hq | exact hq
theorem St.front {r : Res} (i : Nat) (h : St w0 w own) (hi : own[i]? = some r) : St w0 w (r :: own.eraseIdx i) := by
  refine h.perm ?_
  clear h
  induction own generalizing i with
  | nil => cases hi
  | cons x l ih =>
    cases i with
    | zero => simp only [List.getElem?_cons_zero, Option.some.injEq] at hi; subst hi; exact .refl _
    | succ i =>
      simp only [List.getElem?_cons_succ] at hi
      simp only [List.eraseIdx_cons_succ]
      exact ((ih i hi).cons x).trans (List.Perm.swap _ _ _)
/-- The rest of a plain region is empty. -/
theorem l_nil {ops : Array Oper} {os : List Oper} {a : Act} (he : os = []) (h : Q .normal a w) : WL P ops Q os a w := ⟨by subst he; exact h⟩
theorem q_seg {ops : Array Oper} {os : List Oper} (new : List (Nat × Value)) (hs : List Hint) (C : Prop) (hr : qgo P S ops n g os hs l = some (new ++ l, C)) (hC : C) (hS : S w)
    (h : WL P ops Q (os.drop hs.length) (FA n (new ++ l) g) w) : WL P ops Q os (FA n l g) w := ⟨wpList_q hr hC hS h.h⟩
theorem t_seg {ops : Array Oper} {fin : List Nat} (is : List (Nat × Hint)) {k : Nat} (fuel : Nat) {listed : Array Bool} (listed' : Array Bool) (new : List (Nat × Value)) (C : Prop) (hsel : Region.noSelect ops = true) (hQ : Qpanic Q) (hk : k = fuel + is.length)
    (hr : tgo P S ops fin n g is listed l = some (new ++ l, C, listed')) (hC : C) (hS : S w) (h : WA P ops Q S fin fuel listed' (FA n (new ++ l) g) w) : WA P ops Q S fin k listed (FA n l g) w :=
  ⟨anyL_q is hsel hQ hk hr hC hS h.h⟩
theorem Qpanic.bp {fn : Func} {R : Ending → World → Prop} : Qpanic (bodyPost P fn R) := fun _ d _ a _ h => ⟨by cases d <;> exact h.1, h.2⟩
theorem Qpanic.then {K : Act → World → Prop} (h : Qpanic Q) : Qpanic (Exit.then K Q) := fun c d v a w => h c d v a w
theorem Qpanic.block {id : Nat} (h : Qpanic Q) : Qpanic (Exit.inBlock id Q) := fun c d v a w => h c d v a w
theorem then_n {K : Act → World → Prop} {a : Act} (h : K a w) : Exit.then K Q .normal a w := h
theorem then_x {K : Act → World → Prop} {a : Act} {id : Nat} (h : Q (.exit id) a w) : Exit.then K Q (.exit id) a w := h
theorem then_r {K : Act → World → Prop} {a : Act} (h : Q .ret a w) : Exit.then K Q .ret a w := h
theorem blk_n {a : Act} {id : Nat} (h : Q .normal a w) : Exit.inBlock id Q .normal a w := h
theorem blk_r {a : Act} {id : Nat} (h : Q .ret a w) : Exit.inBlock id Q .ret a w := h
theorem blk_hit {a : Act} {id : Nat} (h : Q .normal a w) : Exit.inBlock id Q (.exit id) a w := by simpa [Exit.inBlock] using h
theorem blk_miss {a : Act} {id id' : Nat} (hn : id' ≠ id) (h : Q (.exit id') a w) : Exit.inBlock id Q (.exit id') a w := by simpa [Exit.inBlock, hn] using h
theorem agree_nil : agree l g [] := trivial
theorem agree_cons {d : Nat} {v : Value} {r : List (Nat × Value)} (h : lk l g d = v) (hr : agree l g r) : agree l g ((d, v) :: r) := ⟨h, hr⟩
theorem agree_eq {d : Nat} {v0 v : Value} {r : List (Nat × Value)} (h : lk l g d = v0) (e : v0 = v) (hr : agree l g r) : agree l g ((d, v) :: r) := ⟨h.trans e, hr⟩
theorem nb {b v : Bool} (h : b = v) : (!b) = !v := by rw [h]
theorem St.after {new : List Res} (h : St w0 w (new ++ own)) : St w0 w own := h.sub (List.sublist_append_right _ _)
theorem all_one {xs : List Value} (h : xs.all (·.oneCell') = true) : ∀ u ∈ xs, u.oneCell' = true := List.all_eq_true.1 h
theorem St.rv {v v' : Value} (h : St w w' own) (e : v = v') : RetV w v' (.returned v) w' := ⟨by rw [e], h.bel⟩
theorem St.rt {v : Value} {R : Value → List Res → Prop} (h : St w w' own) (hR : R v own) : Ret w R (.returned v) w' := ⟨v, own, rfl, h, hR⟩
end
end Go.Proofs.Ytchkiohikhfecaa
