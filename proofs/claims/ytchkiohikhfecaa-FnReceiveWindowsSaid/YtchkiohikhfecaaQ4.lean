/-
  The operations that are not quiet, one law each over the state 'St'; loads; the end of a body; loops; conditions.
-/
import Derived.Test.YtchkiohikhfecaaQ3
import Derived.Test.YtchkiohikhfecaaMem
import Derived.Deep.LoopGhost
import Derived.Laws.IdiomCopy
import Derived.Laws.OwnMore
namespace Go.Proofs.Ytchkiohikhfecaa
open Go.RowKit

/-- What a call hands back, and what it has made. -/
def Ret (w : World) (R : Value → List Res → Prop) (e : Ending) (w' : World) : Prop := ∃ v new, e = .returned v ∧ St w w' new ∧ R v new
/-- It hands back a value, and owns nothing. -/
def RetV (w : World) (v : Value) (e : Ending) (w' : World) : Prop := e = .returned v ∧ Below w.heap.size w w'
/-- An operation's judgement behind a name that the elaborator does not unfold. -/
structure OW (P : Program) (o : Oper) (a : Act) (w : World) (K : Act → World → Prop) (Q : Exit → Act → World → Prop) : Prop where
  h : o.wp P a w K Q
def okFn (P : Program) (f : FuncId) : Prop := ∃ fn, P.funcs[f]? = some fn ∧ (fn.name == "runtime.NumGoroutine") = false ∧ fn.body.isNone = false
def scal (P : Program) (t : TypeId) : Bool := match P.underlying t with
  | some (.struct _) => false
  | some (.array _ _) => false
  | some _ => true
  | none => false
def aggs (P : Program) (t : TypeId) (k : Nat) : Bool := match P.underlying t with
  | some (.struct _) => match P.info? t with
    | some i => Nat.beq i.size k
    | none => false
  | _ => false
def sized (P : Program) (t : TypeId) (k : Nat) : Bool := match P.info? t with
  | some i => Nat.beq i.size k
  | none => false
def zeroOf (P : Program) (t : TypeId) : Option (List Value) := ((P.info? t).bind (·.zero)).map fun z => z.cells.toList
section
variable {P : Program} {w0 w w' : World} {own : List Res} {S : World → Prop} {t : TypeId} {v : Value} {a : Addr}
theorem loads1 (hty : scal P t = true) (h : ∀ x, S x → x.cell? a = some v) : LoadsAt P S t a v := by
  intro x hx
  unfold scal at hty
  cases hu : P.underlying t with
  | none => simp [hu] at hty
  | some d =>
    simp only [hu] at hty
    cases d <;> first | (cases hty; done) | simp [loadVar, isAgg, run_underlying hu, load, Sem.run, h x hx]
theorem loadsN {k : Nat} {vs : List Value} (hty : aggs P t k = true) (hk : vs.length = k) (h : ∀ x, S x → ∀ j u, vs[j]? = some u → x.cell? (a.add j) = some u) : LoadsAt P S t a (.agg vs.toArray) := by
  intro x hx
  unfold aggs at hty
  split at hty
  · rename_i fs hu
    cases hi : P.info? t with
    | none => simp [hi] at hty
    | some i =>
      simp only [hi] at hty
      have hs : i.size = vs.length := by rw [hk]; exact Nat.eq_of_beq_eq_true hty
      have := run_loadCells_list (P := P) x a vs (h x hx)
      simp [loadVar, isAgg, run_underlying hu, sizeOf, typeInfo, hi, hs, this]
  · cases hty
theorem ld_box {i b o : Nat} {cs : List Value} {bt : TypeId} (hi : own[i]? = some (.box b cs bt)) (hu : cs[o]? = some v) (hty : scal P t = true) : LoadsAt P (fun x => St w0 x own) t ⟨b, o, none⟩ v :=
  loads1 hty fun _ hx => hx.boxc (List.mem_of_getElem? hi) hu
theorem ld_boxN {i b o k : Nat} {cs vs : List Value} {bt : TypeId} (hi : own[i]? = some (.box b cs bt)) (hu : (cs.drop o).take k = vs) (hk : vs.length = k) (hty : aggs P t k = true) : LoadsAt P (fun x => St w0 x own) t ⟨b, o, none⟩ (.agg vs.toArray) :=
  loadsN hty hk fun x hx j u hj => by
    have e : (⟨b, o, none⟩ : Addr).add j = ⟨b, o + j, none⟩ := by unfold Addr.add; split <;> simp_all
    rw [e]
    refine hx.boxc (List.mem_of_getElem? hi) ?_
    rw [← hu, List.getElem?_take] at hj
    split at hj
    · rw [List.getElem?_drop] at hj; exact hj
    · cases hj
theorem ld_low (hc : w0.cell? a = some v) (hty : scal P t = true) : LoadsAt P (fun x => St w0 x own) t a v := loads1 hty fun _ hx => hx.low hc
theorem ld_lowN {k : Nat} {vs : List Value} (hty : aggs P t k = true) (hk : vs.length = k) (h : ∀ j u, vs[j]? = some u → w0.cell? (a.add j) = some u) : LoadsAt P (fun x => St w0 x own) t a (.agg vs.toArray) :=
  loadsN hty hk fun _ hx j u hj => hx.low (h j u hj)
theorem ld_row {i g n cap e sz j : Nat} {xs : List Value} (hi : own[i]? = some (.row (.slice (some ⟨g, 0, none⟩) n cap) e sz n xs)) (hu : xs[j]? = some v) (hty : scal P t = true) : LoadsAt P (fun x => St w0 x own) t ⟨g, j, none⟩ v :=
  loads1 hty fun _ hx => hx.rowc (List.mem_of_getElem? hi) hu
theorem ld_rowN {i g n cap e sz j k : Nat} {xs vs : List Value} (hi : own[i]? = some (.row (.slice (some ⟨g, 0, none⟩) n cap) e sz n xs)) (hu : (xs.drop j).take k = vs) (hk : vs.length = k) (hty : aggs P t k = true) : LoadsAt P (fun x => St w0 x own) t ⟨g, j, none⟩ (.agg vs.toArray) :=
  loadsN hty hk fun x hx q u hq => by
    have e : (⟨g, j, none⟩ : Addr).add q = ⟨g, j + q, none⟩ := by unfold Addr.add; split <;> simp_all
    rw [e]
    refine hx.rowc (List.mem_of_getElem? hi) ?_
    rw [← hu, List.getElem?_take] at hq
    split at hq
    · rw [List.getElem?_drop] at hq; exact hq
    · cases hq
/-- A slice of the call's own reads. -/
theorem St.rd {A : Option Addr} {n cap e sz : Nat} {xs : List Value} (h : St w0 w own) (hm : Res.row (.slice A n cap) e sz n xs ∈ own) : Rd w w.heap.size A (n * sz) xs := by
  obtain ⟨A', c', hv, _, _, h3, _⟩ := Rd.of_own (h.hold _ hm)
  injection hv with h1
  subst h1
  exact h3
theorem St.rdlow {A : Option Addr} {n : Nat} {xs : List Value} (h : St w0 w own) (hr : Rd w0 w0.heap.size A n xs) : Rd w w.heap.size A n xs := (hr.below h.bel).more h.size
theorem St.drew (h : St w0 w own) (k : Nat) : St w0 { w with drawn := k } own :=
  ⟨⟨h.bel.os, h.bel.tape, h.bel.output, h.bel.size, h.bel.block⟩, fun r hr => (h.hold r hr).kept fun _ _ => rfl, h.nd⟩

variable {n : Nat} {l : List (Nat × Value)} {g : Nat → Value} {Q : Exit → Act → World → Prop} {K : Act → World → Prop} {o : Oper}
theorem wp_value {d : Option Tmp} (hd : o.dst = d) {s : Sem Value} {v : Value} (ho : execOp (FA n l g).eval o = (do pure (.value (← s)) : Sem Next)) (hr : s.run P w = .ok v w') (h : K (FA n (putl d v l) g) w') : o.wp P (FA n l g) w K Q := by
  unfold Oper.wp
  rw [ho, Sem.run_bind, hr]
  simp only [Result.andThen_ok, Sem.run_pure, Oper.upon, FA_put, hd]
  exact h
theorem run_newRow (e : TypeId) (cells : Array Value) : (newRow e cells).run P w = .ok ⟨w.heap.size, 0, none⟩ (w.alloc (.cells cells e)) := rfl
theorem op_box {d : Option Tmp} (hd : o.dst = d) {x : Operand} (ho : o.op = .box t x) (cs : List Value) (hx : (ev n l g x).cells = cs.toArray) (hS : St w0 w own)
    (h : ∀ b w', St w0 w' (.box b cs t :: own) → K (FA n (putl d (.pointer (some ⟨b, 0, none⟩)) l) g) w') : OW P o (FA n l g) w K Q := by
  refine ⟨?_⟩
  refine wp_value hd (s := Instr.box t (ev n l g x)) (v := .pointer (some ⟨w.heap.size, 0, none⟩)) (w' := w.alloc (.cells cs.toArray t)) ?_ ?_ (h _ _ (hS.alloc cs t))
  · obtain ⟨dst, op, ty, pos, af, gd⟩ := o
    simp only at ho; subst ho
    simp only [execOp, FA_eval]
  · simp only [Instr.box, newVar, hx, Sem.run_bind, run_newRow, Result.andThen_ok, Sem.run_pure]
theorem op_alloc {d : Option Tmp} (hd : o.dst = d) (ho : o.op = .alloc t) (cs : List Value) (hz : zeroOf P t = some cs) (hS : St w0 w own)
    (h : ∀ b w', St w0 w' (.box b cs t :: own) → K (FA n (putl d (.pointer (some ⟨b, 0, none⟩)) l) g) w') : OW P o (FA n l g) w K Q := by
  refine ⟨?_⟩
  unfold zeroOf at hz
  obtain ⟨z, hz1, hz2⟩ := Option.map_eq_some_iff.1 hz
  obtain ⟨i, hi, hz3⟩ := Option.bind_eq_some_iff.1 hz1
  refine wp_value hd (s := Instr.alloc t true (.tuple #[])) (v := .pointer (some ⟨w.heap.size, 0, none⟩)) (w' := w.alloc (.cells cs.toArray t)) ?_ ?_ (h _ _ (hS.alloc cs t))
  · obtain ⟨dst, op, ty, pos, af, gd⟩ := o
    simp only at ho; subst ho
    simp only [execOp]
  · have : z.cells = cs.toArray := by rw [← hz2]
    have hzv : (zeroValue t).run P w = .ok z w := by simp [zeroValue, typeInfo, hi, hz3]
    simp only [Instr.alloc, Sem.run_bind, hzv, newVar, this, run_newRow, Result.andThen_ok, Sem.run_pure]
def bsl (P : Program) (e : TypeId) (len sz : Nat) (parts : List (Nat × Value)) : Option (List Value) :=
  match (P.info? e).bind (·.zero) with
  | some z => (Instr.fill (fun i => some (i * sz, sz)) ((Array.range (len * sz)).map (z.cells[· % z.cells.size]!)) parts).map (·.toList)
  | none => none
theorem op_buildSlice {d : Option Tmp} (hd : o.dst = d) {e : TypeId} {len : Nat} {parts : Array (Nat × Operand)} (ho : o.op = .buildSlice t len parts) (ht : P.underlying t = some (.slice e)) (sz : Nat) (hsz : sized P e sz = true) (hlen : len * sz ≤ 16777216) (hlen1 : len ≤ 16777216) (cs : List Value)
    (hcs : bsl P e len sz (parts.toList.map fun p => (p.1, ev n l g p.2)) = some cs) (hl : cs.length = len * sz) (hS : St w0 w own)
    (h : ∀ b w', St w0 w' (.row (.slice (some ⟨b, 0, none⟩) len len) e sz len cs :: own) → K (FA n (putl d (.slice (some ⟨b, 0, none⟩) len len) l) g) w') : OW P o (FA n l g) w K Q := by
  refine ⟨?_⟩
  unfold sized at hsz
  cases hi : P.info? e with
  | none => simp [hi] at hsz
  | some i =>
    simp only [hi] at hsz
    have hs : i.size = sz := Nat.eq_of_beq_eq_true hsz
    unfold bsl at hcs
    cases hz : i.zero with
    | none => simp [hi, hz] at hcs
    | some z =>
      simp only [hi, hz, Option.bind_some] at hcs
      obtain ⟨cells, hc1, hc2⟩ := Option.map_eq_some_iff.1 hcs
      have hm : len ≤ maxLen := by unfold maxLen; omega
      refine wp_value hd (s := Instr.buildSlice t len (parts.map fun (i, x) => (i, (FA n l g).eval x))) (v := .slice (some ⟨w.heap.size, 0, none⟩) len len) (w' := w.alloc (.cells cs.toArray e)) ?_ ?_ (h _ _ (hS.lit cs e sz len hl hm))
      · obtain ⟨dst, op, ty, pos, af, gd⟩ := o
        simp only at ho; subst ho
        simp only [execOp]
      · have hp : (parts.map fun (i, x) => (i, (FA n l g).eval x)).toList = parts.toList.map fun p => (p.1, ev n l g p.2) := by simp [FA_evalf]
        have hno : ¬ (2 ^ 24 < len * sz) := by omega
        have hcc : cells = cs.toArray := by rw [← hc2]
        unfold Instr.buildSlice
        rw [Sem.run_bind, run_underlying ht, Result.andThen_ok]
        have hsz2 : (sizeOf e).run P w = .ok sz w := by simp [sizeOf, typeInfo, hi, hs]
        simp only [Sem.run_bind, hsz2, Result.andThen_ok]
        rw [if_neg (by omega)]
        by_cases h0 : len * sz = 0
        · have hr0 : ((Array.range (len * sz)).map ((#[] : Array Value)[· % (#[] : Array Value).size]!)) = (Array.range (len * sz)).map (z.cells[· % z.cells.size]!) := by simp [h0]
          rw [if_pos h0]
          simp only [Sem.run_bind, Sem.run_pure, Result.andThen_ok]
          rw [hr0, hp, hc1]
          simp only [hcc, Sem.run_bind, run_newRow, Result.andThen_ok, Sem.run_pure]
        · have hz' : (zeroValue e).run P w = .ok z w := by simp [zeroValue, typeInfo, hi, hz]
          rw [if_neg h0]
          simp only [Sem.run_bind, hz', Sem.run_pure, Result.andThen_ok]
          rw [hp, hc1]
          simp only [hcc, Sem.run_bind, run_newRow, Result.andThen_ok, Sem.run_pure]
theorem run_storeVar_box {b off : Nat} {cs vs : List Value} {bt : TypeId} (hg : w.heap[b]? = some (.cells cs.toArray bt (0, 0))) (hv : v.cells = vs.toArray) (hty : sized P t vs.length = true) (hfit : off + vs.length ≤ cs.length) (h1 : ∀ u ∈ vs, u.oneCell' = true) :
    (storeVar t ⟨b, off, none⟩ v).run P w = .ok () (w.setRow b (cs.take off ++ vs ++ cs.drop (off + vs.length)).toArray) := by
  unfold sized at hty
  cases hi : P.info? t with
  | none => simp [hi] at hty
  | some i =>
    simp only [hi] at hty
    have hs : i.size = vs.length := Nat.eq_of_beq_eq_true hty
    have := run_storeCells_at P b off bt vs 0 cs.toArray w hg (by simpa using hfit) h1
    simp only [Nat.add_zero] at this
    simp [storeVar, sizeOf, typeInfo, hi, hs, hv, this]
theorem op_store {d : Option Tmp} (hd : o.dst = d) {x y : Operand} (ho : o.op = .store t x y) {i b off : Nat} {cs : List Value} {bt : TypeId} (hi : own[i]? = some (.box b cs bt)) (hx : ev n l g x = .pointer (some ⟨b, off, none⟩)) (vs : List Value) (hv : (ev n l g y).cells = vs.toArray)
    (hty : sized P t vs.length = true) (hfit : off + vs.length ≤ cs.length) (h1 : vs.all (·.oneCell') = true) (own' : List Res) (ho' : own.set i (.box b (cs.take off ++ vs ++ cs.drop (off + vs.length)) bt) = own') (hS : St w0 w own)
    (h : ∀ w', St w0 w' own' → K (FA n (putl d undef l) g) w') : OW P o (FA n l g) w K Q := by
  refine ⟨?_⟩
  have hr := run_storeVar_box (P := P) (t := t) (v := ev n l g y) (hS.box_heap (List.mem_of_getElem? hi)) hv hty hfit (List.all_eq_true.1 h1)
  have hS' := hS.setBox hi (cs.take off ++ vs ++ cs.drop (off + vs.length))
  rw [ho'] at hS'
  unfold Oper.wp
  obtain ⟨dst, op, ty, pos, af, gd⟩ := o
  simp only at ho hd; subst ho; subst hd
  simp only [execOp, FA_eval, hx, Instr.storeAt, Instr.sureAddr, Sem.run_bind, Sem.run_pure, Result.andThen_ok, hr, Oper.upon, FA_put]
  exact h _ hS'
theorem op_storeRow {d : Option Tmp} (hd : o.dst = d) {x y : Operand} (ho : o.op = .store t x y) {i b off m cap e sz : Nat} {xs : List Value} (hi : own[i]? = some (.row (.slice (some ⟨b, 0, none⟩) m cap) e sz m xs)) (hx : ev n l g x = .pointer (some ⟨b, off, none⟩)) (vs : List Value) (hv : (ev n l g y).cells = vs.toArray)
    (hty : sized P t vs.length = true) (hfit : off + vs.length ≤ xs.length) (h1 : vs.all (·.oneCell') = true) (own' : List Res) (ho' : own.set i (.row (.slice (some ⟨b, 0, none⟩) m cap) e sz m (xs.take off ++ vs ++ xs.drop (off + vs.length))) = own') (hS : St w0 w own)
    (h : ∀ w', St w0 w' own' → K (FA n (putl d undef l) g) w') : OW P o (FA n l g) w K Q := by
  refine ⟨?_⟩
  obtain ⟨cur, hh, hnc, hcm, hs, ht, hl⟩ := hS.row_heap (List.mem_of_getElem? hi)
  have hlen : m * sz ≤ cur.toList.length := by rw [Array.length_toList, hs]; exact Nat.mul_le_mul_right _ hnc
  have hr := run_storeVar_box (P := P) (t := t) (v := ev n l g y) (off := off) (vs := vs) (cs := cur.toList) (by simpa using hh) hv hty (by omega) (List.all_eq_true.1 h1)
  have hS' := hS.setSeg hi hh off vs hfit
  rw [ho'] at hS'
  unfold Oper.wp
  obtain ⟨dst, op, ty, pos, af, gd⟩ := o
  simp only at ho hd; subst ho; subst hd
  simp only [execOp, FA_eval, hx, Instr.storeAt, Instr.sureAddr, Sem.run_bind, Sem.run_pure, Result.andThen_ok, hr, Oper.upon, FA_put]
  exact h _ hS'
theorem op_call0 {d : Option Tmp} (hd : o.dst = d) {f : FuncId} {xs : Array Operand} {ats : Array TypeId} (ho : o.op = .call { callee := .value (.func f), args := xs, argTypes := ats }) (hf : okFn P f) {vs : List Value} (hvs : xs.toList.map (ev n l g) = vs)
    (h : Calls P f vs.toArray w fun | .returned v, w'' => K (FA n (putl d v l) g) w'' | .panicked chain, w'' => Q (.panic chain) (FA n l g) w'' | .outgrown, _ => LetsOut Q) : OW P o (FA n l g) w K Q := by
  refine ⟨?_⟩
  obtain ⟨fn, h1, h2, h3⟩ := hf
  unfold Oper.wp
  obtain ⟨dst, op, ty, pos, af, gd⟩ := o
  simp only at ho hd; subst ho; subst hd
  have hev : (FA n l g).eval (.func f) = .func (.func f) #[] #[] := rfl
  have hva : xs.map (ev n l g) = vs.toArray := by apply Array.ext'; simp [hvs]
  have hc : (callFunc f vs.toArray).run P w = .ok (.enter f vs.toArray) w := by
    unfold callFunc
    rw [Sem.run_bind, run_program]
    simp only [Result.andThen_ok, h1, h2, h3, Bool.false_eq_true, if_false]
    rfl
  have hr : (execOp (FA n l g).eval ⟨dst, .call { callee := .value (.func f), args := xs, argTypes := ats }, ty, pos, af, gd⟩).run P w = .ok (.enter f vs.toArray) w := by
    simp only [execOp, resolve, hev, Deferred.ofValue, Sem.run_bind, Sem.run_pure, Result.andThen_ok, invoke, FA_evalf, hva, Array.empty_append, Array.append_empty]
    exact hc
  rw [hr]
  simp only [Oper.upon, FA_put]
  exact h
theorem op_call {d : Option Tmp} (hd : o.dst = d) {f : FuncId} {xs : Array Operand} {ats : Array TypeId} (ho : o.op = .call { callee := .value (.func f), args := xs, argTypes := ats }) (hf : okFn P f) {vs : List Value} (hvs : xs.toList.map (ev n l g) = vs)
    {R : Value → List Res → Prop} (hc : Calls P f vs.toArray w (Ret w R)) (hS : St w0 w own) (h : ∀ v new w', R v new → St w0 w' (new ++ own) → K (FA n (putl d v l) g) w') : OW P o (FA n l g) w K Q := by
  refine op_call0 hd ho hf hvs (hc.mono ?_)
  rintro e w' ⟨v, new, rfl, hs, hR⟩
  exact h v new w' hR (hS.call hs)
theorem op_callv {d : Option Tmp} (hd : o.dst = d) {f : FuncId} {xs : Array Operand} {ats : Array TypeId} (ho : o.op = .call { callee := .value (.func f), args := xs, argTypes := ats }) (hf : okFn P f) {vs : List Value} (hvs : xs.toList.map (ev n l g) = vs)
    {v : Value} (hc : Calls P f vs.toArray w (RetV w v)) (hS : St w0 w own) (h : ∀ w', St w0 w' own → K (FA n (putl d v l) g) w') : OW P o (FA n l g) w K Q := by
  refine op_call0 hd ho hf hvs (hc.mono ?_)
  rintro e w' ⟨rfl, hb⟩
  exact h w' (hS.later hb)
/-- A call that works on things of the caller's own. -/
theorem op_callm {d : Option Tmp} (hd : o.dst = d) {f : FuncId} {xs : Array Operand} {ats : Array TypeId} (ho : o.op = .call { callee := .value (.func f), args := xs, argTypes := ats }) (hf : okFn P f) {vs : List Value} (hvs : xs.toList.map (ev n l g) = vs)
    {R : Value → List Res → Prop} (hc : Calls P f vs.toArray w (fun e w' => ∃ v own', e = .returned v ∧ St w0 w' own' ∧ R v own')) (h : ∀ v own' w', R v own' → St w0 w' own' → K (FA n (putl d v l) g) w') : OW P o (FA n l g) w K Q := by
  refine op_call0 hd ho hf hvs (hc.mono ?_)
  rintro e w' ⟨v, own', rfl, hs, hR⟩
  exact h v own' w' hR hs
theorem op_append {d : Option Tmp} (hd : o.dst = d) {s x : Operand} (ho : o.op = .call { callee := .builtin .append, args := #[s, x], argTypes := #[t, t] }) {e : TypeId} {z : Value} {sz bytes : Nat} (E : El P t e z sz bytes) {i m : Nat} {v : Value} {xs : List Value} (hS : St w0 w own) (hi : own[i]? = some (.row v e sz m xs)) (hs : ev n l g s = v)
    {A : Option Addr} {k c : Nat} {news : List Value} (hx : ev n l g x = .slice A k c) (hr : Rd w w.heap.size A (k * sz) news) (h1 : ∀ u ∈ news, u.oneCell' = true) (h63 : m + k ≤ 140737488355328) (hbytes : (m + k) * bytes ≤ 140737488355328)
    (h : ∀ v' w', St w0 w' (own.set i (.row v' e sz (m + k) (xs ++ news))) → K (FA n (putl d v' l) g) w') : OW P o (FA n l g) w K Q := by
  refine ⟨?_⟩
  have hown : w.ownsRow w0.heap.size e sz v m xs := hS.hold _ (List.mem_of_getElem? hi)
  obtain ⟨v', w', hrun, h2, h3, h4⟩ := run_append_rd (P := P) (ty := o.type) w E hown hr (c := c) h1 h63 hbytes hS.size
  have hS' : St w0 w' (own.set i (.row v' e sz (m + k) (xs ++ news))) := hS.upd hi h3 h2 (fun b hb => by
    rcases h4 with h4 | h4
    · exact .inl (by show v.ownBlock = some b; rw [← h4]; exact hb)
    · right
      have hb' : v'.ownBlock = some b := hb
      rw [h4] at hb'; injection hb' with hb'; omega)
  unfold Oper.wp
  obtain ⟨dst, op, ty, pos, af, gd⟩ := o
  simp only at ho hd; subst ho; subst hd
  simp only [execOp, resolve, invoke, builtin, Sem.run_bind, Sem.run_pure, Result.andThen_ok, List.map_toArray, List.map_cons, List.map_nil, FA_eval, hs, hx, hrun, Oper.upon, FA_put]
  exact h v' w' hS'
theorem op_append_nil {d : Option Tmp} (hd : o.dst = d) {s x : Operand} (ho : o.op = .call { callee := .builtin .append, args := #[s, x], argTypes := #[t, t] }) {e : TypeId} {z : Value} {sz bytes : Nat} (E : El P t e z sz bytes) {i : Nat} {v : Value} (hS : St w0 w own) (hi : own[i]? = some (.row v e sz 0 [])) (hs : ev n l g s = v)
    {A : Option Addr} {k c : Nat} {news : List Value} (hx : ev n l g x = .slice A k c) (hr : Rd w w.heap.size A (k * sz) news) (h1 : ∀ u ∈ news, u.oneCell' = true) (h63 : k ≤ 140737488355328) (hbytes : k * bytes ≤ 140737488355328)
    (h : ∀ v' w', St w0 w' (own.set i (.row v' e sz k news)) → K (FA n (putl d v' l) g) w') : OW P o (FA n l g) w K Q :=
  op_append hd ho E hS hi hs hx hr h1 (by omega) (by rw [Nat.zero_add]; exact hbytes) fun v' w' hst => h v' w' (by rw [Nat.zero_add, List.nil_append] at hst; exact hst)
def bytesd (P : Program) (t : TypeId) (k : Nat) : Bool := match P.info? t with
  | some i => Nat.beq i.bytes k
  | none => false
/-- The cells of what 'make' makes. -/
def zrow (z : List Value) (k : Nat) : List Value := (madeCells z.toArray k).toList
theorem zrow_one (z : Value) (k : Nat) : zrow [z] k = List.replicate k z := toList_madeCells_one z k
theorem zrow_length (z : List Value) (k : Nat) : (zrow z k).length = k := by simp [zrow, madeCells]
theorem zrow_take (z : List Value) {k m : Nat} (h : k ≤ m) : (zrow z m).take k = zrow z k := by
  simp only [zrow, madeCells, Array.toList_map, Array.toList_range, ← List.map_take, List.take_range, Nat.min_eq_left h]
theorem op_make {d : Option Tmp} (hd : o.dst = d) {lo co : Operand} (ho : o.op = .makeSlice t lo co) {e : TypeId} (ht : P.underlying t = some (.slice e)) (z : List Value) (hz : zeroOf P e = some z) (sz : Nat) (hsz : sized P e sz = true) (bytes : Nat) (hby : bytesd P e bytes = true)
    (k c : Nat) {kl kc : IntKind} (hl : ev n l g lo = .int kl (k : Int)) (hc : ev n l g co = .int kc (c : Int)) (hkc : k ≤ c) (hb : bytes * c ≤ 281474976710656) (hm : c ≤ maxLen) (hS : St w0 w own)
    (h : ∀ b w', St w0 w' (.row (.slice (some ⟨b, 0, none⟩) k c) e sz k (zrow z (k * sz)) :: own) → K (FA n (putl d (.slice (some ⟨b, 0, none⟩) k c) l) g) w') : OW P o (FA n l g) w K Q := by
  refine ⟨?_⟩
  unfold zeroOf at hz
  obtain ⟨zv, hz1, hz2⟩ := Option.map_eq_some_iff.1 hz
  obtain ⟨i, hi, hz3⟩ := Option.bind_eq_some_iff.1 hz1
  have hs : i.size = sz := by simp only [sized, hi] at hsz; exact Nat.eq_of_beq_eq_true hsz
  have hbs : i.bytes = bytes := by simp only [bytesd, hi] at hby; exact Nat.eq_of_beq_eq_true hby
  have hb' : (i.bytes : Int) * (c : Int) ≤ 281474976710656 := by
    have hh : ((i.bytes * c : Nat) : Int) ≤ 281474976710656 := by rw [hbs]; omega
    rwa [Int.natCast_mul] at hh
  have h63 : (c : Int) ≤ 9223372036854775807 := by unfold maxLen at hm; omega
  have hr := run_make (P := P) w t e i zv ht hi hz3 kl kc (k : Int) (c : Int) (by omega) (by omega) hb' h63
  simp only [Int.toNat_natCast] at hr
  have hzc : zv.cells = z.toArray := by rw [← hz2]
  rw [hzc, hs] at hr
  have hS' : St w0 (w.alloc (.cells (madeCells z.toArray (c * sz)) e)) (.row (.slice (some ⟨w.heap.size, 0, none⟩) k c) e sz k (zrow z (k * sz)) :: own) := by
    refine hS.new (World.grownBy_alloc w _ none) ⟨zrow_length _ _, .inr ⟨w.heap.size, c, _, rfl, hS.size, heap_alloc_new w _, hkc, hm, size_madeCells _ _, ?_⟩⟩ (fun b hb => by simp only [Res.blk, Value.ownBlock, Option.some.injEq] at hb; omega)
    exact zrow_take z (Nat.mul_le_mul_right _ hkc)
  refine wp_value hd (s := Instr.makeSlice t (ev n l g lo) (ev n l g co)) (v := .slice (some ⟨w.heap.size, 0, none⟩) k c) ?_ (by rw [hl, hc]; exact hr) (h _ _ hS')
  obtain ⟨dst, op, ty, pos, af, gd⟩ := o
  simp only at ho; subst ho
  simp only [execOp, FA_eval]
theorem op_copy {d : Option Tmp} (hd : o.dst = d) {x y : Operand} {dT sT : TypeId} (ho : o.op = .call { callee := .builtin .copy, args := #[x, y], argTypes := #[dT, sT] }) {e : TypeId} (ht : P.underlying dT = some (.slice e)) (hsz : sized P e 1 = true)
    {i b cap m : Nat} {xs : List Value} (hi : own[i]? = some (.row (.slice (some ⟨b, 0, none⟩) m cap) e 1 m xs)) (hx : ev n l g x = .slice (some ⟨b, 0, none⟩) m cap) {A : Option Addr} {k c : Nat} (hy : ev n l g y = .slice A k c) (news : List Value)
    (hS : St w0 w own) (hr : Rd w w.heap.size A k news) (h1 : ∀ u ∈ news, u.oneCell' = true) (q : Nat) (hq : q = min k m)
    (h : ∀ w', St w0 w' (own.set i (.row (.slice (some ⟨b, 0, none⟩) m cap) e 1 m (news.take q ++ xs.drop q))) → K (FA n (putl d (.int .i64 (q : Int)) l) g) w') : OW P o (FA n l g) w K Q := by
  refine ⟨?_⟩
  obtain ⟨cur, hh, hnc, hcm, hs, htk, hl⟩ := hS.row_heap (List.mem_of_getElem? hi)
  have hszo : (P.info? e).map (·.size) = some 1 := by
    unfold sized at hsz
    cases hI : P.info? e with
    | none => simp [hI] at hsz
    | some i => simp only [hI] at hsz; simp [Nat.eq_of_beq_eq_true hsz]
  have hln : news.length = k := hr.1
  have fin : ∀ w', (Builtin.copy_ #[dT, sT] o.type #[.slice (some ⟨b, 0, none⟩) m cap, .slice A k c]).run P w = .ok (.int .i64 (q : Int)) w' → St w0 w' (own.set i (.row (.slice (some ⟨b, 0, none⟩) m cap) e 1 m (news.take q ++ xs.drop q))) → o.wp P (FA n l g) w K Q := by
    intro w' hrun hst
    unfold Oper.wp
    obtain ⟨dst, op, ty, pos, af, gd⟩ := o
    simp only at ho hd; subst ho; subst hd
    simp only [execOp, resolve, invoke, builtin, Sem.run_bind, Sem.run_pure, Result.andThen_ok, List.map_toArray, List.map_cons, List.map_nil, FA_eval, hx, hy, hrun, Oper.upon, FA_put]
    exact h w' hst
  by_cases h0 : q = 0
  · subst h0
    have hmin : Nat.min k m = 0 := by rw [show Nat.min k m = min k m from rfl]; omega
    have hrun := run_copy_none (P := P) w dT sT o.type e (some ⟨b, 0, none⟩) A m cap k c ht hszo hmin
    refine fin w hrun ?_
    simp only [List.take_zero, List.drop_zero, List.nil_append]
    have he : own.set i (.row (.slice (some ⟨b, 0, none⟩) m cap) e 1 m xs) = own := by
      apply List.ext_getElem?
      intro j
      rw [List.getElem?_set]
      split
      · rename_i hij; subst hij; rw [hi]; simp [(List.getElem?_eq_some_iff.1 hi).1]
      · rfl
    rw [he]
    exact hS
  · have hk : 0 < k := by omega
    obtain ⟨b2, off, rfl, _, hc⟩ := hr.2 hk
    have hcl : (news.take q).length = q := by simp; omega
    have hrun := run_copy_row (P := P) w dT sT o.type e b 0 m cap ⟨b2, off, none⟩ k c cur e (news.take q) ht hszo hh (by rw [hcl, hq]) (fun j v hj => by
      rw [List.getElem?_take] at hj
      split at hj
      · rw [add_flat]; exact hc j v hj
      · cases hj) (by rw [hcl, hs]; omega) (fun v hv => h1 v (List.mem_of_mem_take hv))
    have hst := hS.setSeg hi hh 0 (news.take q) (by rw [hcl, hl]; omega)
    simp only [Nat.zero_add, List.take_zero, List.nil_append, hcl] at hst hrun
    exact fin _ hrun hst
theorem St.eqv {own' : List Res} (h : St w0 w own) (e : own = own') : St w0 w own' := e ▸ h
end
end Go.Proofs.Ytchkiohikhfecaa
