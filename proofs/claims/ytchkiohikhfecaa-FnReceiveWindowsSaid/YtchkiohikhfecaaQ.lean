/-
  Frames as lists of slots, and the quiet operations (those that yield a value and leave the world alone) run by the kernel: 'qop', 'qstep', 'qrun', each with its soundness.
-/
import Derived.Test.YtchkiohikhfecaaSt
namespace Go.Proofs.Ytchkiohikhfecaa
open Go.RowKit

/-- A frame: the slots that are known, over g. -/
def lk : List (Nat × Value) → (Nat → Value) → Nat → Value
  | [], g, t => g t
  | p :: l, g, t => bif Nat.beq p.1 t then p.2 else lk l g t
def FA (n : Nat) (l : List (Nat × Value)) (g : Nat → Value) : Act := ⟨Array.ofFn (n := n) (fun i => lk l g i), []⟩
def putl (d : Option Tmp) (v : Value) (l : List (Nat × Value)) : List (Nat × Value) :=
  match d with
  | some d => (d, v) :: l
  | none => l
def ev (n : Nat) (l : List (Nat × Value)) (g : Nat → Value) : Operand → Value
  | .tmp t => bif Nat.blt t n then lk l g t else undef
  | .const v => v
  | .global k => .pointer (some ⟨k, 0, none⟩)
  | .func f => .func (.func f) #[] #[]
section
variable {n : Nat} {l : List (Nat × Value)} {g : Nat → Value}
theorem FA_get (t : Nat) : (FA n l g).tmps[t]? = if t < n then some (lk l g t) else none := by
  simp only [FA, Array.getElem?_ofFn]; split <;> simp_all
theorem FA_eval (x : Operand) : (FA n l g).eval x = ev n l g x := by
  cases x with
  | tmp t =>
    simp only [Act.eval, ev, Array.getD_eq_getD_getElem?, FA_get]
    by_cases h : t < n
    · have hb : Nat.blt t n = true := by rw [Nat.blt_eq]; exact h
      simp [h, hb]
    · have hb : Nat.blt t n = false := Bool.eq_false_iff.2 (by rw [ne_eq, Nat.blt_eq]; exact h)
      simp [h, hb]
  | _ => rfl
theorem FA_evalf : (FA n l g).eval = ev n l g := funext FA_eval
theorem Nat_beq_false {a b : Nat} (h : a ≠ b) : Nat.beq a b = false := by
  cases h' : Nat.beq a b
  · rfl
  · exact absurd (Nat.eq_of_beq_eq_true h') h
theorem FA_put (d : Option Tmp) (v : Value) : (FA n l g).put d v = FA n (putl d v l) g := by
  cases d with
  | none => rfl
  | some d =>
    simp only [Act.put, FA, putl, Act.mk.injEq, and_true]
    apply Array.ext
    · simp
    · intro i h1 h2
      simp only [Array.size_setIfInBounds, Array.size_ofFn] at h1 h2
      rw [Array.getElem_setIfInBounds (by simpa using h1)]
      by_cases hd : d = i
      · subst hd; simp [lk]
      · simp [hd, lk, Nat_beq_false hd]
end
/-- All arguments, from slot k on. -/
def argl : Nat → List Value → List (Nat × Value)
  | _, [] => []
  | k, v :: r => (k, v) :: argl (k + 1) r
theorem lk_argl (g : Nat → Value) : ∀ (vs : List Value) (k t : Nat), lk (argl k vs) g t = if k ≤ t ∧ t < k + vs.length then vs.getD (t - k) undef else g t
  | [], k, t => by simp only [argl, lk, List.length_nil]; rw [if_neg (by omega)]
  | v :: r, k, t => by
    simp only [argl, lk, lk_argl g r (k + 1) t, List.length_cons]
    by_cases h : k = t
    · subst h
      simp
    · rw [Nat_beq_false h]
      simp only [cond_false]
      by_cases h2 : k + 1 ≤ t ∧ t < k + 1 + r.length
      · rw [if_pos h2, if_pos (by omega)]
        rw [show t - k = (t - (k + 1)) + 1 by omega]
        rfl
      · rw [if_neg h2, if_neg (by omega)]
theorem calls_FA {P : Program} {f : FuncId} {fn : Func} {c : Code} {args : Array Value} {w : World} {R : Ending → World → Prop} {n : Nat} {l : List (Nat × Value)}
    (hf : P.funcs[f]? = some fn) (hb : fn.body = some c) (hn : fn.ntmps = n) (hl : argl 0 args.toList = l) (ha : args.size ≤ n)
    (h : ∀ g, c.wp P (bodyPost P fn R) (FA n l g) w) : Calls P f args w R := by
  subst hl; subst hn
  refine calls_of_wp hf hb ?_
  have e : (⟨args ++ Array.replicate (fn.ntmps - args.size) undef, []⟩ : Act) = FA fn.ntmps (argl 0 args.toList) (fun _ => undef) := by
    simp only [FA, Act.mk.injEq, and_true]
    apply Array.ext
    · simp; omega
    · intro i h1 h2
      simp only [Array.size_ofFn] at h2
      simp only [Array.getElem_ofFn, lk_argl, Nat.zero_le, true_and, Nat.zero_add, Nat.sub_zero, Array.length_toList]
      rw [Array.getElem_append]
      split
      · rename_i h3; simp [h3]
      · rename_i h3; simp [h3]
  rw [e]
  exact h _

/-- The number fits the kind as it stands. -/
def InK (k : IntKind) (n : Int) : Prop := k.wrap n = n
theorem in64 {n : Int} (h1 : -9223372036854775808 ≤ n) (h2 : n ≤ 9223372036854775807) : InK .i64 n := by unfold InK; rw [IntKind.wrap_i64]; omega
theorem in8 {n : Int} (h1 : 0 ≤ n) (h2 : n ≤ 255) : InK .u8 n := by unfold InK; rw [IntKind.wrap_u8]; omega
theorem inu64 {n : Int} (h1 : 0 ≤ n) (h2 : n ≤ 18446744073709551615) : InK .u64 n := by unfold InK; rw [IntKind.wrap_u64]; omega
theorem I64.ink {n : Int} (h : I64 n) : InK .i64 n := in64 h.1 h.2
/-- What is claimed of an operation beside what it computes by itself. -/
inductive Hint where
  | no
  | v (x : Value)
  | man (x : Value)
  | skip
def LoadsAt (P : Program) (S : World → Prop) (t : TypeId) (a : Addr) (v : Value) : Prop := ∀ w, S w → (loadVar t a).run P w = .ok v w
def YieldsAt (P : Program) (S : World → Prop) (s : Sem Value) (v : Value) : Prop := ∀ w, S w → s.run P w = .ok v w
/-- The value of 'a op b' on the bits. -/
def ibits (op : BinOp) (k : IntKind) (x y : Int) : Int :=
  match op with
  | .and => k.wrap (BitVec.ofInt k.bits x &&& BitVec.ofInt k.bits y).toNat
  | .or => k.wrap (BitVec.ofInt k.bits x ||| BitVec.ofInt k.bits y).toNat
  | .xor => k.wrap (BitVec.ofInt k.bits x ^^^ BitVec.ofInt k.bits y).toNat
  | .andNot => k.wrap (BitVec.ofInt k.bits x &&& ~~~BitVec.ofInt k.bits y).toNat
  | _ => 0
def qint (op : BinOp) (k : IntKind) (a : Int) (k' : IntKind) (b : Int) (h : Hint) : Option (Value × List Prop) :=
  match op with
  | .shl => match h with
    | .v (.int _ z) => some (.int k z, [0 ≤ b, k.wrap (a * 2 ^ (min b.toNat k.bits)) = z])
    | _ => none
  | .shr => match h with
    | .v (.int _ z) => some (.int k z, [0 ≤ b, a.fdiv (2 ^ (min b.toNat k.bits)) = z])
    | _ => none
  | op => if k = k' then
    match op with
    | .add => match h with
      | .v (.int _ z) => some (.int k z, [k.wrap (a + b) = z])
      | _ => some (.int k (a + b), [InK k (a + b)])
    | .sub => match h with
      | .v (.int _ z) => some (.int k z, [k.wrap (a - b) = z])
      | _ => some (.int k (a - b), [InK k (a - b)])
    | .mul => match h with
      | .v (.int _ z) => some (.int k z, [k.wrap (a * b) = z])
      | _ => some (.int k (a * b), [InK k (a * b)])
    | .quo => match h with
      | .v (.int _ z) => some (.int k z, [b ≠ 0, k.wrap (a.tdiv b) = z])
      | _ => some (.int k (a / b), [0 ≤ a, 0 < b, InK k (a / b)])
    | .rem => match h with
      | .v (.int _ z) => some (.int k z, [b ≠ 0, a.tmod b = z])
      | _ => some (.int k (a % b), [0 ≤ a, 0 < b])
    | .and => match h with
      | .v (.int _ z) => some (.int k z, [ibits .and k a b = z])
      | _ => none
    | .or => match h with
      | .v (.int _ z) => some (.int k z, [ibits .or k a b = z])
      | _ => none
    | .xor => match h with
      | .v (.int _ z) => some (.int k z, [ibits .xor k a b = z])
      | _ => none
    | .andNot => match h with
      | .v (.int _ z) => some (.int k z, [ibits .andNot k a b = z])
      | _ => none
    | .eql => some (.bool (decide (a = b)), [])
    | .neq => some (.bool (!decide (a = b)), [])
    | .lss => some (.bool (decide (a < b)), [])
    | .leq => some (.bool (decide (a ≤ b)), [])
    | .gtr => some (.bool (decide (b < a)), [])
    | .geq => some (.bool (decide (b ≤ a)), [])
    | _ => none
    else none
section
variable {P : Program} {S : World → Prop}
theorem qint_sound {op : BinOp} {xt : TypeId} {k k' : IntKind} {a b : Int} {h : Hint} {v : Value} {cs : List Prop} (hq : qint op k a k' b h = some (v, cs)) (hc : ∀ c ∈ cs, c) (w : World) :
    (binOp op xt (.int k a) (.int k' b)).run P w = .ok v w := by
  have two : ∀ {p q : Prop}, (∀ c ∈ [p, q], c) → p ∧ q := fun hh => ⟨hh _ (by simp), hh _ (by simp)⟩
  cases op <;> simp only [qint] at hq
  case shl =>
    cases h <;> (try cases hq); rename_i x; cases x <;> (try cases hq)
    obtain ⟨h1, h2⟩ := two hc
    have : ¬ b < 0 := by omega
    simp [binOp, Op.shift, this, h2]
  case shr =>
    cases h <;> (try cases hq); rename_i x; cases x <;> (try cases hq)
    obtain ⟨h1, h2⟩ := two hc
    have : ¬ b < 0 := by omega
    simp [binOp, Op.shift, this, h2]
  all_goals
    split at hq
    case isFalse => cases hq
    rename_i hk
    subst hk
  case add =>
    split at hq <;> cases hq
    · have h1 := hc _ (List.mem_singleton.2 rfl); simp [binOp, Op.intArith, h1]
    · have h1 : InK k (a + b) := hc _ (List.mem_singleton.2 rfl); simp [binOp, Op.intArith]; exact h1
  case sub =>
    split at hq <;> cases hq
    · have h1 := hc _ (List.mem_singleton.2 rfl); simp [binOp, Op.intArith, h1]
    · have h1 : InK k (a - b) := hc _ (List.mem_singleton.2 rfl); simp [binOp, Op.intArith]; exact h1
  case mul =>
    split at hq <;> cases hq
    · have h1 := hc _ (List.mem_singleton.2 rfl); simp [binOp, Op.intArith, h1]
    · have h1 : InK k (a * b) := hc _ (List.mem_singleton.2 rfl); simp [binOp, Op.intArith]; exact h1
  case quo =>
    split at hq <;> cases hq
    · obtain ⟨h1, h2⟩ := two hc; simp [binOp, Op.intDiv, h1, h2]
    · have h1 : 0 ≤ a := hc _ (by simp)
      have h2 : 0 < b := hc _ (by simp)
      have h3 : InK k (a / b) := hc (InK k (a / b)) (by simp)
      have h4 : b ≠ 0 := by omega
      simp [binOp, Op.intDiv, h4, Int.tdiv_eq_ediv_of_nonneg h1]; exact h3
  case rem =>
    split at hq <;> cases hq
    · obtain ⟨h1, h2⟩ := two hc; simp [binOp, Op.intDiv, h1, h2]
    · have h1 : 0 ≤ a := hc _ (by simp)
      have h2 : 0 < b := hc _ (by simp)
      have h4 : b ≠ 0 := by omega
      simp [binOp, Op.intDiv, h4, Int.tmod_eq_emod_of_nonneg h1]
  case and => split at hq <;> cases hq; have h1 := hc _ (List.mem_singleton.2 rfl); simp [binOp, Op.intBits]; exact h1
  case or => split at hq <;> cases hq; have h1 := hc _ (List.mem_singleton.2 rfl); simp [binOp, Op.intBits]; exact h1
  case xor => split at hq <;> cases hq; have h1 := hc _ (List.mem_singleton.2 rfl); simp [binOp, Op.intBits]; exact h1
  case andNot =>
    split at hq <;> cases hq
    have h1 := hc _ (List.mem_singleton.2 rfl)
    rw [← h1]
    show (if k ≠ k then _ else Op.intBits .andNot k a b).run P w = _
    rw [if_neg (by simp)]
    rfl
  case eql => cases hq; simp [binOp, Op.intCmp]; rfl
  case neq => cases hq; simp [binOp, Op.intCmp]; rfl
  all_goals first | (cases hq; simp [binOp, Op.intCmp]; done) | (cases hq; simp [binOp, Op.intCmp]; rfl) | cases hq
end
end Go.Proofs.Ytchkiohikhfecaa
