/-
  The quiet operations: 'qop' with its soundness; 'qstep' (guards besides), 'qrun' (a list of them).
-/
import Derived.Test.YtchkiohikhfecaaQ
namespace Go.Proofs.Ytchkiohikhfecaa
open Go.RowKit

/-- The part of a struct value. -/
def qpart (P : Program) (t : TypeId) (cs : Array Value) (off : Nat) : Option Value :=
  match P.underlying t with
  | some (.struct _) => (P.info? t).map fun i => .agg (cs.extract off (off + i.size))
  | some (.array _ _) => none
  | some _ => cs[off]?
  | none => none
/-- A slice of a slice. -/
def sliceRes (A : Option Addr) (c size l h : Nat) : Value := .slice (if c = l then A else A.map (·.add (l * size))) (h - l) (c - l)
def optInt (d : Int) : Option Value → Option Int
  | none => some d
  | some (.int _ n) => some n
  | _ => none
def buildRes (P : Program) (t : TypeId) (parts : List (Nat × Value)) : Option Value :=
  match P.underlying t, (P.info? t).bind (·.zero) with
  | some (.struct fs), some z =>
    bif fs.all (fun f => (P.info? f.type).isSome) then
      (Instr.fill ((fs.map fun f => (f.offset, P.cellsOf f.type))[·]?) z.cells parts).map Value.agg
    else none
  | _, _ => none
def qpick (ρ : Operand → Value) (h : Hint) (c a b : Operand) : Option (Value × List Prop) :=
  match ρ c, h with
  | .bool t, .v (.bool true) => some (ρ a, [t = true])
  | .bool t, .v (.bool false) => some (ρ b, [t = false])
  | _, _ => none
/-- Two structs of numbers and Bools, field by field. -/
def feqL (P : Program) (eq : TypeId → Value → Value → Option Bool) (xs ys : Array Value) : List Field → Option Bool
  | [] => some true
  | f :: fs => if f.name ≠ "_" then
      match qpart P f.type xs f.offset, qpart P f.type ys f.offset with
      | some a, some b => match eq f.type a b, feqL P eq xs ys fs with
        | some r, some s => some (r && s)
        | _, _ => none
      | _, _ => none
    else none
def feq (P : Program) : Nat → TypeId → Value → Value → Option Bool
  | 0, _, _, _ => none
  | d + 1, t, x, y => match x, y with
    | .int k a, .int k' b => if k = k' then match P.underlying t with
        | some (.int _) => some (a == b)
        | _ => none
      else none
    | .bool a, .bool b => match P.underlying t with
      | some .bool => some (a == b)
      | _ => none
    | .agg xs, .agg ys => match P.underlying t with
      | some (.struct fs) => if P.stoodInHeld t then none else feqL P (feq P d) xs ys fs.toList
      | _ => none
    | _, _ => none
def qbin (P : Program) (h : Hint) (op : BinOp) (xt : TypeId) (x y : Value) : Option (Value × List Prop) :=
  match x, y with
  | .int k a, .int k' b => qint op k a k' b h
  | .bool a, .bool b => match op, P.underlying xt with
    | .eql, some .bool => some (.bool (a == b), [])
    | .neq, some .bool => some (.bool (!(a == b)), [])
    | _, _ => none
  | .string a, .string b => match op with
    | .add => some (.string (a ++ b), [a.size + b.size ≤ 9223372036854775807])
    | .eql => some (.bool (a.toList == b.toList), [])
    | .neq => some (.bool (!(a.toList == b.toList)), [])
    | _ => none
  | .agg xs, .agg ys => if P.eqGuardType P.depth xt then none else match op with
    | .eql => (feq P 8 xt (.agg xs) (.agg ys)).map fun r => (.bool r, [])
    | .neq => (feq P 8 xt (.agg xs) (.agg ys)).map fun r => (.bool (!r), [])
    | _ => none
  | _, _ => none
def qun (op : UnOp) (x : Value) : Option (Value × List Prop) :=
  match op, x with
  | .not, .bool b => some (.bool (!b), [])
  | .neg, .int k a => some (.int k (-a), [InK k (-a)])
  | _, _ => none
def qconv (P : Program) (h : Hint) (s d : TypeId) (x : Value) : Option (Value × List Prop) :=
  match P.underlying s, P.underlying d, x with
  | some _, some (.int k), .int _ n => match h with
    | .v (.int _ z) => some (.int k z, [k.wrap n = z])
    | _ => some (.int k n, [InK k n])
  | _, _, _ => none
def qfaddr (P : Program) (s : TypeId) (x : Value) (f : Nat) : Option (Value × List Prop) :=
  match P.underlying s, x with
  | some (.struct fs), .pointer (some ⟨b, off, none⟩) => match fs[f]? with
    | some fd => match P.info? fd.type with
      | some i => bif Nat.beq i.size 0 then none else some (.pointer (some ⟨b, off + fd.offset, none⟩), [])
      | none => none
    | none => none
  | _, _ => none
def qfield (P : Program) (s : TypeId) (x : Value) (f : Nat) : Option (Value × List Prop) :=
  match P.underlying s, x with
  | some (.struct fs), .agg cs => match fs[f]? with
    | some fd => (qpart P fd.type cs fd.offset).map fun v => (v, [])
    | none => none
  | _, _ => none
def qiaddr (P : Program) (t : TypeId) (x i : Value) : Option (Value × List Prop) :=
  match P.underlying t, x, i with
  | some (.slice e), .slice (some ⟨b, off, none⟩) n _, .int _ i => match P.info? e with
    | some ti => some (.pointer (some ⟨b, off + i.toNat * ti.size, none⟩), [0 ≤ i, i < (n : Int)])
    | none => none
  | _, _, _ => none
def qextract (x : Value) (ix : Nat) : Option (Value × List Prop) :=
  match x with
  | .tuple vs => (vs[ix]?).map fun v => (v, [])
  | _ => none
def qslice (P : Program) (t : TypeId) (x : Value) (lo hi : Option Value) : Option (Value × List Prop) :=
  match P.underlying t, x with
  | some (.slice e), .slice A n c => match P.info? e, optInt 0 lo, optInt n hi with
    | some ti, some l, some h => some (sliceRes A c ti.size l.toNat h.toNat, [0 ≤ l, l ≤ h, h ≤ (c : Int), n ≤ c])
    | _, _, _ => none
  | _, _ => none
def qload (P : Program) (S : World → Prop) (h : Hint) (t : TypeId) (x : Value) : Option (Value × List Prop) :=
  match x, h with
  | .pointer (some a), .v v => some (v, [LoadsAt P S t a v])
  | _, _ => none
def qlen (P : Program) (t : TypeId) (x : Value) : Option (Value × List Prop) :=
  match P.underlying t, x with
  | some (.slice _), .slice _ n _ => some (.int .i64 n, [])
  | some .string, .string s => some (.int .i64 s.size, [])
  | _, _ => none
def qcall (P : Program) (ρ : Operand → Value) (c : Call) : Option (Value × List Prop) :=
  match c.callee, c.args.toList, c.argTypes.toList with
  | .builtin .len, [x], [t] => qlen P t (ρ x)
  | _, _, _ => none
def qnil (x : Value) : Option (Value × List Prop) :=
  match x with
  | .pointer (some a) => some (.pointer (some a), [])
  | _ => none
def qop (P : Program) (S : World → Prop) (ρ : Operand → Value) (h : Hint) (o : Oper) : Option (Value × List Prop) :=
  match h with
  | .man v => some (v, [∀ w, S w → (execOp ρ o).run P w = .ok (.value v) w])
  | .skip => none
  | h => match o.op with
    | .move x => some (ρ x, [])
    | .assign x => some (ρ x, [])
    | .pick c a b => qpick ρ h c a b
    | .binOp op xt x y _ => qbin P h op xt (ρ x) (ρ y)
    | .unOp op _ x => qun op (ρ x)
    | .convert s d x => match h with
      | .v (.string b) => some (.string b, [YieldsAt P S (convert s d (ρ x)) (.string b)])
      | h => qconv P h s d (ρ x)
    | .fieldAddr s x f => qfaddr P s (ρ x) f
    | .field s x f => qfield P s (ρ x) f
    | .indexAddr t x i => qiaddr P t (ρ x) (ρ i)
    | .extract x ix => qextract (ρ x) ix
    | .build t parts => (buildRes P t (parts.toList.map fun p => (p.1, ρ p.2))).map fun v => (v, [])
    | .slice t x lo hi none => qslice P t (ρ x) (lo.map ρ) (hi.map ρ)
    | .load t x => qload P S h t (ρ x)
    | .call c => qcall P ρ c
    | .nilCheck x => qnil (ρ x)
    | _ => none

theorem mapM_places {P : Program} (w : World) : ∀ fs : List Field, (fs.all fun f => (P.info? f.type).isSome) = true → (fs.mapM (fun f => (do pure (f.offset, ← sizeOf f.type) : Sem (Nat × Nat)))).run P w = .ok (fs.map fun f => (f.offset, P.cellsOf f.type)) w
  | [], _ => rfl
  | f :: fs, h => by
    simp only [List.all_cons, Bool.and_eq_true] at h
    obtain ⟨i, hi⟩ := Option.isSome_iff_exists.1 h.1
    have ih := mapM_places (P := P) w fs h.2
    have h1 : (do pure (f.offset, ← sizeOf f.type) : Sem (Nat × Nat)).run P w = .ok (f.offset, P.cellsOf f.type) w := by simp [sizeOf, typeInfo, hi, Program.cellsOf]
    rw [List.mapM_cons, Sem.run_bind, h1]
    simp only [Result.andThen_ok, Sem.run_bind, ih, Sem.run_pure, List.map_cons]

theorem run_part {P : Program} {t : TypeId} {cs : Array Value} {off : Nat} {v : Value} (h : qpart P t cs off = some v) (w : World) : (part t cs off).run P w = .ok v w := by
  unfold qpart at h
  cases hu : P.underlying t with
  | none => simp [hu] at h
  | some d =>
    simp only [hu] at h
    cases d <;> simp only at h <;> first
      | (simp [part, isAgg, run_underlying hu, h]; done)
      | (cases h; done)
      | (cases hi : P.info? t with
         | none => simp [hi] at h
         | some i => simp only [hi, Option.map_some, Option.some.injEq] at h; simp [part, isAgg, run_underlying hu, sizeOf, typeInfo, hi, h])

section
variable {P : Program} {S : World → Prop} {ρ : Operand → Value} {h : Hint} {v : Value} {cs : List Prop}
theorem one_c {p : Prop} (hh : ∀ c ∈ [p], c) : p := hh _ (by simp)
theorem run_slice_res {t e : TypeId} {A : Option Addr} {n c : Nat} {ti : TypeInfo} {lo hi : Option Value} {l r : Int} (ht : P.underlying t = some (.slice e)) (hi' : P.info? e = some ti)
    (hl : optInt 0 lo = some l) (hr : optInt n hi = some r) (h1 : 0 ≤ l) (h2 : l ≤ r) (h3 : r ≤ (c : Int)) (h4 : n ≤ c) (w : World) :
    (Instr.sliceAt t (.slice A n c) lo hi none).run P w = .ok (sliceRes A c ti.size l.toNat r.toNat) w := by
  have h0 : 0 ≤ r := by omega
  have h5 : l ≤ (r.toNat : Int) := by omega
  have sb : ∀ (k : IntKind) (i : Int) (y : Nat) (cd : BoundsCode), 0 ≤ i → i ≤ (y : Int) → (Instr.sliceBound (.int k i) y cd).run P w = .ok i.toNat w := by
    intro k i y cd h1 h2
    simp only [Instr.sliceBound, asIntOf, Sem.run_bind, Sem.run_pure, Result.andThen_ok]
    rw [if_pos ⟨h1, h2⟩]
    rfl
  have hb : (Instr.sliceBounds true n c lo hi none).run P w = .ok (l.toNat, r.toNat, c) w := by
    unfold Instr.sliceBounds
    cases lo with
    | none =>
      simp only [optInt, Option.some.injEq] at hl; subst hl
      cases hi with
      | none => simp only [optInt, Option.some.injEq] at hr; subst hr; simp
      | some v =>
        cases v <;> simp only [optInt] at hr <;> (try cases hr)
        simp [sb _ _ _ _ h0 h3]
    | some u =>
      cases u <;> simp only [optInt] at hl <;> (try cases hl)
      cases hi with
      | none =>
        simp only [optInt, Option.some.injEq] at hr; subst hr
        have := sb ‹_› l n .sliceB h1 h2
        simp [this]
      | some v =>
        cases v <;> simp only [optInt] at hr <;> (try cases hr)
        simp only [Sem.run_bind, Sem.run_pure, Result.andThen_ok, sb _ _ _ _ h0 h3, sb _ _ _ _ h1 h5, Option.isSome_none, Bool.false_eq_true, if_false]
  simp [Instr.sliceAt, run_underlying ht, Instr.slice, hb, sizeOf, typeInfo, hi', sliceRes]
theorem run_equal_bool {xt : TypeId} (hu : P.underlying xt = some .bool) (a b : Bool) (w : World) : (Op.equal xt (.bool a) (.bool b)).run P w = .ok (a == b) w := by
  have e : ∀ d, (Op.equalIn (d + 1) xt (.bool a) (.bool b)).run P w = .ok (a == b) w := by
    intro d
    simp only [Op.equalIn, Sem.run_bind, run_underlying hu, Result.andThen_ok, Sem.run_pure]
  exact e 9999
theorem qpick_sound {c a b : Operand} (hq : qpick ρ h c a b = some (v, cs)) (hc : ∀ c ∈ cs, c) (w : World) : (do pure (.value (if ← asBool (ρ c) then ρ a else ρ b)) : Sem Next).run P w = .ok (.value v) w := by
  unfold qpick at hq
  split at hq <;> cases hq
  · have h3 := one_c hc; simp_all [asBool]
  · have h3 := one_c hc; simp_all [asBool]
theorem qload_sound {t : TypeId} {x : Value} (hq : qload P S h t x = some (v, cs)) (hc : ∀ c ∈ cs, c) (w : World) (hS : S w) : (Instr.loadAt t x).run P w = .ok v w := by
  unfold qload at hq
  split at hq <;> cases hq
  have h3 := one_c hc
  simp [Instr.loadAt, Instr.sureAddr, h3 w hS]
theorem feqL_sound {P : Program} {e : Nat} {eq : TypeId → Value → Value → Option Bool} (heq : ∀ t x y r, eq t x y = some r → ∀ w, (Op.equalIn e t x y).run P w = .ok r w) {xs ys : Array Value} : ∀ (fs : List Field) (r : Bool), feqL P eq xs ys fs = some r → ∀ w, (Op.eqFields e xs ys fs).run P w = .ok r w
  | [], r, h, w => by cases h; rfl
  | f :: fs, r, h, w => by
    simp only [feqL] at h
    split at h
    · rename_i hn
      split at h
      · rename_i a b ha hb
        split at h
        · rename_i r1 s hr hs
          cases h
          have ih := feqL_sound heq fs s hs w
          simp only [Op.eqFields, if_pos hn, Sem.run_bind, run_part ha, run_part hb, Result.andThen_ok, heq _ _ _ _ hr]
          cases r1
          · rfl
          · simpa using ih
        · cases h
      · cases h
    · cases h
theorem feq_sound {P : Program} : ∀ (d j : Nat) (t : TypeId) (x y : Value) (r : Bool), feq P d t x y = some r → ∀ w, (Op.equalIn (d + j) t x y).run P w = .ok r w
  | 0, _, _, _, _, _, h, _ => by cases h
  | d + 1, j, t, x, y, r, h, w => by
    rw [show d + 1 + j = (d + j) + 1 by omega]
    simp only [feq] at h
    split at h
    · split at h
      · rename_i hk
        subst hk
        split at h
        · rename_i hu; cases h; exact run_equalIn_int w _ _ _ _ _ _ hu
        · cases h
      · cases h
    · split at h
      · rename_i hu; cases h; exact run_equalIn_bool w _ _ _ _ hu
      · cases h
    · rename_i xs ys
      split at h
      · rename_i fs hu
        split at h
        · cases h
        · rename_i hp
          have hf : P.fieldsOf t = fs := by simp only [Program.fieldsOf, hu]
          rw [run_equalIn_agg w _ _ _ _ (by rw [hf]; exact hu) (by simpa using hp), hf]
          exact feqL_sound (fun t x y r h w => feq_sound d j t x y r h w) fs.toList r h w
      · cases h
    · cases h
theorem qbin_sound {op : BinOp} {xt : TypeId} {x y : Operand} (hq : qbin P h op xt (ρ x) (ρ y) = some (v, cs)) (hc : ∀ c ∈ cs, c) (w : World) :
    (do eqGuard op xt x y (ρ x) (ρ y); binOp op xt (ρ x) (ρ y) : Sem Value).run P w = .ok v w := by
  unfold qbin at hq
  split at hq
  · rename_i k a k' b h1 h2
    have := qint_sound (P := P) (xt := xt) hq hc w
    have hg : (eqGuard op xt x y (.int k a) (.int k' b)).run P w = .ok () w := by unfold eqGuard; cases op <;> rfl
    simp [h1, h2, hg, this]
  · rename_i a b h1 h2
    split at hq <;> cases hq
    · rename_i hu
      have hg : (eqGuard .eql xt x y (.bool a) (.bool b)).run P w = .ok () w := by unfold eqGuard; rfl
      have hb : (binOp .eql xt (.bool a) (.bool b)).run P w = .ok (.bool (a == b)) w := by
        show (do pure (.bool (← Op.equal xt (.bool a) (.bool b))) : Sem Value).run P w = _
        rw [Sem.run_bind, run_equal_bool hu]; rfl
      rw [h1, h2, Sem.run_bind, hg, Result.andThen_ok, hb]
    · rename_i hu
      have hg : (eqGuard .neq xt x y (.bool a) (.bool b)).run P w = .ok () w := by unfold eqGuard; rfl
      have hb : (binOp .neq xt (.bool a) (.bool b)).run P w = .ok (.bool (!(a == b))) w := by
        show (do pure (.bool (!(← Op.equal xt (.bool a) (.bool b)))) : Sem Value).run P w = _
        rw [Sem.run_bind, run_equal_bool hu]; rfl
      rw [h1, h2, Sem.run_bind, hg, Result.andThen_ok, hb]
  · rename_i a b h1 h2
    have hg : (eqGuard op xt x y (.string a) (.string b)).run P w = .ok () w := by unfold eqGuard; cases op <;> rfl
    split at hq <;> cases hq
    · have h3 := one_c hc
      have h4 : ¬ ((a.size + b.size : Nat) : Int) > IntKind.i64.max := by
        have : IntKind.i64.max = 9223372036854775807 := by rfl
        omega
      have h5 : (Op.stringOp .add a b).run P w = .ok (.string (a ++ b)) w := by unfold Op.stringOp; simp only [h4, if_false]; rfl
      simp [h1, h2, hg, binOp, h5]
    · simp [h1, h2, hg, binOp, Op.stringOp]
    · simp [h1, h2, hg, binOp, Op.stringOp]
  · rename_i xs ys h1 h2
    split at hq
    · cases hq
    · rename_i hg0
      have hg := run_eqGuard_agg (P := P) w op xt x y xs ys (by simpa using hg0)
      split at hq
      · obtain ⟨r, hr, he⟩ := Option.map_eq_some_iff.1 hq
        cases he
        have := feq_sound 8 9992 xt (.agg xs) (.agg ys) r hr w
        simp only [h1, h2, Sem.run_bind, hg, Result.andThen_ok, run_eql_struct, this]
      · obtain ⟨r, hr, he⟩ := Option.map_eq_some_iff.1 hq
        cases he
        have := feq_sound 8 9992 xt (.agg xs) (.agg ys) r hr w
        simp only [h1, h2, Sem.run_bind, hg, Result.andThen_ok, run_neq_struct, this]
      · cases hq
  · cases hq
theorem qfaddr_sound {s : TypeId} {x : Value} {f : Nat} (hq : qfaddr P s x f = some (v, cs)) (w : World) : (Instr.fieldAt s x f).run P w = .ok v w := by
  unfold qfaddr at hq
  split at hq
  · rename_i fs b off hu
    cases hf : fs[f]? with
    | none => simp [hf] at hq
    | some fd =>
      simp only [hf] at hq
      cases hi : P.info? fd.type with
      | none => simp [hi] at hq
      | some i =>
        simp only [hi] at hq
        cases hz : Nat.beq i.size 0 with
        | true => simp [hz] at hq
        | false =>
          simp only [hz, cond_false, Option.some.injEq, Prod.mk.injEq] at hq
          obtain ⟨rfl, rfl⟩ := hq
          have hne : i.size ≠ 0 := fun e => by rw [e] at hz; cases hz
          have ha : (⟨b, off, none⟩ : Addr).add fd.offset = ⟨b, off + fd.offset, none⟩ := by unfold Addr.add; split <;> simp_all
          simp [Instr.fieldAt, run_underlying hu, hf, Instr.sureAddr, fieldPlace, sizeOf, typeInfo, hi, hne, ha]
  · cases hq
theorem qiaddr_sound {t : TypeId} {x i : Value} (hq : qiaddr P t x i = some (v, cs)) (hc : ∀ c ∈ cs, c) (w : World) : (Instr.indexAt t x i).run P w = .ok v w := by
  unfold qiaddr at hq
  split at hq
  · rename_i e b off n cap k i hu
    cases hi : P.info? e with
    | none => simp [hi] at hq
    | some ti =>
      simp only [hi, Option.some.injEq, Prod.mk.injEq] at hq
      obtain ⟨rfl, rfl⟩ := hq
      have h1 : 0 ≤ i := hc _ (by simp)
      have h2 : i < (n : Int) := hc (i < (n : Int)) (by simp)
      have ha : (⟨b, off, none⟩ : Addr).add (i.toNat * ti.size) = ⟨b, off + i.toNat * ti.size, none⟩ := by unfold Addr.add; split <;> simp_all
      simp [Instr.indexAt, asIntOf, run_underlying hu, h1, h2, sizeOf, typeInfo, hi, ha]
  · cases hq
theorem run_build_res {t : TypeId} {parts : List (Nat × Value)} (hq : buildRes P t parts = some v) (w : World) : (Instr.build t parts.toArray).run P w = .ok v w := by
  unfold buildRes at hq
  cases hu : P.underlying t with
  | none => simp [hu] at hq
  | some d =>
    cases hi : P.info? t with
    | none => cases d <;> simp [hu, hi] at hq
    | some i =>
      cases hz : i.zero with
      | none => cases d <;> simp [hu, hi, hz] at hq
      | some z =>
        cases d <;> simp only [hu, hi, hz, Option.bind_some] at hq <;> (try cases hq)
        rename_i fs
        cases ha : fs.all (fun f => (P.info? f.type).isSome) with
        | false => simp [ha] at hq
        | true =>
          simp only [ha, cond_true] at hq
          obtain ⟨cells, hf, rfl⟩ := Option.map_eq_some_iff.1 hq
          have hm := mapM_places (P := P) w fs.toList (by simpa using ha)
          have hm2 : (fs.mapM (fun f => (do pure (f.offset, ← sizeOf f.type) : Sem (Nat × Nat)))).run P w = .ok (fs.map fun f => (f.offset, P.cellsOf f.type)) w := by
            have : fs.mapM (fun f => (do pure (f.offset, ← sizeOf f.type) : Sem (Nat × Nat))) = (List.toArray <$> fs.toList.mapM (fun f => (do pure (f.offset, ← sizeOf f.type) : Sem (Nat × Nat)))) := by
              rw [Array.mapM_eq_mapM_toList]
            rw [this]
            show (Bind.bind _ _ : Sem _).run P w = _
            rw [Sem.run_bind, hm]
            simp only [Function.comp, Result.andThen_ok]
            have e2 : (List.map (fun f => (f.offset, P.cellsOf f.type)) fs.toList).toArray = fs.map fun f => (f.offset, P.cellsOf f.type) := by apply Array.ext'; simp
            rw [← e2]
            rfl
          have hz' : (zeroValue t).run P w = .ok z w := by simp [zeroValue, typeInfo, hi, hz]
          unfold Instr.build
          rw [Sem.run_bind, hz', Result.andThen_ok]
          simp only [Sem.run_bind, run_underlying hu, Result.andThen_ok]
          rw [hm2]
          simp only [Result.andThen_ok, List.toList_toArray]
          rw [hf]
          rfl
theorem qop_sound {o : Oper} (hq : qop P S ρ h o = some (v, cs)) (hc : ∀ c ∈ cs, c) : ∀ w, S w → (execOp ρ o).run P w = .ok (.value v) w := by
  intro w hS
  obtain ⟨dst, op, type, pos, after, guard⟩ := o
  unfold qop at hq
  split at hq
  · simp only [Option.some.injEq, Prod.mk.injEq] at hq
    obtain ⟨rfl, rfl⟩ := hq
    exact one_c hc w hS
  · cases hq
  · simp only at hq
    have val : ∀ {s : Sem Value}, s.run P w = .ok v w → (do pure (.value (← s)) : Sem Next).run P w = .ok (.value v) w := by
      intro s hs; rw [Sem.run_bind, hs]; rfl
    split at hq
    · cases hq; rfl
    · cases hq; rfl
    · exact qpick_sound hq hc w
    · exact val (qbin_sound hq hc w)
    · refine val ?_
      unfold qun at hq
      split at hq <;> cases hq
      · rename_i h1; simp [h1, Op.unary]
      · rename_i k a h1; have h3 : InK k (-a) := one_c hc; simp [h1, Op.unary, Op.intArith]; exact h3
    · refine val ?_
      split at hq
      · cases hq
        exact one_c hc w hS
      · unfold qconv at hq
        split at hq
        · rename_i k _ n h1 h2 h3
          split at hq <;> cases hq
          · have h4 := one_c hc
            simp [convert, run_underlying h1, run_underlying h2, h3, Conv.intToInt, h4]
          · have h4 : InK k n := one_c hc
            simp [convert, run_underlying h1, run_underlying h2, h3, Conv.intToInt]; exact h4
        · cases hq
    · exact val (qfaddr_sound hq w)
    · refine val ?_
      unfold qfield at hq
      split at hq
      · rename_i fs c h1 h2
        split at hq
        · rename_i fd hfd
          obtain ⟨u, hu, he⟩ := Option.map_eq_some_iff.1 hq
          cases he
          simp [Instr.field, run_underlying h1, hfd, h2, asAgg, run_part hu w]
        · cases hq
      · cases hq
    · exact val (qiaddr_sound hq hc w)
    · refine val ?_
      unfold qextract at hq
      split at hq
      · rename_i vs h1
        obtain ⟨u, hu, he⟩ := Option.map_eq_some_iff.1 hq
        cases he
        simp [Instr.extract, h1, hu]
      · cases hq
    · rename_i t parts
      obtain ⟨u, hu, he⟩ := Option.map_eq_some_iff.1 hq
      cases he
      refine val ?_
      have := run_build_res hu w
      have e : (parts.toList.map fun p => (p.1, ρ p.2)).toArray = parts.map fun (i, x) => (i, ρ x) := by apply Array.ext'; simp
      rw [e] at this
      exact this
    · refine val ?_
      unfold qslice at hq
      split at hq
      · rename_i e A n c h1 h2
        split at hq
        · rename_i ti l r h3 h4 h5
          cases hq
          have c1 := hc _ (List.mem_cons_self)
          have c2 := hc _ (List.mem_cons_of_mem _ List.mem_cons_self)
          have c3 := hc _ (List.mem_cons_of_mem _ (List.mem_cons_of_mem _ List.mem_cons_self))
          have c4 := hc _ (List.mem_cons_of_mem _ (List.mem_cons_of_mem _ (List.mem_cons_of_mem _ List.mem_cons_self)))
          rw [h2]
          exact run_slice_res h1 h3 h4 h5 c1 c2 c3 c4 w
        · cases hq
      · cases hq
    · refine val ?_
      exact qload_sound hq hc w hS
    · rename_i c
      unfold qcall at hq
      split at hq
      · rename_i x t h1 h2 h3
        have e2 : c.args = #[x] := by rw [← Array.toArray_toList (xs := c.args), h2]
        have e3 : c.argTypes = #[t] := by rw [← Array.toArray_toList (xs := c.argTypes), h3]
        unfold qlen at hq
        split at hq <;> cases hq
        · rename_i h4 h5
          simp [execOp, resolve, h1, e2, e3, invoke, builtin, Builtin.len_, run_underlying h4, h5, goInt]
        · rename_i h4 h5
          simp [execOp, resolve, h1, e2, e3, invoke, builtin, Builtin.len_, run_underlying h4, h5, goInt]
      · cases hq
    · rename_i x
      unfold qnil at hq
      split at hq <;> cases hq
      rename_i h1
      simp [execOp, h1]
    · cases hq
end
end Go.Proofs.Ytchkiohikhfecaa
