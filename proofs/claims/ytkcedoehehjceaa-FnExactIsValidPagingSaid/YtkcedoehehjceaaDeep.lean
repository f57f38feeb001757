/-
  Slices of structs that hold a slice of numbers (and, before it, perhaps one int): what they read as, what a call that made one owns.
-/
import Derived.Test.YtkcedoehehjceaaSlice
import Derived.Laws.BytesString
import Derived.Laws.Strings
import Derived.Deep.Slices
import Derived.Deep.Fields
namespace Go.Proofs.Ytkcedoehehjceaa
open Go.RowKit

/-- An element: the int before (0 where there is none), and where its slice of numbers lies, with the numbers. -/
structure It where
  s : Int
  A : Option Addr
  c : Nat
  zs : List Int
def It.val (y : It) : Value := .slice y.A y.zs.length y.c
def It.con (y : It) : Int × List Int := (y.s, y.zs)
/-- The element's cells: with the int before (true), or not. -/
def cel : Bool → It → List Value
  | false, y => [y.val]
  | true, y => [.int .i64 y.s, y.val]
def csz : Bool → Nat
  | false => 1
  | true => 2
def flat (p : Bool) (ys : List It) : List Value := ys.flatMap (cel p)
theorem cel_length (p : Bool) (y : It) : (cel p y).length = csz p := by cases p <;> rfl
theorem flat_length (p : Bool) (ys : List It) : (flat p ys).length = ys.length * csz p := by
  induction ys with
  | nil => simp [flat]
  | cons y l ih => simp only [flat, List.flatMap_cons, List.length_append, cel_length, List.length_cons, Nat.add_mul, Nat.one_mul] at *; omega
theorem flat_snoc (p : Bool) (ys : List It) (y : It) : flat p (ys ++ [y]) = flat p ys ++ cel p y := by simp [flat]
theorem flat_append (p : Bool) (ys zs : List It) : flat p (ys ++ zs) = flat p ys ++ flat p zs := by simp [flat]
theorem flat_drop (p : Bool) : ∀ (ys : List It) (k : Nat), (flat p ys).drop (k * csz p) = flat p (ys.drop k)
  | ys, 0 => by simp
  | [], k + 1 => by simp [flat]
  | y :: l, k + 1 => by
    have ih := flat_drop p l k
    simp only [flat, List.flatMap_cons, List.drop_succ_cons] at *
    rw [List.drop_append, cel_length, List.drop_of_length_le (by rw [cel_length, Nat.add_mul]; omega), List.nil_append]
    rw [show (k + 1) * csz p - csz p = k * csz p by rw [Nat.add_mul, Nat.one_mul]; omega]
    exact ih
theorem flat_take (p : Bool) : ∀ (ys : List It) (k : Nat), (flat p ys).take (k * csz p) = flat p (ys.take k)
  | ys, 0 => by simp [flat]
  | [], k + 1 => by simp [flat]
  | y :: l, k + 1 => by
    have ih := flat_take p l k
    simp only [flat, List.flatMap_cons, List.take_succ_cons] at *
    rw [List.take_append, cel_length, List.take_of_length_le (by rw [cel_length, Nat.add_mul]; omega)]
    rw [show (k + 1) * csz p - csz p = k * csz p by rw [Nat.add_mul, Nat.one_mul]; omega]
    rw [ih]
theorem flat_at {p : Bool} {ys : List It} {k j : Nat} {y : It} {u : Value} (h : ys[k]? = some y) (hu : (cel p y)[j]? = some u) : (flat p ys)[k * csz p + j]? = some u := by
  have h1 : (flat p ys)[k * csz p + j]? = ((flat p ys).drop (k * csz p))[j]? := by rw [List.getElem?_drop]
  rw [h1, flat_drop]
  obtain ⟨hk, rfl⟩ := List.getElem?_eq_some_iff.1 h
  rw [List.drop_eq_getElem_cons hk]
  simp only [flat, List.flatMap_cons]
  rw [List.getElem?_append_left (by exact (List.getElem?_eq_some_iff.1 hu).1)]
  exact hu
theorem flat_val {p : Bool} {ys : List It} {k : Nat} {y : It} (h : ys[k]? = some y) : (flat p ys)[k * csz p + (csz p - 1)]? = some y.val := flat_at h (by cases p <;> rfl)
theorem flat_one (p : Bool) (ys : List It) : (flat p ys).all (·.oneCell') = true := by
  rw [List.all_eq_true]
  intro u hu
  obtain ⟨y, _, hy⟩ := List.mem_flatMap.1 hu
  cases p <;> simp only [cel, List.mem_cons, List.not_mem_nil, or_false] at hy
  · subst hy; rfl
  · rcases hy with rfl | rfl <;> rfl
/-- What is asked of the numbers of a kind. -/
def okz (κ : IntKind) (zs : List Int) : Prop := ∀ z ∈ zs, InK κ z
/-- A slice of such elements that reads. -/
structure RdI (κ : IntKind) (p : Bool) (w : World) (B : Nat) (A : Option Addr) (n : Nat) (ys : List It) : Prop where
  len : ys.length = n
  sp : Rd w B A (n * csz p) (flat p ys)
  el : ∀ y ∈ ys, Rd w B y.A y.zs.length (y.zs.map (Value.int κ)) ∧ y.zs.length ≤ y.c ∧ y.c ≤ maxLen
section
variable {κ : IntKind} {p : Bool} {w w' w0 : World} {B B' n : Nat} {A : Option Addr} {ys : List It} {own : List Res}
theorem RdI.below (h : RdI κ p w B A n ys) (hb : Below B w w') : RdI κ p w' B A n ys := ⟨h.len, h.sp.below hb, fun y hy => ⟨(h.el y hy).1.below hb, (h.el y hy).2⟩⟩
theorem RdI.more (h : RdI κ p w B A n ys) (hB : B ≤ B') : RdI κ p w B' A n ys := ⟨h.len, h.sp.more hB, fun y hy => ⟨(h.el y hy).1.more hB, (h.el y hy).2⟩⟩
theorem St.rdilow (h : St w0 w own) (hr : RdI κ p w0 w0.heap.size A n ys) : RdI κ p w w.heap.size A n ys := (hr.below h.bel).more h.size
theorem RdI.nil : RdI κ p w B A 0 [] := ⟨rfl, by simpa [flat] using (Rd.nil_ : Rd w B A 0 []), fun y hy => by simp at hy⟩
/-- The row of an element's numbers. -/
def It.row (κ : IntKind) (tb : TypeId) (y : It) : Res := .row y.val tb 1 y.zs.length (y.zs.map (Value.int κ))
theorem St.rdi {c t tb : Nat} (h : St w0 w own) (hm : Res.row (.slice A n c) t (csz p) n (flat p ys) ∈ own) (hs : ∀ y ∈ ys, y.row κ tb ∈ own) (hl : ys.length = n) : RdI κ p w w.heap.size A n ys :=
  ⟨hl, h.rd hm, fun y hy => by
    have h1 := hs y hy
    obtain ⟨_, A', c', hv, h2, h3⟩ := h.row_slice h1
    have h4 : Res.row (.slice y.A y.zs.length y.c) tb 1 y.zs.length (y.zs.map (Value.int κ)) ∈ own := h1
    injection hv with _ _ hc
    subst hc
    exact ⟨(h.rd h4).u1, h2, h3⟩⟩
/-- What was made behind goes to the end. -/
theorem St.rot (Y E M : List Res) (h : St w0 w (Y ++ (E ++ M))) : St w0 w (E ++ (Y ++ M)) := by
  refine h.perm ?_
  rw [← List.append_assoc, ← List.append_assoc]
  exact (List.perm_append_comm).append_right M
theorem St.pick (E G M : List Res) {r : Res} (h : St w0 w (r :: (E ++ (G ++ M)))) : St w0 w (E ++ ((G ++ [r]) ++ M)) := by
  refine h.perm ?_
  have h1 : (r :: (E ++ (G ++ M))).Perm (E ++ (r :: (G ++ M))) := List.perm_middle.symm
  refine h1.trans (List.Perm.append_left E ?_)
  have h2 : (r :: (G ++ M)).Perm (G ++ (r :: M)) := List.perm_middle.symm
  refine h2.trans ?_
  simp
theorem St.unpick (E G M : List Res) {r : Res} (h : St w0 w (E ++ ((r :: G) ++ M))) : St w0 w (r :: (E ++ (G ++ M))) := by
  refine h.perm ?_
  exact List.perm_middle
theorem St.rot1 {r : Res} (Y E M : List Res) (h : St w0 w ((r :: Y) ++ (E ++ M))) : St w0 w ((r :: E) ++ (Y ++ M)) := by
  refine h.perm (List.Perm.cons r ?_)
  show (Y ++ (E ++ M)).Perm (E ++ (Y ++ M))
  rw [← List.append_assoc, ← List.append_assoc]
  exact (List.perm_append_comm).append_right M
end
/-- What a call hands back that owns a slice of such elements, deep. -/
def OwnI (κ : IntKind) (p : Bool) (t tb : TypeId) (n : Nat) (L : List (Int × List Int)) (v : Value) (new : List Res) : Prop :=
  ∃ (A : Option Addr) (c : Nat) (ys : List It), v = .slice A n c ∧ new = .row (.slice A n c) t (csz p) n (flat p ys) :: ys.map (It.row κ tb) ∧ ys.map It.con = L
/-- What a call hands back that owns a slice of numbers. -/
def OwnZ (κ : IntKind) (tb : TypeId) (zs : List Int) (v : Value) (new : List Res) : Prop :=
  ∃ (A : Option Addr) (c : Nat), v = .slice A zs.length c ∧ new = [.row (.slice A zs.length c) tb 1 zs.length (zs.map (Value.int κ))]
def okL (κ : IntKind) (L : List (Int × List Int)) : Prop := ∀ q ∈ L, okz κ q.2
theorem okL.el {κ : IntKind} {ys : List It} (h : okL κ (ys.map It.con)) {y : It} (hy : y ∈ ys) : okz κ y.zs := h y.con (List.mem_map_of_mem hy)
theorem con_take {ys zs : List It} {k : Nat} {y y' : It} (h : zs.map It.con = (ys.take k).map It.con) (hk : ys[k]? = some y) (hy : y'.con = y.con) : (zs ++ [y']).map It.con = (ys.take (k + 1)).map It.con := by
  rw [take_get hk, List.map_append, List.map_append, h, List.map_cons, List.map_cons, hy]
theorem con_len {zs : List It} {L : List (Int × List Int)} (h : zs.map It.con = L) : zs.length = L.length := by rw [← h, List.length_map]
theorem con_lenk {ys zs : List It} {k n : Nat} (h : zs.map It.con = (ys.take k).map It.con) (hn : ys.length = n) (hk : k ≤ n) : zs.length = k := by
  have := con_len h
  rw [List.length_map, List.length_take] at this
  omega
theorem deep_fill {p : Bool} {ys : List It} {y : It} {rest : List Value} {k : Nat} (hl : ys.length = k) (o : Nat) (ho : o = k * csz p) (vs : List Value) (hv : vs = cel p y) :
    (flat p ys ++ rest).take o ++ vs ++ (flat p ys ++ rest).drop (o + vs.length) = flat p (ys ++ [y]) ++ rest.drop (csz p) := by
  subst ho; subst hv
  have h1 : (flat p ys).length = k * csz p := by rw [flat_length, hl]
  rw [List.take_append_of_le_length (by omega), List.take_of_length_le (by omega), flat_snoc, List.append_assoc, List.append_assoc]
  congr 2
  rw [List.drop_append, List.drop_of_length_le (by omega), List.nil_append, h1, cel_length]
  congr 1
  omega
/-- The string of some bytes. -/
def bstr (zs : List Int) : ByteArray := ⟨(zs.map fun z => UInt8.ofNat z.toNat).toArray⟩
theorem okz8 {zs : List Int} (h : okz .u8 zs) : ∀ z ∈ zs, 0 ≤ z ∧ z ≤ 255 := by
  intro z hz
  have := h z hz
  unfold InK at this
  rw [IntKind.wrap_u8] at this
  omega
theorem bstr_toList (zs : List Int) : (bstr zs).toList = zs.map fun z => UInt8.ofNat z.toNat := ByteArray.toList_mk _
theorem bstr_eq {xs ys : List Int} (hx : okz .u8 xs) (hy : okz .u8 ys) : ((bstr xs).toList == (bstr ys).toList) = decide (xs = ys) := by
  have inj : ∀ {a b : Int}, 0 ≤ a ∧ a ≤ 255 → 0 ≤ b ∧ b ≤ 255 → UInt8.ofNat a.toNat = UInt8.ofNat b.toNat → a = b := by
    intro a b ha hb h
    have h1 := congrArg UInt8.toNat h
    simp only [UInt8.toNat_ofNat'] at h1
    omega
  rw [bstr_toList, bstr_toList, Bool.eq_iff_iff, beq_iff_eq, decide_eq_true_eq]
  constructor
  · intro h
    have h1 := okz8 hx
    have h2 := okz8 hy
    clear hx hy
    induction xs generalizing ys with
    | nil => cases ys with
      | nil => rfl
      | cons y l => simp at h
    | cons x l ih => cases ys with
      | nil => simp at h
      | cons y m =>
        simp only [List.map_cons, List.cons.injEq] at h
        rw [inj (h1 x (by simp)) (h2 y (by simp)) h.1, ih h.2 (fun z hz => h1 z (by simp [hz])) (fun z hz => h2 z (by simp [hz]))]
  · intro h; rw [h]
theorem fold_push (zs : List Int) : ∀ b : ByteArray, zs.foldl (fun r n => r.push (UInt8.ofNat n.toNat)) b = ⟨(b.data.toList ++ zs.map fun z => UInt8.ofNat z.toNat).toArray⟩ := by
  induction zs with
  | nil => intro b; simp
  | cons z l ih => intro b; rw [List.foldl_cons, ih]; simp [ByteArray.push]
theorem run_bstr {P : Program} {w : World} {B n c : Nat} {A : Option Addr} {zs : List Int} (h : Rd w B A n (zs.map (Value.int .u8))) : (Conv.bytesToString (.slice A n c)).run P w = .ok (.string (bstr zs)) w := by
  have hl := h.len
  rcases Nat.eq_zero_or_pos n with h0 | h0
  · subst h0
    obtain rfl : zs = [] := List.eq_nil_of_length_eq_zero hl
    cases A with
    | none => rfl
    | some a => simp [Conv.bytesToString, loadCells, loadCellsFrom, bstr]; rfl
  · obtain ⟨b, off, rfl, _, hc⟩ := h.2 h0
    have hld := run_loadCells_list (P := P) w ⟨b, off, none⟩ (zs.map (Value.int .u8)) (fun j v hj => by rw [add_flat]; exact hc j v hj)
    rw [run_bytesToString w ⟨b, off, none⟩ n c zs (by simpa [hl] using hld), fold_push]
    rfl
/-- '[]byte' to string, as an operation. -/
theorem conv_bstr {P : Program} {S : World → Prop} {ρ : Operand → Value} {o : Oper} {src dst e : TypeId} {x : Operand} {A : Option Addr} {n c : Nat} {zs : List Int} (ho : o.op = .convert src dst x) (hs : P.underlying src = some (.slice e)) (he : P.underlying e = some (.int .u8)) (hd : P.underlying dst = some .string)
    (hx : ρ x = .slice A n c) (h : ∀ w, S w → ∃ B, Rd w B A n (zs.map (Value.int .u8))) : ∀ w, S w → (execOp ρ o).run P w = .ok (.value (.string (bstr zs))) w := by
  intro w hS
  obtain ⟨B, hr⟩ := h w hS
  obtain ⟨dst', op, ty, pos, af, gd⟩ := o
  simp only at ho; subst ho
  have h1 : (convert src dst (.slice A n c)).run P w = .ok (.string (bstr zs)) w := by
    unfold convert
    simp only [Sem.run_bind, run_underlying hs, run_underlying hd, Result.andThen_ok, run_underlying he]
    exact run_bstr hr
  simp only [execOp, hx, Sem.run_bind, h1, Result.andThen_ok, Sem.run_pure]
/-- An element that came in. -/
def IsEl (κ : IntKind) (w : World) (B : Nat) (y : It) : Prop := I64 y.s ∧ IsSl κ w B y.A y.zs.length y.c y.zs
/-- A slice of such elements that came in. -/
def IsIt (κ : IntKind) (p : Bool) (w : World) (B : Nat) (A : Option Addr) (n c : Nat) (ys : List It) : Prop := n ≤ c ∧ c ≤ maxLen ∧ RdI κ p w B A n ys ∧ ∀ y ∈ ys, IsEl κ w B y
theorem el_false {κ : IntKind} {w : World} {B : Nat} {cs : List Value} (h : ∃ (A : Option Addr) (n c : Nat) (z : List Int), cs = [.slice A n c] ∧ IsSl κ w B A n c z) : ∃ y : It, cs = cel false y ∧ IsEl κ w B y := by
  obtain ⟨A, n, c, z, rfl, h⟩ := h
  have hl : n = z.length := by have := h.2.2.1.1; rw [List.length_map] at this; exact this.symm
  subst hl
  exact ⟨⟨0, A, c, z⟩, rfl, by show I64 0; unfold I64; omega, h⟩
theorem el_true {κ : IntKind} {w : World} {B : Nat} {cs : List Value} (h : ∃ (s : Int) (A : Option Addr) (n c : Nat) (z : List Int), cs = [.int .i64 s, .slice A n c] ∧ I64 s ∧ IsSl κ w B A n c z) : ∃ y : It, cs = cel true y ∧ IsEl κ w B y := by
  obtain ⟨s, A, n, c, z, rfl, hs, h⟩ := h
  have hl : n = z.length := by have := h.2.2.1.1; rw [List.length_map] at this; exact this.symm
  subst hl
  exact ⟨⟨s, A, c, z⟩, rfl, hs, h⟩
open Go.ChangeShapes Go.WideShapes Go.Deep in
theorem its_of {H : Type} {enc : TypeId × Value → H} {P : Program} {w : World} {base : Nat} {spare : Nat → Bool} {held : Bool} {κ : IntKind} {p : Bool} {t e : TypeId} {fuel : Nat} {cs : List Value} {x : DataW H × List MemPlace}
    (ht : P.underlying t = some (.slice e)) (hc : P.cellsOf e = csz p) (h : DataW.trod enc P w base spare held fuel t cs = some x)
    (hel : ∀ n cs' x', DataW.trod enc P w base spare held n e cs' = some x' → ∃ y : It, cs' = cel p y ∧ IsEl κ w w.heap.size y) :
    ∃ (A : Option Addr) (n c : Nat) (ys : List It), cs = [.slice A n c] ∧ IsIt κ p w w.heap.size A n c ys := by
  rcases open_slice ht h with ⟨rfl, _⟩ | ⟨a, len, cap, m, n, D, Pl, rfl, hb, hl, hm, hmm, hx, hi⟩
  · exact ⟨none, 0, 0, [], rfl, Nat.le_refl _, Nat.zero_le _, RdI.nil, fun y hy => by simp at hy⟩
  have hlm : len ≤ m := by rw [hmm]; split <;> omega
  rw [hc] at hi
  obtain ⟨f, hf⟩ := @choose_lt It ⟨⟨0, none, 0, []⟩⟩ len (fun i y => w.cells? base (a.add (i * csz p)) (csz p) = some (cel p y) ∧ IsEl κ w w.heap.size y) (fun i hil => by
    obtain ⟨cs', h1, h2⟩ := hi i (by omega)
    obtain ⟨y, rfl, hy⟩ := hel _ _ _ h2
    exact ⟨y, h1, hy⟩)
  have hlen : ((List.range len).map f).length = len := by simp
  have hfl : (flat p ((List.range len).map f)).length = len * csz p := by rw [flat_length, hlen]
  have hpos : 0 < csz p := by cases p <;> decide
  have hcell : ∀ j, j < len * csz p → w.cell? (a.add j) = some ((flat p ((List.range len).map f)).getD j undef) := by
    intro j hj
    have hk : j / csz p < len := Nat.div_lt_of_lt_mul (by rw [Nat.mul_comm]; exact hj)
    have hr : j % csz p < csz p := Nat.mod_lt _ hpos
    obtain ⟨h1, _⟩ := hf _ hk
    obtain ⟨_, h2, h3⟩ := World.cells?_some h1
    have h4 := h3 _ hr
    rw [Go.Deep.add_add, show j / csz p * csz p + j % csz p = j by rw [Nat.mul_comm]; exact Nat.div_add_mod _ _] at h4
    have hu : (cel p (f (j / csz p)))[j % csz p]? = some ((cel p (f (j / csz p)))[j % csz p]'(by rw [cel_length]; exact hr)) := List.getElem?_eq_getElem _
    have h5 := flat_at (p := p) (ys := (List.range len).map f) (k := j / csz p) (y := f (j / csz p)) (by simp [hk]) hu
    rw [show j / csz p * csz p + j % csz p = j by rw [Nat.mul_comm]; exact Nat.div_add_mod _ _] at h5
    rw [h4, hu, List.getD, h5]
    rfl
  refine ⟨some a, len, cap, (List.range len).map f, rfl, hl, hm, ⟨hlen, ⟨hfl, fun hn => ?_⟩, ?_⟩, ?_⟩
  · obtain ⟨b, off, rfl, hbb, hcc⟩ := ints_at' hcell hn
    refine ⟨b, off, rfl, hbb, fun j u hu => ?_⟩
    have hj := (List.getElem?_eq_some_iff.1 hu).1
    rw [hfl] at hj
    rw [hcc j hj, List.getD, hu]
    rfl
  · intro y hy
    obtain ⟨i, hi1, rfl⟩ := List.mem_map.1 hy
    obtain ⟨_, _, h3⟩ := hf i (by simpa using hi1)
    exact ⟨h3.2.2.1, h3.1, h3.2.1⟩
  · intro y hy
    obtain ⟨i, hi1, rfl⟩ := List.mem_map.1 hy
    exact (hf i (by simpa using hi1)).2
end Go.Proofs.Ytkcedoehehjceaa
