/-
  Slices of structs that hold a slice of numbers (and, before it, perhaps one int): what they read as, what a call that made one owns.
-/
import Derived.Test.YtchkiohikhfecaaSlice
import Derived.Laws.BytesString
import Derived.Laws.Strings
import Derived.Deep.Slices
import Derived.Deep.Fields
namespace Go.Proofs.Ytchkiohikhfecaa
open Go.RowKit

/-- An element: the int before (0 where there is none), and where its slice of numbers lies, with the numbers. -/
structure It where
  s : Int
  A : Option Addr
  c : Nat
  zs : List Int
def It.val (y : It) : Value := .slice y.A y.zs.length y.c
/-- The element's cells: with the int before (true), or not. -/
def cel : Bool → It → List Value
  | false, y => [y.val]
  | true, y => [.int .i64 y.s, y.val]
/-- What an element holds. -/
def con (p : Bool) (y : It) : Int × List Int := (bif p then y.s else 0, y.zs)
def csz : Bool → Nat
  | false => 1
  | true => 2
def flat (p : Bool) (ys : List It) : List Value := ys.flatMap (cel p)
theorem cel_length (p : Bool) (y : It) : (cel p y).length = csz p := by cases p <;> rfl
theorem flat_length (p : Bool) (ys : List It) : (flat p ys).length = ys.length * csz p := by
  induction ys with
  | nil => simp [flat]
  | cons y l ih => simp only [flat, List.flatMap_cons, List.length_append, cel_length, List.length_cons, Nat.add_mul, Nat.one_mul] at *; omega
theorem flat_snoc (p : Bool) (ys : List It) (y : It) : flat p (ys ++ [y]) = flat p ys ++ cel p y := by simp [flat]
theorem flat_append (p : Bool) (ys zs : List It) : flat p (ys ++ zs) = flat p ys ++ flat p zs := by simp [flat]
theorem flat_drop (p : Bool) : ∀ (ys : List It) (k : Nat), (flat p ys).drop (k * csz p) = flat p (ys.drop k)
  | ys, 0 => by simp
  | [], k + 1 => by simp [flat]
  | y :: l, k + 1 => by
    have ih := flat_drop p l k
    simp only [flat, List.flatMap_cons, List.drop_succ_cons] at *
    rw [List.drop_append, cel_length, List.drop_of_length_le (by rw [cel_length, Nat.add_mul]; omega), List.nil_append]
    rw [show (k + 1) * csz p - csz p = k * csz p by rw [Nat.add_mul, Nat.one_mul]; omega]
    exact ih
theorem flat_take (p : Bool) : ∀ (ys : List It) (k : Nat), (flat p ys).take (k * csz p) = flat p (ys.take k)
  | ys, 0 => by simp [flat]
  | [], k + 1 => by simp [flat]
  | y :: l, k + 1 => by
    have ih := flat_take p l k
    simp only [flat, List.flatMap_cons, List.take_succ_cons] at *
    rw [List.take_append, cel_length, List.take_of_length_le (by rw [cel_length, Nat.add_mul]; omega)]
    rw [show (k + 1) * csz p - csz p = k * csz p by rw [Nat.add_mul, Nat.one_mul]; omega]
    rw [ih]
theorem flat_at {p : Bool} {ys : List It} {k j : Nat} {y : It} {u : Value} (h : ys[k]? = some y) (hu : (cel p y)[j]? = some u) : (flat p ys)[k * csz p + j]? = some u := by
  have h1 : (flat p ys)[k * csz p + j]? = ((flat p ys).drop (k * csz p))[j]? := by rw [List.getElem?_drop]
  rw [h1, flat_drop]
  obtain ⟨hk, rfl⟩ := List.getElem?_eq_some_iff.1 h
  rw [List.drop_eq_getElem_cons hk]
  simp only [flat, List.flatMap_cons]
  rw [List.getElem?_append_left (by exact (List.getElem?_eq_some_iff.1 hu).1)]
  exact hu
theorem flat_val {p : Bool} {ys : List It} {k : Nat} {y : It} (h : ys[k]? = some y) : (flat p ys)[k * csz p + (csz p - 1)]? = some y.val := flat_at h (by cases p <;> rfl)
theorem flat_one (p : Bool) (ys : List It) : (flat p ys).all (·.oneCell') = true := by
  rw [List.all_eq_true]
  intro u hu
  obtain ⟨y, _, hy⟩ := List.mem_flatMap.1 hu
  cases p <;> simp only [cel, List.mem_cons, List.not_mem_nil, or_false] at hy
  · subst hy; rfl
  · rcases hy with rfl | rfl <;> rfl
/-- What is asked of the numbers of a kind. -/
def okz (κ : IntKind) (zs : List Int) : Prop := ∀ z ∈ zs, (Lit.int κ z).wf = true
/-- A slice of such elements that reads. -/
structure RdI (κ : IntKind) (p : Bool) (w : World) (B : Nat) (A : Option Addr) (n : Nat) (ys : List It) : Prop where
  len : ys.length = n
  sp : Rd w B A (n * csz p) (flat p ys)
  el : ∀ y ∈ ys, Rd w B y.A y.zs.length (y.zs.map (Value.int κ)) ∧ y.zs.length ≤ y.c ∧ y.c ≤ maxLen
/-- An element that came in. -/
def IsEl (κ : IntKind) (w : World) (B : Nat) (y : It) : Prop := I64 y.s ∧ IsSl κ w B y.A y.zs.length y.c y.zs
/-- A slice of such elements that came in. -/
def IsIt (κ : IntKind) (p : Bool) (w : World) (B : Nat) (A : Option Addr) (n c : Nat) (ys : List It) : Prop := n ≤ c ∧ c ≤ maxLen ∧ RdI κ p w B A n ys ∧ ∀ y ∈ ys, IsEl κ w B y
section
variable {κ : IntKind} {p : Bool} {w w' w0 : World} {B B' n : Nat} {A : Option Addr} {ys : List It} {own : List Res}
theorem RdI.below (h : RdI κ p w B A n ys) (hb : Below B w w') : RdI κ p w' B A n ys := ⟨h.len, h.sp.below hb, fun y hy => ⟨(h.el y hy).1.below hb, (h.el y hy).2⟩⟩
theorem RdI.more (h : RdI κ p w B A n ys) (hB : B ≤ B') : RdI κ p w B' A n ys := ⟨h.len, h.sp.more hB, fun y hy => ⟨(h.el y hy).1.more hB, (h.el y hy).2⟩⟩
theorem St.rdilow (h : St w0 w own) (hr : RdI κ p w0 w0.heap.size A n ys) : RdI κ p w w.heap.size A n ys := (hr.below h.bel).more h.size
theorem RdI.nil : RdI κ p w B A 0 [] := ⟨rfl, by simpa [flat] using (Rd.nil_ : Rd w B A 0 []), fun y hy => by simp at hy⟩
/-- The row of an element's numbers. -/
def It.row (κ : IntKind) (tb : TypeId) (y : It) : Res := .row y.val tb 1 y.zs.length (y.zs.map (Value.int κ))
theorem St.rdi {c t tb : Nat} (h : St w0 w own) (hm : Res.row (.slice A n c) t (csz p) n (flat p ys) ∈ own) (hs : ∀ y ∈ ys, y.row κ tb ∈ own) (hl : ys.length = n) : RdI κ p w w.heap.size A n ys :=
  ⟨hl, h.rd hm, fun y hy => by
    have h1 := hs y hy
    obtain ⟨_, A', c', hv, h2, h3⟩ := h.row_slice h1
    have h4 : Res.row (.slice y.A y.zs.length y.c) tb 1 y.zs.length (y.zs.map (Value.int κ)) ∈ own := h1
    injection hv with _ _ hc
    subst hc
    exact ⟨(h.rd h4).u1, h2, h3⟩⟩
/-- What was made behind goes to the end. -/
theorem St.rot (Y E M : List Res) (h : St w0 w (Y ++ (E ++ M))) : St w0 w (E ++ (Y ++ M)) := by
  refine h.perm ?_
  rw [← List.append_assoc, ← List.append_assoc]
  exact (List.perm_append_comm).append_right M
theorem St.pick (E G M : List Res) {r : Res} (h : St w0 w (r :: (E ++ (G ++ M)))) : St w0 w (E ++ ((G ++ [r]) ++ M)) := by
  refine h.perm ?_
  have h1 : (r :: (E ++ (G ++ M))).Perm (E ++ (r :: (G ++ M))) := List.perm_middle.symm
  refine h1.trans (List.Perm.append_left E ?_)
  have h2 : (r :: (G ++ M)).Perm (G ++ (r :: M)) := List.perm_middle.symm
  refine h2.trans ?_
  simp
theorem St.unpick (E G M : List Res) {r : Res} (h : St w0 w (E ++ ((r :: G) ++ M))) : St w0 w (r :: (E ++ (G ++ M))) := by
  refine h.perm ?_
  exact List.perm_middle
theorem St.rot1 {r : Res} (Y E M : List Res) (h : St w0 w ((r :: Y) ++ (E ++ M))) : St w0 w ((r :: E) ++ (Y ++ M)) := by
  refine h.perm (List.Perm.cons r ?_)
  show (Y ++ (E ++ M)).Perm (E ++ (Y ++ M))
  rw [← List.append_assoc, ← List.append_assoc]
  exact (List.perm_append_comm).append_right M
/-- Many things at the end, apart. -/
theorem St.rotn (F G E M : List Res) (h : St w0 w ((F ++ G) ++ (E ++ M))) : St w0 w ((F ++ E) ++ (G ++ M)) := by
  refine h.perm ?_
  rw [List.append_assoc, List.append_assoc]
  refine List.Perm.append_left F ?_
  rw [← List.append_assoc, ← List.append_assoc]
  exact (List.perm_append_comm).append_right M
end
/-- How much a list of contents holds. -/
def wt : List (Int × List Int) → Nat
  | [] => 0
  | q :: l => q.2.length + 1 + wt l
theorem wt_append (L M : List (Int × List Int)) : wt (L ++ M) = wt L + wt M := by
  induction L with
  | nil => simp [wt]
  | cons q l ih => simp only [List.cons_append, wt, ih]; omega
theorem wt_len (L : List (Int × List Int)) : L.length ≤ wt L := by
  induction L with
  | nil => simp [wt]
  | cons q l ih => simp only [List.length_cons, wt]; omega
theorem wt_mem {L : List (Int × List Int)} {q : Int × List Int} (h : q ∈ L) : q.2.length + 1 ≤ wt L := by
  induction L with
  | nil => simp at h
  | cons x l ih =>
    rcases List.mem_cons.1 h with rfl | h
    · simp only [wt]; omega
    · have := ih h; simp only [wt]; omega
theorem wt_take (L : List (Int × List Int)) (k : Nat) : wt (L.take k) + wt (L.drop k) = wt L := by rw [← wt_append, List.take_append_drop]
def okL (κ : IntKind) (L : List (Int × List Int)) : Prop := ∀ q ∈ L, I64 q.1 ∧ okz κ q.2
theorem okL.nil {κ : IntKind} : okL κ [] := fun q h => by simp at h
theorem okL.one {κ : IntKind} {s : Int} {zs : List Int} (h : I64 s) (hz : okz κ zs) : okL κ [(s, zs)] := fun q hq => by rw [List.mem_singleton] at hq; subst hq; exact ⟨h, hz⟩
theorem okL.append {κ : IntKind} {L M : List (Int × List Int)} (h : okL κ L) (h2 : okL κ M) : okL κ (L ++ M) := fun q hq => (List.mem_append.1 hq).elim (h q) (h2 q)
theorem okL.take {κ : IntKind} {L : List (Int × List Int)} (h : okL κ L) (k : Nat) : okL κ (L.take k) := fun q hq => h q (List.mem_of_mem_take hq)
theorem okL.drop {κ : IntKind} {L : List (Int × List Int)} (h : okL κ L) (k : Nat) : okL κ (L.drop k) := fun q hq => h q (List.mem_of_mem_drop hq)
/-- A slice of such elements that holds L. -/
structure RdL (κ : IntKind) (p : Bool) (w : World) (B : Nat) (A : Option Addr) (n : Nat) (L : List (Int × List Int)) : Prop where
  ok : okL κ L
  ex : ∃ ys, RdI κ p w B A n ys ∧ ys.map (con p) = L
section
variable {κ : IntKind} {p : Bool} {w w' w0 : World} {B B' n : Nat} {A : Option Addr} {ys : List It} {own : List Res} {L : List (Int × List Int)}
theorem RdL.len (h : RdL κ p w B A n L) : L.length = n := by
  obtain ⟨_, ys, h1, rfl⟩ := h
  rw [List.length_map]; exact h1.len
theorem RdL.below (h : RdL κ p w B A n L) (hb : Below B w w') : RdL κ p w' B A n L := ⟨h.ok, by obtain ⟨ys, h1, h2⟩ := h.ex; exact ⟨ys, h1.below hb, h2⟩⟩
theorem RdL.more (h : RdL κ p w B A n L) (hB : B ≤ B') : RdL κ p w B' A n L := ⟨h.ok, by obtain ⟨ys, h1, h2⟩ := h.ex; exact ⟨ys, h1.more hB, h2⟩⟩
theorem St.rdllow (h : St w0 w own) (hr : RdL κ p w0 w0.heap.size A n L) : RdL κ p w w.heap.size A n L := (hr.below h.bel).more h.size
theorem St.rdl {c t tb : Nat} (h : St w0 w own) (hm : Res.row (.slice A n c) t (csz p) n (flat p ys) ∈ own) (hs : ∀ y ∈ ys, y.row κ tb ∈ own) (hc : ys.map (con p) = L) (ho : okL κ L) (hn : L.length = n) : RdL κ p w w.heap.size A n L :=
  ⟨ho, ys, h.rdi hm hs (by rw [← hn, ← hc, List.length_map]), hc⟩
theorem RdL.of_is {c : Nat} (h : IsIt κ p w B A n c ys) : RdL κ p w B A n (ys.map (con p)) := by
  refine ⟨fun q hq => ?_, ys, h.2.2.1, rfl⟩
  obtain ⟨y, hy, rfl⟩ := List.mem_map.1 hq
  obtain ⟨h1, h2⟩ := h.2.2.2 y hy
  refine ⟨by cases p <;> first | exact h1 | (show I64 0; unfold I64; omega), fun z hz => h2.2.2.2 z hz⟩
/-- An element at a place. -/
theorem RdI.at (h : RdI κ p w B A n ys) {k : Nat} (hk : k < n) : ∃ b off, A = some ⟨b, off, none⟩ ∧ b < B ∧ ∀ j u, (flat p ys)[j]? = some u → w.cell? ⟨b, off + j, none⟩ = some u :=
  h.sp.2 (by have : 0 < csz p := by cases p <;> decide
             exact Nat.mul_pos (by omega) this)
theorem flat_cell {b off k r : Nat} {y : It} {u : Value} (h : ∀ j u, (flat p ys)[j]? = some u → w.cell? ⟨b, off + j, none⟩ = some u) (hy : ys[k]? = some y) (hu : (cel p y)[r]? = some u) : w.cell? ⟨b, off + Int.toNat ((k : Nat) : Int) * csz p + r, none⟩ = some u := by
  rw [Nat.add_assoc, Int.toNat_natCast]
  exact h _ _ (flat_at hy hu)
theorem flat_cells {b off k : Nat} {y : It} (h : ∀ j u, (flat p ys)[j]? = some u → w.cell? ⟨b, off + j, none⟩ = some u) (hy : ys[k]? = some y) : ∀ j u, (cel p y)[j]? = some u → w.cell? ((⟨b, off + Int.toNat ((k : Nat) : Int) * csz p, none⟩ : Addr).add j) = some u := by
  intro j u hu
  rw [add_flat]
  exact flat_cell h hy hu
end
theorem con_get {p : Bool} {ys : List It} {k : Nat} {y : It} (h : ys[k]? = some y) : (ys.map (con p))[k]? = some (con p y) := by simp [h]
theorem con_take {p : Bool} {ys zs : List It} {k : Nat} {y y' : It} (h : zs.map (con p) = (ys.take k).map (con p)) (hk : ys[k]? = some y) (hy : con p y' = con p y) : (zs ++ [y']).map (con p) = (ys.take (k + 1)).map (con p) := by
  rw [take_get hk, List.map_append, List.map_append, h, List.map_cons, List.map_cons, hy]
theorem con_len {p : Bool} {zs : List It} {L : List (Int × List Int)} (h : zs.map (con p) = L) : zs.length = L.length := by rw [← h, List.length_map]
theorem con_lenk {p : Bool} {ys zs : List It} {k n : Nat} (h : zs.map (con p) = (ys.take k).map (con p)) (hn : ys.length = n) (hk : k ≤ n) : zs.length = k := by
  have := con_len h
  rw [List.length_map, List.length_take] at this
  omega
theorem con_all {p : Bool} {ys zs : List It} {k n : Nat} (h : zs.map (con p) = (ys.take k).map (con p)) (hn : ys.length = n) (hk : n ≤ k) : zs.map (con p) = ys.map (con p) := by rw [h, take_all (by omega)]
/-- What is left of a size. -/
def szT (lf : Int) : List (Int × List Int) → Int
  | [] => lf
  | q :: l => if lf - (q.2.length : Int) < 0 then -1 else szT (lf - (q.2.length : Int)) l
def szI (lf : Int) (L : List (Int × List Int)) : Int := if lf - (L.length : Int) < 0 then -1 else szT (lf - (L.length : Int)) L
theorem szT_bd : ∀ (L : List (Int × List Int)) (lf : Int), 0 ≤ szT lf L → 0 ≤ lf → szT lf L + (wt L : Int) = lf + (L.length : Int)
  | [], lf, _, _ => by simp [szT, wt]
  | q :: l, lf, h, h0 => by
    simp only [szT] at h ⊢
    split at h
    · omega
    · rename_i hn
      rw [if_neg hn]
      have := szT_bd l _ h (by omega)
      simp only [wt, List.length_cons]
      omega
theorem szI_bd {L : List (Int × List Int)} {lf : Int} (h : ¬ szI lf L < 0) (h0 : 0 ≤ lf) : szI lf L + (wt L : Int) = lf := by
  unfold szI at h ⊢
  split at h
  · omega
  · rename_i hn
    rw [if_neg hn]
    have := szT_bd L (lf - (L.length : Int)) (by omega) (by omega)
    omega
theorem szT_le : ∀ (L : List (Int × List Int)) (lf : Int), -1 ≤ lf → -1 ≤ szT lf L ∧ szT lf L ≤ lf
  | [], lf, h => ⟨h, Int.le_refl _⟩
  | q :: l, lf, h => by
    simp only [szT]
    split
    · omega
    · have := szT_le l (lf - (q.2.length : Int)) (by omega)
      omega
theorem szI_le {L : List (Int × List Int)} {lf : Int} (h0 : 0 ≤ lf) : -1 ≤ szI lf L ∧ szI lf L ≤ lf := by
  unfold szI
  split
  · omega
  · have := szT_le L (lf - (L.length : Int)) (by omega)
    omega
theorem szT_step {L : List (Int × List Int)} {k : Nat} {q : Int × List Int} (h : L[k]? = some q) (x : Int) : szT x (L.drop k) = if x - (q.2.length : Int) < 0 then -1 else szT (x - (q.2.length : Int)) (L.drop (k + 1)) := by
  obtain ⟨hk, rfl⟩ := List.getElem?_eq_some_iff.1 h
  rw [List.drop_eq_getElem_cons hk]
  rfl
theorem deep_fill {p : Bool} {ys : List It} {y : It} {rest : List Value} {k : Nat} (hl : ys.length = k) (o : Nat) (ho : o = k * csz p) (vs : List Value) (hv : vs = cel p y) (m : Nat) (hm : m = csz p) :
    (flat p ys ++ rest).take o ++ vs ++ (flat p ys ++ rest).drop (o + vs.length) = flat p (ys ++ [y]) ++ rest.drop m := by
  subst ho; subst hv; subst hm
  have h1 : (flat p ys).length = k * csz p := by rw [flat_length, hl]
  rw [List.take_append_of_le_length (by omega), List.take_of_length_le (by omega), flat_snoc, List.append_assoc, List.append_assoc]
  congr 2
  rw [List.drop_append, List.drop_of_length_le (by omega), List.nil_append, h1, cel_length]
  congr 1
  omega
/-- The string of some bytes. -/
def bstr (zs : List Int) : ByteArray := ⟨(zs.map fun z => UInt8.ofNat z.toNat).toArray⟩
theorem okz8 {zs : List Int} (h : okz .u8 zs) : ∀ z ∈ zs, 0 ≤ z ∧ z ≤ 255 := by
  intro z hz
  have := bounds_u8 (h z hz)
  omega
theorem bstr_toList (zs : List Int) : (bstr zs).toList = zs.map fun z => UInt8.ofNat z.toNat := ByteArray.toList_mk _
theorem bstr_eq {xs ys : List Int} (hx : okz .u8 xs) (hy : okz .u8 ys) : ((bstr xs).toList == (bstr ys).toList) = decide (xs = ys) := by
  have inj : ∀ {a b : Int}, 0 ≤ a ∧ a ≤ 255 → 0 ≤ b ∧ b ≤ 255 → UInt8.ofNat a.toNat = UInt8.ofNat b.toNat → a = b := by
    intro a b ha hb h
    have h1 := congrArg UInt8.toNat h
    simp only [UInt8.toNat_ofNat'] at h1
    omega
  rw [bstr_toList, bstr_toList, Bool.eq_iff_iff, beq_iff_eq, decide_eq_true_eq]
  constructor
  · intro h
    have h1 := okz8 hx
    have h2 := okz8 hy
    clear hx hy
    induction xs generalizing ys with
    | nil => cases ys with
      | nil => rfl
      | cons y l => simp at h
    | cons x l ih => cases ys with
      | nil => simp at h
      | cons y m =>
        simp only [List.map_cons, List.cons.injEq] at h
        rw [inj (h1 x (by simp)) (h2 y (by simp)) h.1, ih h.2 (fun z hz => h1 z (by simp [hz])) (fun z hz => h2 z (by simp [hz]))]
  · intro h; rw [h]
theorem fold_push (zs : List Int) : ∀ b : ByteArray, zs.foldl (fun r n => r.push (UInt8.ofNat n.toNat)) b = ⟨(b.data.toList ++ zs.map fun z => UInt8.ofNat z.toNat).toArray⟩ := by
  induction zs with
  | nil => intro b; simp
  | cons z l ih => intro b; rw [List.foldl_cons, ih]; simp [ByteArray.push]
theorem run_bstr {P : Program} {w : World} {B n c : Nat} {A : Option Addr} {zs : List Int} (h : Rd w B A n (zs.map (Value.int .u8))) : (Conv.bytesToString (.slice A n c)).run P w = .ok (.string (bstr zs)) w := by
  have hl := h.len
  rcases Nat.eq_zero_or_pos n with h0 | h0
  · subst h0
    obtain rfl : zs = [] := List.eq_nil_of_length_eq_zero hl
    cases A with
    | none => rfl
    | some a => simp [Conv.bytesToString, loadCells, loadCellsFrom, bstr]; rfl
  · obtain ⟨b, off, rfl, _, hc⟩ := h.2 h0
    have hld := run_loadCells_list (P := P) w ⟨b, off, none⟩ (zs.map (Value.int .u8)) (fun j v hj => by rw [add_flat]; exact hc j v hj)
    rw [run_bytesToString w ⟨b, off, none⟩ n c zs (by simpa [hl] using hld), fold_push]
    rfl
/-- '[]byte' to string. -/
theorem conv_b {P : Program} {S : World → Prop} {src dst e : TypeId} {A : Option Addr} {n c : Nat} {zs : List Int} (hs : P.underlying src = some (.slice e)) (he : P.underlying e = some (.int .u8)) (hd : P.underlying dst = some .string)
    (h : ∀ w, S w → Rd w w.heap.size A n (zs.map (Value.int .u8))) : YieldsAt P S (convert src dst (.slice A n c)) (.string (bstr zs)) := by
  intro w hS
  have hr := h w hS
  unfold convert
  simp only [Sem.run_bind, run_underlying hs, run_underlying hd, Result.andThen_ok, run_underlying he]
  exact run_bstr hr
theorem copy_all {xs ys : List Value} {n : Nat} (h : xs.length = n) (h2 : ys.length = n) : xs.take n ++ ys.drop n = xs := by
  rw [List.take_of_length_le (by omega), List.drop_of_length_le (by omega), List.append_nil]
section
variable {κ : IntKind} {p : Bool} {w w' w0 : World} {own : List Res}
theorem St.rot_1 (F E M Y : List Res) (h : St w0 w ((F ++ (Y ++ [])) ++ (E ++ M))) : St w0 w ((F ++ E) ++ (Y ++ M)) := by
  have := St.rotn F (Y ++ []) E M h
  rwa [List.append_nil] at this
theorem St.rot_2 (F E M Y Z : List Res) (h : St w0 w ((F ++ (Y ++ (Z ++ []))) ++ (E ++ M))) : St w0 w ((F ++ E) ++ (Y ++ (Z ++ M))) := by
  have := St.rotn F (Y ++ (Z ++ [])) E M h
  rwa [List.append_nil, List.append_assoc Y Z M] at this
/-- A row goes to its group. -/
theorem St.pickI {tb : TypeId} (E M : List Res) (ys : List It) (y : It) (h : St w0 w (y.row κ tb :: (E ++ (ys.map (It.row κ tb) ++ M)))) : St w0 w (E ++ ((ys ++ [y]).map (It.row κ tb) ++ M)) := by
  rw [List.map_append]
  exact St.pick E _ M h
end
theorem el_false {κ : IntKind} {w : World} {B : Nat} {cs : List Value} (h : ∃ (A : Option Addr) (n c : Nat) (z : List Int), cs = [.slice A n c] ∧ IsSl κ w B A n c z) : ∃ y : It, cs = cel false y ∧ IsEl κ w B y := by
  obtain ⟨A, n, c, z, rfl, h⟩ := h
  have hl : n = z.length := by have := h.2.2.1.1; rw [List.length_map] at this; exact this.symm
  subst hl
  exact ⟨⟨0, A, c, z⟩, rfl, by show I64 0; unfold I64; omega, h⟩
theorem el_true {κ : IntKind} {w : World} {B : Nat} {cs : List Value} (h : ∃ (s : Int) (A : Option Addr) (n c : Nat) (z : List Int), cs = [.int .i64 s, .slice A n c] ∧ I64 s ∧ IsSl κ w B A n c z) : ∃ y : It, cs = cel true y ∧ IsEl κ w B y := by
  obtain ⟨s, A, n, c, z, rfl, hs, h⟩ := h
  have hl : n = z.length := by have := h.2.2.1.1; rw [List.length_map] at this; exact this.symm
  subst hl
  exact ⟨⟨s, A, c, z⟩, rfl, hs, h⟩
open Go.ChangeShapes Go.WideShapes Go.Deep in
theorem its_of {H : Type} {enc : TypeId × Value → H} {P : Program} {w : World} {base : Nat} {spare : Nat → Bool} {held : Bool} {κ : IntKind} {p : Bool} {t e : TypeId} {fuel : Nat} {cs : List Value} {x : DataW H × List MemPlace}
    (ht : P.underlying t = some (.slice e)) (hc : P.cellsOf e = csz p) (h : DataW.trod enc P w base spare held fuel t cs = some x)
    (hel : ∀ n cs' x', DataW.trod enc P w base spare held n e cs' = some x' → ∃ y : It, cs' = cel p y ∧ IsEl κ w w.heap.size y) :
    ∃ (A : Option Addr) (n c : Nat) (ys : List It), cs = [.slice A n c] ∧ IsIt κ p w w.heap.size A n c ys := by
  rcases open_slice ht h with ⟨rfl, _⟩ | ⟨a, len, cap, m, n, D, Pl, rfl, hb, hl, hm, hmm, hx, hi⟩
  · exact ⟨none, 0, 0, [], rfl, Nat.le_refl _, Nat.zero_le _, RdI.nil, fun y hy => by simp at hy⟩
  have hlm : len ≤ m := by rw [hmm]; split <;> omega
  rw [hc] at hi
  obtain ⟨f, hf⟩ := @choose_lt It ⟨⟨0, none, 0, []⟩⟩ len (fun i y => w.cells? base (a.add (i * csz p)) (csz p) = some (cel p y) ∧ IsEl κ w w.heap.size y) (fun i hil => by
    obtain ⟨cs', h1, h2⟩ := hi i (by omega)
    obtain ⟨y, rfl, hy⟩ := hel _ _ _ h2
    exact ⟨y, h1, hy⟩)
  have hlen : ((List.range len).map f).length = len := by simp
  have hfl : (flat p ((List.range len).map f)).length = len * csz p := by rw [flat_length, hlen]
  have hpos : 0 < csz p := by cases p <;> decide
  have hcell : ∀ j, j < len * csz p → w.cell? (a.add j) = some ((flat p ((List.range len).map f)).getD j undef) := by
    intro j hj
    have hk : j / csz p < len := Nat.div_lt_of_lt_mul (by rw [Nat.mul_comm]; exact hj)
    have hr : j % csz p < csz p := Nat.mod_lt _ hpos
    obtain ⟨h1, _⟩ := hf _ hk
    obtain ⟨_, h2, h3⟩ := World.cells?_some h1
    have h4 := h3 _ hr
    rw [Go.Deep.add_add, show j / csz p * csz p + j % csz p = j by rw [Nat.mul_comm]; exact Nat.div_add_mod _ _] at h4
    have hu : (cel p (f (j / csz p)))[j % csz p]? = some ((cel p (f (j / csz p)))[j % csz p]'(by rw [cel_length]; exact hr)) := List.getElem?_eq_getElem _
    have h5 := flat_at (p := p) (ys := (List.range len).map f) (k := j / csz p) (y := f (j / csz p)) (by simp [hk]) hu
    rw [show j / csz p * csz p + j % csz p = j by rw [Nat.mul_comm]; exact Nat.div_add_mod _ _] at h5
    rw [h4, hu, List.getD, h5]
    rfl
  refine ⟨some a, len, cap, (List.range len).map f, rfl, hl, hm, ⟨hlen, ⟨hfl, fun hn => ?_⟩, ?_⟩, ?_⟩
  · obtain ⟨b, off, rfl, hbb, hcc⟩ := ints_at' hcell hn
    refine ⟨b, off, rfl, hbb, fun j u hu => ?_⟩
    have hj := (List.getElem?_eq_some_iff.1 hu).1
    rw [hfl] at hj
    rw [hcc j hj, List.getD, hu]
    rfl
  · intro y hy
    obtain ⟨i, hi1, rfl⟩ := List.mem_map.1 hy
    obtain ⟨_, _, h3⟩ := hf i (by simpa using hi1)
    exact ⟨h3.2.2.1, h3.1, h3.2.1⟩
  · intro y hy
    obtain ⟨i, hi1, rfl⟩ := List.mem_map.1 hy
    exact (hf i (by simpa using hi1)).2
section
variable {κ : IntKind} {p : Bool} {w w' w0 : World} {own : List Res}
theorem foldr_app (Bs : List (List Res)) (X : List Res) : Bs.foldr (· ++ ·) X = Bs.flatten ++ X := by
  induction Bs with
  | nil => rfl
  | cons B l ih => rw [List.foldr_cons, ih, List.flatten_cons, List.append_assoc]
theorem St.rotB (F E M : List Res) (Gs : List (List Res)) (h : St w0 w ((F ++ Gs.foldr (· ++ ·) []) ++ (E ++ M))) : St w0 w ((F ++ E) ++ Gs.foldr (· ++ ·) M) := by
  rw [foldr_app, List.append_nil] at h
  rw [foldr_app]
  exact St.rotn F _ E M h
theorem St.pickB {tb : TypeId} (E : List Res) (Bs : List (List Res)) (M : List Res) (ys : List It) (y : It) (h : St w0 w (y.row κ tb :: (E ++ Bs.foldr (· ++ ·) (ys.map (It.row κ tb) ++ M)))) : St w0 w (E ++ Bs.foldr (· ++ ·) ((ys ++ [y]).map (It.row κ tb) ++ M)) := by
  rw [foldr_app, ← List.append_assoc] at h
  rw [foldr_app, ← List.append_assoc]
  exact St.pickI _ M ys y h
theorem St.mergeB (E : List Res) (Bs Cs : List (List Res)) (M : List Res) {tb : TypeId} (ya yb : List It) (h : St w0 w (E ++ Bs.foldr (· ++ ·) (ya.map (It.row κ tb) ++ Cs.foldr (· ++ ·) (yb.map (It.row κ tb) ++ M)))) :
    St w0 w (E ++ Bs.foldr (· ++ ·) (Cs.foldr (· ++ ·) ((yb ++ ya).map (It.row κ tb) ++ M))) := by
  simp only [foldr_app, List.map_append] at h ⊢
  refine h.perm (List.Perm.append_left E (List.Perm.append_left _ ?_))
  rw [List.append_assoc]
  exact (List.perm_append_comm_assoc _ _ _).trans (List.Perm.append_left _ (List.perm_append_comm_assoc _ _ _))
theorem St.mergeB' (E : List Res) (Bs Cs : List (List Res)) (M : List Res) {tb : TypeId} (ya yb : List It) (h : St w0 w (E ++ Bs.foldr (· ++ ·) (ya.map (It.row κ tb) ++ Cs.foldr (· ++ ·) (yb.map (It.row κ tb) ++ M)))) :
    St w0 w (E ++ Bs.foldr (· ++ ·) (Cs.foldr (· ++ ·) ((ya ++ yb).map (It.row κ tb) ++ M))) := by
  simp only [foldr_app, List.map_append] at h ⊢
  refine h.perm (List.Perm.append_left E (List.Perm.append_left _ ?_))
  rw [List.append_assoc]
  exact List.perm_append_comm_assoc _ _ _
theorem St.row_cap {i : Nat} {A : Option Addr} {n c e sz : Nat} {xs : List Value} (h : St w0 w own) (hi : own[i]? = some (.row (.slice A n c) e sz n xs)) : n ≤ c ∧ c ≤ maxLen := by
  obtain ⟨_, A', c', hv, h2, h3⟩ := h.row_slice (List.mem_of_getElem? hi)
  injection hv with _ _ hc
  subst hc
  exact ⟨h2, h3⟩
end
/-- Where a part of a slice lies. -/
def cutA (A : Option Addr) (c l sz : Nat) : Option Addr := if c = l then A else A.map (·.add (l * sz))
theorem Rd.cut {w : World} {B : Nat} {A : Option Addr} {n sz : Nat} {xs : List Value} (h : Rd w B A (n * sz) xs) {l r c : Nat} (h1 : l ≤ r) (h2 : r ≤ n) (hc : n ≤ c) : Rd w B (cutA A c l sz) ((r - l) * sz) ((xs.take (r * sz)).drop (l * sz)) := by
  have e1 : r * sz ≤ n * sz := Nat.mul_le_mul_right _ h2
  have e2 : (r - l) * sz = r * sz - l * sz := Nat.sub_mul _ _ _
  refine ⟨by rw [List.length_drop, List.length_take, h.1, e2]; omega, fun hp => ?_⟩
  have hl : l < r := by
    rcases Nat.lt_or_ge l r with h' | h'
    · exact h'
    · rw [show r - l = 0 by omega] at hp; omega
  obtain ⟨b, off, rfl, hb, hcell⟩ := h.2 (by omega)
  refine ⟨b, off + l * sz, by rw [cutA, if_neg (by omega)]; exact congrArg some (add_flat _ _ _), hb, fun j u hj => ?_⟩
  rw [List.getElem?_drop, List.getElem?_take] at hj
  split at hj
  · rw [Nat.add_assoc]; exact hcell _ _ hj
  · cases hj
theorem RdL.cut {κ : IntKind} {p : Bool} {w : World} {B n : Nat} {A : Option Addr} {L : List (Int × List Int)} (h : RdL κ p w B A n L) {l r c : Nat} (h1 : l ≤ r) (h2 : r ≤ n) (hc : n ≤ c) : RdL κ p w B (cutA A c l (csz p)) (r - l) ((L.take r).drop l) := by
  obtain ⟨hok, ys, hr, rfl⟩ := h
  refine ⟨(hok.take r).drop l, (ys.take r).drop l, ⟨?_, ?_, fun y hy => hr.el y (List.mem_of_mem_take (List.mem_of_mem_drop hy))⟩, by rw [List.map_drop, List.map_take]⟩
  · rw [List.length_drop, List.length_take, hr.len]; omega
  · rw [← flat_drop, ← flat_take]; exact hr.sp.cut h1 h2 hc
/-- Comparisons of contents. -/
def pre (L M : List (Int × List Int)) : Bool := decide (L = M.take L.length)
theorem tk_step {α : Type} {L M : List α} {k : Nat} {a b : α} (h : L.take k = M.take k) (ha : L[k]? = some a) (hb : M[k]? = some b) (e : a = b) : L.take (k + 1) = M.take (k + 1) := by rw [take_get ha, take_get hb, h, e]
theorem pre_true {L M : List (Int × List Int)} {k : Nat} (h : L.take k = M.take k) (hk : L.length = k) : pre L M = true := by subst hk; rw [List.take_length] at h; exact decide_eq_true h
theorem pre_false {L M : List (Int × List Int)} {k : Nat} {a b : Int × List Int} (ha : L[k]? = some a) (hb : M[k]? = some b) (e : a ≠ b) : pre L M = false := by
  refine decide_eq_false fun h => e ?_
  have hk : k < L.length := (List.getElem?_eq_some_iff.1 ha).1
  have h1 : (M.take L.length)[k]? = some b := by rw [List.getElem?_take, if_pos hk]; exact hb
  rw [← h, ha] at h1
  exact Option.some.inj h1
theorem pre_long {L M : List (Int × List Int)} (h : M.length < L.length) : pre L M = false := by
  refine decide_eq_false fun e => ?_
  have := congrArg List.length e
  rw [List.length_take] at this
  omega
theorem same_true {L M : List (Int × List Int)} {k : Nat} (h : L.take k = M.take k) (hk : L.length = k) (hm : M.length = k) : decide (L = M) = true := by
  refine decide_eq_true ?_
  subst hk
  rw [List.take_length, List.take_of_length_le (by omega)] at h
  exact h
theorem same_false {L M : List (Int × List Int)} {k : Nat} {a b : Int × List Int} (ha : L[k]? = some a) (hb : M[k]? = some b) (e : a ≠ b) : decide (L = M) = false := by
  refine decide_eq_false fun h => e ?_
  rw [h, hb] at ha
  exact (Option.some.inj ha).symm
theorem same_len {L M : List (Int × List Int)} (h : L.length ≠ M.length) : decide (L = M) = false := decide_eq_false fun e => h (by rw [e])
theorem con_ff {y z : It} (h : y.zs = z.zs) : con false y = con false z := by show ((0 : Int), y.zs) = (0, z.zs); rw [h]
theorem con_tt {y z : It} (hs : y.s = z.s) (h : y.zs = z.zs) : con true y = con true z := by show (y.s, y.zs) = (z.s, z.zs); rw [hs, h]
theorem con_ne {p : Bool} {y z : It} (h : y.zs ≠ z.zs) : con p y ≠ con p z := fun e => h (congrArg Prod.snd e)
theorem con_ne1 {y z : It} (h : y.s ≠ z.s) : con true y ≠ con true z := fun e => h (congrArg Prod.fst e)
theorem con_zs {p : Bool} {y z : It} (h : con p y = con p z) : y.zs = z.zs := congrArg Prod.snd h
theorem con_s {y z : It} (h : con true y = con true z) : y.s = z.s := congrArg Prod.fst h
theorem pre_same {L M : List (Int × List Int)} (h : L.length = M.length) : pre L M = decide (L = M) := by rw [pre, List.take_of_length_le (by omega)]
theorem pre_cut {L M : List (Int × List Int)} {n : Nat} (h : L.length = n) : decide (L = (M.take n).drop 0) = pre L M := by subst h; rfl
theorem wt_cut (L : List (Int × List Int)) (l r : Nat) : wt ((L.take r).drop l) ≤ wt L := by
  have h1 := wt_take L r
  have h2 := wt_take (L.take r) l
  omega
/-- Two that hold the same, at a place. -/
theorem twin {p : Bool} {ys zs : List It} {k : Nat} {y : It} (h : zs.map (con p) = ys.map (con p)) (hy : ys[k]? = some y) : ∃ z, zs[k]? = some z ∧ z ∈ zs ∧ con p z = con p y := by
  have h1 := con_get (p := p) hy
  rw [← h, List.getElem?_map] at h1
  obtain ⟨z, hz, e⟩ := Option.map_eq_some_iff.1 h1
  exact ⟨z, hz, List.mem_of_getElem? hz, e⟩
theorem szT_next {L : List (Int × List Int)} {k : Nat} {q : Int × List Int} (h : L[k]? = some q) (x : Int) : szT x (L.drop k) = if szl x q.2.length < 0 then -1 else szT (szl x q.2.length) (L.drop (k + 1)) := by
  rw [szT_step h]
  unfold szl
  by_cases hx : x - (q.2.length : Int) < 0
  · simp [hx]
  · simp [hx]
/-- Marks through a nested slice. -/
def pi (p : Bool) : Nat := bif p then 1 else 0
def tot (p : Bool) : List It → Nat
  | [] => 0
  | y :: l => pi p + y.zs.length + tot p l
def totL (p : Bool) : List (Int × List Int) → Nat
  | [] => 0
  | q :: l => pi p + q.2.length + totL p l
theorem tot_con (p : Bool) (ys : List It) : tot p ys = totL p (ys.map (con p)) := by
  induction ys with
  | nil => rfl
  | cons y l ih => simp only [tot, List.map_cons, totL, ih]; rfl
theorem totL_wt (p : Bool) (L : List (Int × List Int)) : totL p L ≤ wt L := by
  induction L with
  | nil => exact Nat.le_refl _
  | cons q l ih => simp only [totL, wt]; cases p <;> simp only [pi, cond_true, cond_false] <;> omega
theorem tot_take {p : Bool} {ys : List It} {k : Nat} {y : It} (h : ys[k]? = some y) : tot p (ys.take (k + 1)) = tot p (ys.take k) + pi p + y.zs.length := by
  rw [take_get h]
  generalize ys.take k = l
  induction l with
  | nil => simp [tot]
  | cons x m ih => simp only [List.cons_append, tot, ih]; omega
theorem tot_le {p : Bool} (ys : List It) (k : Nat) : tot p (ys.take k) ≤ tot p ys := by
  induction ys generalizing k with
  | nil => simp
  | cons y l ih => cases k with
    | zero => simp [tot]
    | succ k => simp only [List.take_succ_cons, tot]; have := ih k; omega
def mkE (f : Int → Int) (p : Bool) (k0 : Int) (y : It) : It := ⟨bif p then k0 else y.s, y.A, y.c, marks f (k0 + (pi p : Int)) y.zs.length⟩
def mkI (f : Int → Int) (p : Bool) (k0 : Int) : List It → List It
  | [] => []
  | y :: l => mkE f p k0 y :: mkI f p (k0 + ((pi p + y.zs.length : Nat) : Int)) l
def mkL (f : Int → Int) (p : Bool) (k0 : Int) : List (Int × List Int) → List (Int × List Int)
  | [] => []
  | q :: l => (bif p then k0 else 0, marks f (k0 + (pi p : Int)) q.2.length) :: mkL f p (k0 + ((pi p + q.2.length : Nat) : Int)) l
theorem mkI_con (f : Int → Int) (p : Bool) : ∀ (k0 : Int) (ys : List It), (mkI f p k0 ys).map (con p) = mkL f p k0 (ys.map (con p))
  | _, [] => rfl
  | k0, y :: l => by
    simp only [mkI, List.map_cons, mkL]
    rw [mkI_con f p _ l]
    cases p <;> rfl
theorem mkI_length (f : Int → Int) (p : Bool) : ∀ (k0 : Int) (ys : List It), (mkI f p k0 ys).length = ys.length
  | _, [] => rfl
  | k0, y :: l => by simp only [mkI, List.length_cons, mkI_length f p _ l]
theorem mkL_length (f : Int → Int) (p : Bool) : ∀ (k0 : Int) (L : List (Int × List Int)), (mkL f p k0 L).length = L.length
  | _, [] => rfl
  | k0, q :: l => by simp only [mkL, List.length_cons, mkL_length f p _ l]
theorem mkL_wt (f : Int → Int) (p : Bool) : ∀ (k0 : Int) (L : List (Int × List Int)), wt (mkL f p k0 L) = wt L
  | _, [] => rfl
  | k0, q :: l => by simp only [mkL, wt, marks_length, mkL_wt f p _ l]
theorem mkL_tot (f : Int → Int) (p : Bool) : ∀ (k0 : Int) (L : List (Int × List Int)), totL p (mkL f p k0 L) = totL p L
  | _, [] => rfl
  | k0, q :: l => by simp only [mkL, totL, marks_length, mkL_tot f p _ l]
theorem mkL_ok8 (p : Bool) : ∀ (k0 : Int) (L : List (Int × List Int)), -1099511627776 ≤ k0 → k0 + (totL p L : Int) ≤ 1099511627777 → okL .u8 (mkL (IntKind.wrap .u8) p k0 L)
  | _, [], _, _ => okL.nil
  | k0, q :: l, h1, h2 => by
    simp only [totL] at h2
    intro x hx
    simp only [mkL, List.mem_cons] at hx
    rcases hx with rfl | hx
    · refine ⟨by cases p <;> (simp only [cond_true, cond_false]; unfold I64; omega), fun z hz => ?_⟩
      simp only [marks, List.mem_map] at hz
      obtain ⟨i, _, rfl⟩ := hz
      simp only [Lit.wf, IntKind.wrap_u8, IntKind.min, IntKind.max, IntKind.signed, IntKind.bits]
      simp
      omega
    · exact mkL_ok8 p _ l (by omega) (by omega) x hx
theorem mkI_snoc (f : Int → Int) (p : Bool) : ∀ (k0 : Int) (l : List It) (y : It), mkI f p k0 (l ++ [y]) = mkI f p k0 l ++ [mkE f p (k0 + (tot p l : Int)) y]
  | k0, [], y => by simp [mkI, tot]
  | k0, x :: l, y => by
    simp only [List.cons_append, mkI, tot]
    rw [mkI_snoc f p _ l y, Int.add_assoc, ← Int.natCast_add]
/-- Behind k rounds. -/
def zat (f : Int → Int) (p : Bool) (k0 : Int) (ys : List It) (k : Nat) : List It := mkI f p k0 (ys.take k) ++ ys.drop k
theorem zat_zero (f : Int → Int) (p : Bool) (k0 : Int) (ys : List It) : zat f p k0 ys 0 = ys := by simp [zat, mkI]
theorem zat_all {f : Int → Int} {p : Bool} {k0 : Int} {ys : List It} {k : Nat} (h : ys.length ≤ k) : zat f p k0 ys k = mkI f p k0 ys := by
  rw [zat, List.take_of_length_le h, List.drop_of_length_le h, List.append_nil]
theorem zat_length (f : Int → Int) (p : Bool) (k0 : Int) (ys : List It) (k : Nat) : (zat f p k0 ys k).length = ys.length := by
  rw [zat, List.length_append, mkI_length, List.length_take, List.length_drop]; omega
theorem zat_get {f : Int → Int} {p : Bool} {k0 : Int} {ys : List It} {k : Nat} {y : It} (h : ys[k]? = some y) : (zat f p k0 ys k)[k]? = some y := by
  obtain ⟨hk, rfl⟩ := List.getElem?_eq_some_iff.1 h
  have hl : (mkI f p k0 (ys.take k)).length = k := by rw [mkI_length, List.length_take]; omega
  rw [zat, List.getElem?_append_right (by omega), hl, List.getElem?_drop]
  simp
theorem zat_set {f : Int → Int} {p : Bool} {k0 : Int} {ys : List It} {k : Nat} {y : It} (h : ys[k]? = some y) : (zat f p k0 ys k).set k (mkE f p (k0 + (tot p (ys.take k) : Int)) y) = zat f p k0 ys (k + 1) := by
  obtain ⟨hk, e⟩ := List.getElem?_eq_some_iff.1 h
  have hl : (mkI f p k0 (ys.take k)).length = k := by rw [mkI_length, List.length_take]; omega
  rw [zat, zat, take_get h, mkI_snoc, List.set_append_right _ _ (by omega), hl, Nat.sub_self, List.drop_eq_getElem_cons hk, List.set_cons_zero, List.append_assoc]
  rfl
section
variable {κ : IntKind} {p : Bool} {w w' w0 : World} {own : List Res}
theorem perm_erase : ∀ {ys : List It} {k : Nat} {y : It}, ys[k]? = some y → ys.Perm (y :: ys.eraseIdx k)
  | [], _, _, h => by cases h
  | x :: l, 0, y, h => by simp only [List.getElem?_cons_zero, Option.some.injEq] at h; subst h; exact .refl _
  | x :: l, k + 1, y, h => by
    simp only [List.getElem?_cons_succ] at h
    rw [List.eraseIdx_cons_succ]
    exact ((perm_erase h).cons x).trans (List.Perm.swap _ _ _)
theorem erase_set (ys : List It) (k : Nat) (y : It) : (ys.set k y).eraseIdx k = ys.eraseIdx k := by
  induction ys generalizing k with
  | nil => rfl
  | cons x l ih => cases k with
    | zero => rfl
    | succ k => simp only [List.set_cons_succ, List.eraseIdx_cons_succ, ih]
/-- An element's row is taken out of its group, and put back changed. -/
theorem St.bor {tb : TypeId} {r : Res} {ys : List It} {k : Nat} {y : It} {tl : List Res} (h : St w0 w (r :: (ys.map (It.row κ tb) ++ tl))) (hy : ys[k]? = some y) : St w0 w (y.row κ tb :: r :: ((ys.eraseIdx k).map (It.row κ tb) ++ tl)) := by
  refine h.perm ?_
  have h1 := ((perm_erase hy).map (It.row κ tb)).append_right tl
  exact (h1.cons r).trans (List.Perm.swap _ _ _)
theorem St.unbor {tb : TypeId} {r : Res} {ys : List It} {k : Nat} {y : It} {tl : List Res} (h : St w0 w (y.row κ tb :: r :: ((ys.eraseIdx k).map (It.row κ tb) ++ tl))) (hk : k < ys.length) : St w0 w (r :: ((ys.set k y).map (It.row κ tb) ++ tl)) := by
  refine h.perm ?_
  have hy : (ys.set k y)[k]? = some y := List.getElem?_set_self hk
  have h1 := ((perm_erase hy).map (It.row κ tb)).append_right tl
  rw [erase_set] at h1
  exact (List.Perm.swap _ _ _).trans (h1.symm.cons r)
theorem St.frontB (E1 : List Res) (r : Res) (E2 : List Res) (Bs : List (List Res)) (Y M : List Res) (h : St w0 w ((E1 ++ r :: E2) ++ Bs.foldr (· ++ ·) (Y ++ M))) : St w0 w (r :: (Y ++ ((E1 ++ E2) ++ Bs.foldr (· ++ ·) M))) := by
  rw [foldr_app] at h ⊢
  refine h.perm ?_
  have h1 : (E1 ++ r :: E2).Perm (r :: (E1 ++ E2)) := List.perm_middle
  refine (h1.append_right _).trans (List.Perm.cons r ?_)
  show ((E1 ++ E2) ++ (Bs.flatten ++ (Y ++ M))).Perm (Y ++ ((E1 ++ E2) ++ (Bs.flatten ++ M)))
  rw [← List.append_assoc (E1 ++ E2) Bs.flatten, ← List.append_assoc (E1 ++ E2) Bs.flatten]
  exact List.perm_append_comm_assoc _ _ _
theorem St.backB (r : Res) (Y E M : List Res) (h : St w0 w (r :: (Y ++ (E ++ M)))) : St w0 w ((r :: E) ++ (Y ++ M)) :=
  h.perm (List.Perm.cons r (List.perm_append_comm_assoc _ _ _))
end
/-- The spine stays where only the numbers are marked; a field before is stored to. -/
theorem flat_val_eq {p : Bool} {ys zs : List It} (h : ys.map (cel p) = zs.map (cel p)) : flat p ys = flat p zs := by
  have : ∀ l : List It, flat p l = (l.map (cel p)).flatten := fun l => by simp [flat, List.flatMap]
  rw [this, this, h]
theorem flat_set_s {ys : List It} {k : Nat} {y : It} (h : ys[k]? = some y) (s : Int) (o : Nat) (ho : o = k * 2) (vs : List Value) (hv : vs = [.int .i64 s]) :
    (flat true ys).take o ++ vs ++ (flat true ys).drop (o + vs.length) = flat true (ys.set k ⟨s, y.A, y.c, y.zs⟩) := by
  subst ho; subst hv
  obtain ⟨hk, e⟩ := List.getElem?_eq_some_iff.1 h
  have h1 : ys.set k ⟨s, y.A, y.c, y.zs⟩ = ys.take k ++ (⟨s, y.A, y.c, y.zs⟩ :: ys.drop (k + 1)) := by rw [List.set_eq_take_append_cons_drop, if_pos hk]
  have h2 := flat_take true ys k
  have h3 := flat_drop true ys (k + 1)
  have h4 := flat_drop true ys k
  simp only [csz] at h2 h3 h4
  rw [h1, flat_append, h2, List.append_assoc]
  congr 1
  have h5 : (flat true ys).drop (k * 2) = cel true y ++ flat true (ys.drop (k + 1)) := by rw [h4, List.drop_eq_getElem_cons hk, e]; rfl
  have h6 : (flat true ys).drop (k * 2 + [Value.int .i64 s].length) = ((flat true ys).drop (k * 2)).drop 1 := by rw [List.drop_drop]; rfl
  rw [h6, h5]
  rfl
theorem flat_set_same {p : Bool} {ys : List It} {k : Nat} {y y' : It} (h : ys[k]? = some y) (hc : cel p y' = cel p y) : flat p (ys.set k y') = flat p ys := by
  refine flat_val_eq ?_
  rw [List.map_set, hc]
  obtain ⟨hk, rfl⟩ := List.getElem?_eq_some_iff.1 h
  apply List.ext_getElem?
  intro j
  rw [List.getElem?_set]
  split
  · rename_i hj; subst hj; simp [hk]
  · rfl
theorem flat_at0 {p : Bool} {ys : List It} {k r : Nat} {y : It} {u : Value} (h : ys[k]? = some y) (hu : (cel p y)[r]? = some u) : (flat p ys)[0 + Int.toNat ((k : Nat) : Int) * csz p + r]? = some u := by
  rw [Nat.zero_add, Int.toNat_natCast]; exact flat_at h hu
theorem set_get {ys : List It} {k : Nat} {y y' : It} (h : ys[k]? = some y) : (ys.set k y')[k]? = some y' := List.getElem?_set_self (List.getElem?_eq_some_iff.1 h).1
section
variable {κ : IntKind} {w w' w0 : World} {tl : List Res} {f : Int → Int} {k0 : Int} {ys : List It} {k n c e tb : Nat} {y : It} {A : Option Addr}
theorem St.marked0 (h : St w0 w (.row (.slice y.A y.zs.length y.c) tb 1 y.zs.length ((marks f (k0 + (tot false (ys.take k) : Int)) y.zs.length).map (Value.int κ)) :: .row (.slice A n c) e 1 n (flat false (zat f false k0 ys k)) :: (((zat f false k0 ys k).eraseIdx k).map (It.row κ tb) ++ tl))) (hy : ys[k]? = some y) :
    St w0 w (.row (.slice A n c) e 1 n (flat false (zat f false k0 ys (k + 1))) :: ((zat f false k0 ys (k + 1)).map (It.row κ tb) ++ tl)) := by
  have hz := zat_get (f := f) (p := false) (k0 := k0) hy
  have h1 : (mkE f false (k0 + (tot false (ys.take k) : Int)) y).row κ tb = .row (.slice y.A y.zs.length y.c) tb 1 y.zs.length ((marks f (k0 + (tot false (ys.take k) : Int)) y.zs.length).map (Value.int κ)) := by
    simp [It.row, It.val, mkE, marks_length, pi]
  rw [← h1] at h
  have h2 := h.unbor (List.getElem?_eq_some_iff.1 hz).1
  rw [← zat_set hy, flat_set_same hz (by simp [cel, It.val, mkE, marks_length])]
  exact h2
theorem St.marked1 (h : St w0 w (.row (.slice y.A y.zs.length y.c) tb 1 y.zs.length ((marks f (k0 + (tot true (ys.take k) : Int) + 1) y.zs.length).map (Value.int κ)) :: .row (.slice A n c) e 2 n (flat true ((zat f true k0 ys k).set k ⟨k0 + (tot true (ys.take k) : Int), y.A, y.c, y.zs⟩)) :: (((zat f true k0 ys k).eraseIdx k).map (It.row κ tb) ++ tl))) (hy : ys[k]? = some y) :
    St w0 w (.row (.slice A n c) e 2 n (flat true (zat f true k0 ys (k + 1))) :: ((zat f true k0 ys (k + 1)).map (It.row κ tb) ++ tl)) := by
  have hz := zat_get (f := f) (p := true) (k0 := k0) hy
  have h1 : (mkE f true (k0 + (tot true (ys.take k) : Int)) y).row κ tb = .row (.slice y.A y.zs.length y.c) tb 1 y.zs.length ((marks f (k0 + (tot true (ys.take k) : Int) + 1) y.zs.length).map (Value.int κ)) := by
    simp [It.row, It.val, mkE, marks_length, pi]
  rw [← h1] at h
  have h2 := h.unbor (List.getElem?_eq_some_iff.1 hz).1
  rw [← zat_set hy, ← flat_set_same (p := true) (y' := mkE f true (k0 + (tot true (ys.take k) : Int)) y) (set_get (y' := ⟨k0 + (tot true (ys.take k) : Int), y.A, y.c, y.zs⟩) hz) (by simp [cel, It.val, mkE, marks_length]), List.set_set] at *
  exact h2
end
theorem mkL_get {f : Int → Int} {p : Bool} : ∀ {L : List (Int × List Int)} {k : Nat} {q : Int × List Int} (k0 : Int), L[k]? = some q → (mkL f p k0 L)[k]? = some (bif p then k0 + (totL p (L.take k) : Int) else 0, marks f (k0 + (totL p (L.take k) : Int) + (pi p : Int)) q.2.length)
  | [], _, _, _, h => by cases h
  | x :: l, 0, q, k0, h => by
    simp only [List.getElem?_cons_zero, Option.some.injEq] at h; subst h
    simp [mkL, totL]
  | x :: l, k + 1, q, k0, h => by
    simp only [List.getElem?_cons_succ] at h
    simp only [mkL, List.getElem?_cons_succ, List.take_succ_cons, totL]
    rw [mkL_get _ h]
    simp only [Int.natCast_add, ← Int.add_assoc]
theorem totL_take {p : Bool} {L : List (Int × List Int)} {k : Nat} {q : Int × List Int} (h : L[k]? = some q) : totL p (L.take (k + 1)) = totL p (L.take k) + pi p + q.2.length := by
  rw [take_get h]
  generalize L.take k = l
  induction l with
  | nil => simp [totL]
  | cons x m ih => simp only [List.cons_append, totL, ih]; omega
theorem totL_le {p : Bool} (L : List (Int × List Int)) (k : Nat) : totL p (L.take k) ≤ totL p L := by
  induction L generalizing k with
  | nil => simp
  | cons y l ih => cases k with
    | zero => simp [totL]
    | succ k => simp only [List.take_succ_cons, totL]; have := ih k; omega
section
variable {w w0 : World}
theorem St.gfront (E : List Res) (Bs : List (List Res)) (Y M : List Res) (h : St w0 w (E ++ Bs.foldr (· ++ ·) (Y ++ M))) : St w0 w (E ++ (Y ++ Bs.foldr (· ++ ·) M)) := by
  rw [foldr_app] at h ⊢
  exact h.perm (List.Perm.append_left E (List.perm_append_comm_assoc _ _ _))
theorem St.inB (F E : List Res) (Gs : List (List Res)) (M : List Res) (h : St w0 w ((F ++ E) ++ Gs.foldr (· ++ ·) M)) : St w0 w (F ++ Gs.foldr (· ++ ·) (E ++ M)) := by
  rw [foldr_app] at h ⊢
  rw [List.append_assoc] at h
  exact h.perm (List.Perm.append_left F (List.perm_append_comm_assoc _ _ _))
theorem St.outB (F E : List Res) (Gs : List (List Res)) (M : List Res) (h : St w0 w (F ++ Gs.foldr (· ++ ·) (E ++ M))) : St w0 w ((F ++ E) ++ Gs.foldr (· ++ ·) M) := by
  rw [foldr_app] at h ⊢
  rw [List.append_assoc]
  exact h.perm (List.Perm.append_left F (List.perm_append_comm_assoc _ _ _))
end
/-- What is left of a size, behind some. -/
def szF (lf : Int) : List (List (Int × List Int)) → Int
  | [] => lf
  | L :: r => if szI lf L < 0 then -1 else szF (szI lf L) r
theorem szF_bd : ∀ (Ls : List (List (Int × List Int))) (lf : Int), ¬ szF lf Ls < 0 → 0 ≤ lf → szF lf Ls + ((Ls.map wt).sum : Int) = lf
  | [], lf, _, _ => by simp [szF]
  | L :: r, lf, h, h0 => by
    simp only [szF] at h ⊢
    split at h
    · omega
    · rename_i hn
      rw [if_neg hn]
      have h1 := szI_bd hn h0
      have h2 := szF_bd r _ h (by omega)
      simp only [List.map_cons, List.sum_cons]
      omega
theorem szF_le : ∀ (Ls : List (List (Int × List Int))) (lf : Int), 0 ≤ lf → -1 ≤ szF lf Ls ∧ szF lf Ls ≤ lf
  | [], lf, h => ⟨by show -1 ≤ lf; omega, Int.le_refl _⟩
  | L :: r, lf, h => by
    have h1 := szI_le (L := L) h
    simp only [szF]
    split
    · omega
    · have := szF_le r (szI lf L) (by omega)
      omega
theorem szF1 (lf : Int) (L : List (Int × List Int)) (h0 : 0 ≤ lf) : szF lf [L] = szI lf L := by
  have h1 := szI_le (L := L) h0
  simp only [szF]; split <;> omega
/-- A nil slice is owned. -/
theorem St.nilrow {w0 w : World} {own : List Res} (h : St w0 w own) (e : TypeId) (sz : Nat) : St w0 w (.row (.slice none 0 0) e sz 0 [] :: own) :=
  ⟨h.bel, fun r hr => by
    rcases List.mem_cons.1 hr with rfl | hr
    · exact ⟨by simp, .inl ⟨rfl, rfl⟩⟩
    · exact h.hold r hr, List.pairwise_cons.2 ⟨fun s _ b hb => by simp [Res.blk, Value.ownBlock] at hb, h.nd⟩⟩
theorem RdL.nil {κ : IntKind} {p : Bool} {w : World} {B : Nat} {A : Option Addr} : RdL κ p w B A 0 [] := ⟨okL.nil, [], RdI.nil, rfl⟩
theorem okL.bif {κ : IntKind} {L M : List (Int × List Int)} (e : Bool) (h : okL κ L) (h2 : okL κ M) : okL κ (bif e then L else M) := by cases e <;> assumption
theorem len_bif {L M : List (Int × List Int)} {n m : Nat} (e : Bool) (h : L.length = n) (h2 : M.length = m) : (bif e then L else M).length = (bif e then n else m) := by cases e <;> assumption
theorem wt_bif {L M : List (Int × List Int)} (e : Bool) {N : Nat} (h : wt L ≤ N) (h2 : wt M ≤ N) : wt (bif e then L else M) ≤ N := by cases e <;> assumption
theorem wt_one (s : Int) (zs : List Int) : wt [(s, zs)] = zs.length + 1 := rfl
theorem len_snoc {L : List (Int × List Int)} {n : Nat} (h : L.length = n) (x : Int × List Int) : (L ++ [x]).length = n + 1 := by rw [List.length_append, h]; rfl
theorem len_app {L M : List (Int × List Int)} {n m : Nat} (h : L.length = n) (h2 : M.length = m) : (L ++ M).length = n + m := by rw [List.length_append, h, h2]
end Go.Proofs.Ytchkiohikhfecaa
