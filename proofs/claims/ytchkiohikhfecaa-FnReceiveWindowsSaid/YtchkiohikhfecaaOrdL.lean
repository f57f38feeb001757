/-
  What a receiving window does, the plain laws: it stays valid, delivers in order and once, and a repetition changes nothing.
-/
import Derived.Test.YtchkiohikhfecaaRcv
namespace Go.Proofs.Ytchkiohikhfecaa
open Go.RowKit
def lt1 (p q : Int × List Int) : Prop := p.1 < q.1
abbrev Srt (L : PL) : Prop := L.Pairwise lt1
section
variable {a x s t : Int} {L D l d : PL} {z : List Int} {n : Nat}
def hasS (x : Int) (l : PL) (t : Int) : Prop := t < x ∨ ∃ q ∈ l, q.1 = t
theorem mem_ins {q : Int × List Int} : q ∈ insR s z L ↔ q = (s, z) ∨ q ∈ L := by
  unfold insR
  conv => rhs; rw [← List.take_append_drop (cntLt s L) L]
  simp only [List.mem_append, List.mem_cons]
  constructor
  · rintro (h | h | h)
    · exact .inr (.inl h)
    · exact .inl h
    · exact .inr (.inr h)
  · rintro (h | h | h)
    · exact .inr (.inl h)
    · exact .inl h
    · exact .inr (.inr h)
theorem srt_ins : ∀ {L : PL}, Srt L → (∀ q ∈ L, q.1 ≠ s) → Srt (insR s z L)
  | [], _, _ => by simp [insR, cntLt, Srt]
  | q :: l, h, hne => by
    obtain ⟨h1, h2⟩ := List.pairwise_cons.1 h
    by_cases hq : q.1 < s
    · have e : insR s z (q :: l) = q :: insR s z l := by unfold insR; rw [cntLt, if_pos hq]; rfl
      rw [e]
      refine List.pairwise_cons.2 ⟨fun p hp => ?_, srt_ins h2 (fun p hp => hne p (List.mem_cons_of_mem _ hp))⟩
      rcases mem_ins.1 hp with rfl | hp
      · exact hq
      · exact h1 p hp
    · have e : insR s z (q :: l) = (s, z) :: q :: l := by unfold insR; rw [cntLt, if_neg hq]; rfl
      have hq2 := hne q (by simp)
      rw [e]
      refine List.pairwise_cons.2 ⟨fun p hp => ?_, h⟩
      rcases List.mem_cons.1 hp with rfl | hp
      · show s < p.1; omega
      · have : q.1 < p.1 := h1 p hp
        show s < p.1; omega
theorem dlv_has : ∀ {l d : PL} {x : Int}, hasS x l t → hasS (dlv x l d).1 (dlv x l d).2.1 t
  | [], _, _, h => h
  | q :: l, d, x, h => by
    rw [dlv]
    split
    · rename_i h1
      refine dlv_has ?_
      rcases h with h | ⟨p, hp, h⟩
      · exact .inl (by omega)
      · rcases List.mem_cons.1 hp with rfl | hp
        · exact .inl (by omega)
        · exact .inr ⟨p, hp, h⟩
    · exact h
theorem dlv_sub : ∀ {l d : PL} {x : Int}, ∀ q ∈ (dlv x l d).2.1, q ∈ l
  | [], _, _ => fun q h => h
  | p :: l, d, x => by
    rw [dlv]
    split
    · exact fun q h => List.mem_cons_of_mem _ (dlv_sub q h)
    · exact fun q h => h
theorem dlv_srt : ∀ {l d : PL} {x : Int}, Srt l → (∀ q ∈ l, x ≤ q.1) → Srt (dlv x l d).2.1 ∧ ((dlv x l d).2.2.length < 24 → ∀ q ∈ (dlv x l d).2.1, (dlv x l d).1 < q.1) ∧ x ≤ (dlv x l d).1
  | [], d, x, h, _ => ⟨h, fun _ q hq => by simp [dlv] at hq, Int.le_refl _⟩
  | p :: l, d, x, h, hx => by
    obtain ⟨h1, h2⟩ := List.pairwise_cons.1 h
    rw [dlv]
    split
    · rename_i h3
      have ih := dlv_srt (l := l) (d := d ++ [(0, p.2)]) (x := x + 1) h2 (fun q hq => by have : p.1 < q.1 := h1 q hq; omega)
      exact ⟨ih.1, ih.2.1, by have := ih.2.2; omega⟩
    · rename_i h3
      refine ⟨h, fun hd q hq => ?_, Int.le_refl _⟩
      have hp := hx p (by simp)
      have hne : p.1 ≠ x := fun e => h3 ⟨e, hd⟩
      show x < q.1
      rcases List.mem_cons.1 hq with rfl | hq
      · omega
      · have : p.1 < q.1 := h1 q hq; omega
theorem dlv_pre : ∀ {l d : PL} {x : Int}, ∃ M, (dlv x l d).2.2 = d ++ M ∧ ∀ q ∈ M, ∃ p ∈ l, q.2 = p.2
  | [], d, x => ⟨[], by simp [dlv], fun q h => by simp at h⟩
  | p :: l, d, x => by
    rw [dlv]
    split
    · obtain ⟨M, h1, h2⟩ := dlv_pre (l := l) (d := d ++ [(0, p.2)]) (x := x + 1)
      refine ⟨(0, p.2) :: M, by rw [h1, List.append_assoc]; rfl, fun q hq => ?_⟩
      rcases List.mem_cons.1 hq with rfl | hq
      · exact ⟨p, by simp, rfl⟩
      · obtain ⟨p', hp', e⟩ := h2 q hq; exact ⟨p', List.mem_cons_of_mem _ hp', e⟩
    · exact ⟨[], by simp, fun q h => by simp at h⟩
theorem fnd_is (h : 0 ≤ fnd (isP L s) L.length) : ∃ q ∈ L, q.1 = s := by
  obtain ⟨j, hj, hp⟩ := fnd_iff.1 h
  exact ⟨L[j], List.getElem_mem hj, by have := of_decide_eq_true hp; rw [sqAt_get (List.getElem?_eq_getElem hj)] at this; exact this⟩
theorem fnd_no (h : ¬ 0 ≤ fnd (isP L s) L.length) : ∀ q ∈ L, q.1 ≠ s := fun q hq e => by
  obtain ⟨j, hj, rfl⟩ := List.getElem_of_mem hq
  have := fnd_neg h j hj
  have h2 := of_decide_eq_false this
  rw [sqAt_get (List.getElem?_eq_getElem hj)] at h2
  exact h2 e
/-- What makes a window valid. -/
structure Ok (a : Int) (L D : PL) : Prop where
  ha : a = (D.length : Int) + 1
  hd : D.length ≤ 24
  hz : ∀ q ∈ D, q.2.length ≤ 60
  hs : Srt L
  hl : ∀ q ∈ L, a < q.1 ∧ q.1 ≤ a + 7 ∧ q.2.length ≤ 60
theorem srt_len : ∀ {L : PL} {a b : Int}, Srt L → (∀ q ∈ L, a < q.1 ∧ q.1 ≤ b) → a ≤ b → (L.length : Int) ≤ b - a
  | [], a, b, _, _, h => by simp; omega
  | p :: l, a, b, h, hb, _ => by
    obtain ⟨h1, h2⟩ := List.pairwise_cons.1 h
    have hp := hb p (by simp)
    have := srt_len (L := l) (a := p.1) (b := b) h2 (fun q hq => ⟨h1 q hq, (hb q (List.mem_cons_of_mem _ hq)).2⟩) hp.2
    rw [List.length_cons]; omega
theorem allK_get {P : Nat → Bool} : ∀ {n : Nat}, allK P n = true → ∀ k, k < n → P k = true
  | n + 1, h, k, hk => by
    rw [allK, Bool.and_eq_true] at h
    rcases Nat.lt_or_ge k n with h' | h'
    · exact allK_get h.1 k h'
    · rw [show k = n by omega]; exact h.2
theorem allK_of {P : Nat → Bool} : ∀ {n : Nat}, (∀ k, k < n → P k = true) → allK P n = true
  | 0, _ => rfl
  | n + 1, h => by rw [allK, allK_of (fun k hk => h k (by omega)), h n (by omega)]; rfl
theorem srt_adj : ∀ {L : PL}, (∀ k p q, L[k]? = some p → L[k + 1]? = some q → p.1 < q.1) → Srt L
  | [], _ => List.Pairwise.nil
  | p :: l, h => by
    have h2 : Srt l := srt_adj fun k a b ha hb => h (k + 1) a b (by simpa using ha) (by simpa using hb)
    refine List.pairwise_cons.2 ⟨?_, h2⟩
    cases l with
    | nil => intro q hq; simp at hq
    | cons q l =>
      have h0 : p.1 < q.1 := h 0 p q rfl rfl
      intro r hr
      rcases List.mem_cons.1 hr with rfl | hr
      · exact h0
      · have : q.1 < r.1 := (List.pairwise_cons.1 h2).1 r hr
        show p.1 < r.1; omega
theorem ok_of (h : vrecv a L D = true) : Ok a L D := by
  simp only [vrecv, Bool.and_eq_true, decide_eq_true_eq] at h
  obtain ⟨⟨⟨⟨h1, h2⟩, h3⟩, h4⟩, h5⟩ := h
  refine ⟨h1, h2, fun q hq => ?_, srt_adj fun k p q hp hq => ?_, fun q hq => ?_⟩
  · obtain ⟨j, hj, rfl⟩ := List.getElem_of_mem hq
    have := allK_get h4 j hj
    simpa [okB, List.getElem?_eq_getElem hj] using this
  · have hk := (List.getElem?_eq_some_iff.1 hq).1
    have := allK_get h5 (k + 1) hk
    simp [okR, hq, hp] at this
    exact this.2
  · obtain ⟨j, hj, rfl⟩ := List.getElem_of_mem hq
    have := allK_get h5 j hj
    simp only [okR, List.getElem?_eq_getElem hj, Bool.and_eq_true, decide_eq_true_eq] at this
    obtain ⟨h6, h7⟩ := inR_iff.1 this.1.1
    exact ⟨by omega, by omega, this.1.2⟩
theorem of_ok (h : Ok a L D) : vrecv a L D = true := by
  have hl := srt_len h.hs (fun q hq => ⟨(h.hl q hq).1, (h.hl q hq).2.1⟩) (by omega)
  have e1 : decide (a = (D.length : Int) + 1) = true := decide_eq_true h.ha
  have e2 : decide (D.length ≤ 24) = true := decide_eq_true h.hd
  have e3 : decide (L.length ≤ 8) = true := decide_eq_true (by omega)
  have e4 : allK (okB D) D.length = true := allK_of fun k hk => okB_t (List.getElem?_eq_getElem hk) (h.hz _ (List.getElem_mem hk))
  have e5 : allK (okR a L) L.length = true := allK_of fun k hk => by
    have hq := h.hl _ (List.getElem_mem hk)
    refine okR_t (List.getElem?_eq_getElem hk) (inR_true (by omega) (by omega)) hq.2.2 ?_
    rcases Nat.eq_zero_or_pos k with h0 | h0
    · exact .inl h0
    · right
      have hk1 : k - 1 < L.length := by omega
      exact ⟨_, List.getElem?_eq_getElem hk1, List.pairwise_iff_getElem.1 h.hs (k - 1) k hk1 hk (by omega)⟩
  rw [vrecv, e1, e2, e3, e4, e5]; rfl
theorem rOk_iff : rOk a L D s z = true ↔ (vrecv a L D = true ∧ z.length ≤ 60 ∧ a ≤ s ∧ s ≤ a + 7 ∧ (∀ q ∈ L, q.1 ≠ s) ∧ D.length < 24) := by
  simp only [rOk, Bool.and_eq_true, Bool.not_eq_true', decide_eq_false_iff_not]
  constructor
  · rintro ⟨h1, h2, h3, h4, h5⟩
    obtain ⟨h6, h7⟩ := inR_iff.1 h3
    exact ⟨h1, by omega, h6, by omega, fnd_no h4, by omega⟩
  · rintro ⟨h1, h2, h3, h4, h5, h6⟩
    refine ⟨h1, by omega, inR_true h3 (by omega), fun h => ?_, by omega⟩
    obtain ⟨q, hq, e⟩ := fnd_is h
    exact h5 q hq e
/-- What comes out of an accepted packet. -/
theorem rv_yes (h : rOk a L D s z = true) : rvA a L D s z = (dlv a (insR s z L) D).1 ∧ rvL a L D s z = (if 24 ≤ (dlv a (insR s z L) D).2.2.length then [] else (dlv a (insR s z L) D).2.1) ∧ rvD a L D s z = (dlv a (insR s z L) D).2.2 := by
  have e : recvP a L D s z = ((dlv a (insR s z L) D).1, (if 24 ≤ (dlv a (insR s z L) D).2.2.length then [] else (dlv a (insR s z L) D).2.1), (dlv a (insR s z L) D).2.2) := if_pos h
  simp [rvA, rvL, rvD, e]
theorem rv_pre (a : Int) (L D : PL) (s : Int) (z : List Int) : D.length ≤ (rvD a L D s z).length ∧ (rvD a L D s z).take D.length = D := by
  cases h : rOk a L D s z with
  | false => rw [(recv_no h).2.2]; exact ⟨Nat.le_refl _, List.take_length ..⟩
  | true =>
    rw [(rv_yes h).2.2]
    obtain ⟨M, e, _⟩ := dlv_pre (l := insR s z L) (d := D) (x := a)
    rw [e]; simp
theorem rv_keep (h : Ok a L D) : Ok (rvA a L D s z) (rvL a L D s z) (rvD a L D s z) ∧ (∀ t, hasS a L t → (rvD a L D s z).length < 24 → hasS (rvA a L D s z) (rvL a L D s z) t) ∧ (rOk a L D s z = true → (rvD a L D s z).length < 24 → hasS (rvA a L D s z) (rvL a L D s z) s) := by
  cases hr : rOk a L D s z with
  | false => obtain ⟨e1, e2, e3⟩ := recv_no hr; rw [e1, e2, e3]; exact ⟨h, fun t ht _ => ht, fun h => by cases h⟩
  | true =>
    obtain ⟨e1, e2, e3⟩ := rv_yes hr
    obtain ⟨_, hz, hs1, hs2, hne, hd⟩ := rOk_iff.1 hr
    have hsrt := srt_ins (z := z) h.hs hne
    have hx : ∀ q ∈ insR s z L, a ≤ q.1 := fun q hq => by
      rcases mem_ins.1 hq with rfl | hq
      · exact hs1
      · have := (h.hl q hq).1; omega
    have hs := dlv_srt (d := D) hsrt hx
    have hl := dlv_len (l := insR s z L) (x := a) h.hd
    rw [e1, e2, e3]
    refine ⟨⟨by have := h.ha; omega, hl.1, fun q hq => ?_, ?_, fun q hq => ?_⟩, fun t ht hlt => ?_, fun _ hlt => ?_⟩
    · obtain ⟨M, e, hM⟩ := dlv_pre (l := insR s z L) (d := D) (x := a)
      rw [e] at hq
      rcases List.mem_append.1 hq with hq | hq
      · exact h.hz q hq
      · obtain ⟨p, hp, e2⟩ := hM q hq
        rw [e2]
        rcases mem_ins.1 hp with rfl | hp
        · exact hz
        · exact (h.hl p hp).2.2
    · split
      · exact List.Pairwise.nil
      · exact hs.1
    · split at hq
      · simp at hq
      · rename_i h24
        have h1 := hs.2.1 (by omega) q hq
        have h2 := dlv_sub q hq
        refine ⟨h1, ?_, ?_⟩
        · rcases mem_ins.1 h2 with rfl | h2
          · have := hs.2.2; omega
          · have := (h.hl q h2).2.1; have := hs.2.2; omega
        · rcases mem_ins.1 h2 with rfl | h2
          · exact hz
          · exact (h.hl q h2).2.2
    · rw [if_neg (by omega)]
      refine dlv_has ?_
      rcases ht with ht | ⟨q, hq, e⟩
      · exact .inl ht
      · exact .inr ⟨q, mem_ins.2 (.inr hq), e⟩
    · rw [if_neg (by omega)]
      exact dlv_has (.inr ⟨(s, z), mem_ins.2 (.inl rfl), rfl⟩)
theorem rv_again (h : Ok a L D) : rvA (rvA a L D s z) (rvL a L D s z) (rvD a L D s z) s z = rvA a L D s z ∧ rvL (rvA a L D s z) (rvL a L D s z) (rvD a L D s z) s z = rvL a L D s z ∧ rvD (rvA a L D s z) (rvL a L D s z) (rvD a L D s z) s z = rvD a L D s z := by
  cases hr : rOk a L D s z with
  | false => obtain ⟨e1, e2, e3⟩ := recv_no hr; rw [e1, e2, e3]; exact recv_no hr
  | true =>
    refine recv_no ?_
    cases hr2 : rOk (rvA a L D s z) (rvL a L D s z) (rvD a L D s z) s z with
    | false => rfl
    | true =>
      obtain ⟨_, _, h1, h2, h3, h4⟩ := rOk_iff.1 hr2
      rcases (rv_keep h).2.2 hr h4 with h5 | ⟨q, hq, e⟩
      · omega
      · exact absurd e (h3 q hq)
theorem rv_first (h : Ok a L D) (hz : z.length ≤ 60) (hd : D.length ≠ 24) : D.length < (rvD a L D a z).length := by
  have hlt : D.length < 24 := by have := h.hd; omega
  have hr : rOk a L D a z = true := rOk_iff.2 ⟨of_ok h, hz, Int.le_refl _, by omega, fun q hq e => by have := (h.hl q hq).1; omega, hlt⟩
  rw [(rv_yes hr).2.2]
  have hc : cntLt a L = 0 := cntLt_eq (fun j hj => absurd hj (by omega)) (Nat.zero_le _) (by
    cases L with
    | nil => exact .inl rfl
    | cons q l => exact .inr (by have h1 := (h.hl q (by simp)).1; show ¬ q.1 < a; omega))
  have e : insR a z L = (a, z) :: L := by rw [insR, hc]; rfl
  rw [e, dlv, if_pos ⟨rfl, hlt⟩]
  obtain ⟨M, e2, _⟩ := dlv_pre (l := L) (d := D ++ [(0, z)]) (x := a + 1)
  rw [e2]; simp
/-- Numbers 1 to n, each with its own bytes. -/
structure Ord (n : Nat) (a : Int) (L D : PL) : Prop where
  ok : Ok a L D
  hn : D.length ≤ n
  hl : ∀ q ∈ L, q.1 ≤ n ∧ q.2 = [q.1, 5]
  hd : ∀ (j : Nat) (q : Int × List Int), D[j]? = some q → q.2 = [(j : Int) + 1, 5]
theorem dlv_ord : ∀ {l d : PL} {x : Int}, x = (d.length : Int) + 1 → d.length ≤ n → (∀ q ∈ l, q.1 ≤ n ∧ q.2 = [q.1, 5]) → (∀ (j : Nat) (q : Int × List Int), d[j]? = some q → q.2 = [(j : Int) + 1, 5]) → (dlv x l d).2.2.length ≤ n ∧ ∀ (j : Nat) (q : Int × List Int), (dlv x l d).2.2[j]? = some q → q.2 = [(j : Int) + 1, 5]
  | [], d, x, _, h1, _, h3 => ⟨h1, h3⟩
  | p :: l, d, x, h0, h1, h2, h3 => by
    rw [dlv]
    split
    · rename_i h4
      have hp := h2 p (by simp)
      refine dlv_ord (by rw [List.length_append, List.length_singleton]; omega) (by rw [List.length_append, List.length_singleton]; omega) (fun q hq => h2 q (List.mem_cons_of_mem _ hq)) (fun j q hq => ?_)
      rcases Nat.lt_or_ge j d.length with h' | h'
      · rw [List.getElem?_append_left h'] at hq; exact h3 j q hq
      · rw [List.getElem?_append_right h'] at hq
        have hj : j - d.length = 0 := by
          have := (List.getElem?_eq_some_iff.1 hq).1
          simp at this; omega
        rw [hj] at hq
        simp only [List.getElem?_cons_zero, Option.some.injEq] at hq
        subst hq
        rw [show ((0 : Int), p.2).2 = p.2 from rfl, hp.2]
        congr 1; omega
    · exact ⟨h1, h3⟩
theorem ord_nil (n : Nat) : Ord n 1 [] [] := ⟨⟨by simp, by simp, by simp, List.Pairwise.nil, by simp⟩, by simp, by simp, by simp⟩
theorem ord_step (hn : n ≤ 8) (h : Ord n a L D) (hs1 : 1 ≤ s) (hs2 : s ≤ n) : Ord n (rvA a L D s [s, 5]) (rvL a L D s [s, 5]) (rvD a L D s [s, 5]) ∧ ∀ t, hasS a L t ∨ t = s → hasS (rvA a L D s [s, 5]) (rvL a L D s [s, 5]) t := by
  have hk := rv_keep (s := s) (z := [s, 5]) h.ok
  have hO : (rvD a L D s [s, 5]).length ≤ n ∧ (∀ q ∈ rvL a L D s [s, 5], q.1 ≤ n ∧ q.2 = [q.1, 5]) ∧ ∀ (j : Nat) (q : Int × List Int), (rvD a L D s [s, 5])[j]? = some q → q.2 = [(j : Int) + 1, 5] := by
    cases hr : rOk a L D s [s, 5] with
    | false => obtain ⟨e1, e2, e3⟩ := recv_no hr; rw [e2, e3]; exact ⟨h.hn, h.hl, h.hd⟩
    | true =>
      obtain ⟨e1, e2, e3⟩ := rv_yes hr
      have hi : ∀ q ∈ insR s [s, 5] L, q.1 ≤ n ∧ q.2 = [q.1, 5] := fun q hq => by
        rcases mem_ins.1 hq with rfl | hq
        · exact ⟨hs2, rfl⟩
        · exact h.hl q hq
      have ho := dlv_ord h.ok.ha h.hn hi h.hd
      rw [e2, e3]
      refine ⟨ho.1, fun q hq => ?_, ho.2⟩
      split at hq
      · simp at hq
      · exact hi q (dlv_sub q hq)
  refine ⟨⟨hk.1, hO.1, hO.2.1, hO.2.2⟩, fun t ht => ?_⟩
  have h24 : (rvD a L D s [s, 5]).length < 24 := by have := hO.1; omega
  rcases ht with ht | rfl
  · exact hk.2.1 t ht h24
  · cases hr : rOk a L D t [t, 5] with
    | true => exact hk.2.2 hr h24
    | false =>
      refine hk.2.1 t ?_ h24
      by_cases h1 : t < a
      · exact .inl h1
      · by_cases h2 : ∃ q ∈ L, q.1 = t
        · exact .inr h2
        · have hlt : D.length < 24 := by have := h.hn; omega
          have ha := h.ok.ha
          have : rOk a L D t [t, 5] = true := rOk_iff.2 ⟨of_ok h.ok, by simp, by omega, by omega, fun q hq e => h2 ⟨q, hq, e⟩, hlt⟩
          rw [this] at hr; cases hr
/-- All have come. -/
theorem ord_end (h : Ord n a L D) (hs : ∀ t : Int, 1 ≤ t → t ≤ n → hasS a L t) : D.length = n ∧ a = (n : Int) + 1 ∧ L = [] := by
  have ha := h.ok.ha
  have hn := h.hn
  have e : D.length = n := by
    refine Decidable.byContradiction fun hne => ?_
    rcases hs a (by omega) (by omega) with h1 | ⟨q, hq, e⟩
    · omega
    · have := (h.ok.hl q hq).1; omega
  refine ⟨e, by omega, ?_⟩
  cases L with
  | nil => rfl
  | cons q l =>
    have h1 := (h.ok.hl q (by simp)).1
    have h2 := (h.hl q (by simp)).1
    omega
end
end Go.Proofs.Ytchkiohikhfecaa
