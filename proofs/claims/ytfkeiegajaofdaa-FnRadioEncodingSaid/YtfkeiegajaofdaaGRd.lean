/-
  Draws of radio packets.
-/
import Derived.Test.YtfkeiegajaofdaaGDr
import Derived.Test.YtfkeiegajaofdaaTxt
import Derived.Test.YtfkeiegajaofdaaSealL
import Derived.Test.YtfkeiegajaofdaaGSf
namespace Go.Proofs.Ytfkeiegajaofdaa
open Go.RowKit
set_option maxRecDepth 100000

theorem big_c (A : Option Addr) (n c : Nat) (w : World) : Calls Try.prog 22 #[.slice A n c] w (RetV w (.bool (decide ((1048576 : Int) < ((n : Nat) : Int))))) := by
  refine calls_FA Try.func22 rfl (n := 6) rfl (l := [(0, Value.slice A n c)]) rfl (by simp) (fun g => ?_)
  have hS := St.init w
  refine wp_seq ?_
  refine c_reg ?_
  refine q_seg (S := (fun x_ => St w x_ [])) [(2, Value.bool false)] [.no] True (by kernel_rfl) trivial hS ?_
  refine l_nil rfl ?_
  refine then_n ?_
  refine wp_seq ?_
  refine c_reg ?_
  refine q_seg (S := (fun x_ => St w x_ [])) [(2, Value.bool (decide ((1048576 : Int) < ((n : Nat) : Int)))), (5, Value.bool (decide ((1048576 : Int) < ((n : Nat) : Int)))), (4, Value.int .i64 ((n : Nat) : Int)), (3, Value.slice A n c)] [.no, .no, .no, .no] True (by kernel_rfl) trivial hS ?_
  refine l_nil rfl ?_
  refine then_n ?_
  refine wp_ret ?_
  exact c_end (S := (fun x_ => St w x_ [])) (rs := [.tmp 2]) rfl [] (v := Value.bool (decide ((1048576 : Int) < ((n : Nat) : Int)))) (C := True) (by kernel_rfl) trivial hS ((hS.rv rfl))
theorem sameBytes_c (A B : Option Addr) (n c m d : Nat) (xs ys : List Int) (w : World) (hn : n ≤ 9223372036854775807) (hm : m ≤ 9223372036854775807) (hr : Rd w w.heap.size A n (xs.map (Value.int .u8))) (hr2 : Rd w w.heap.size B m (ys.map (Value.int .u8))) : Calls Try.prog 30 #[.slice A n c, .slice B m d] w (RetV w (.bool (decide (xs = ys)))) := by
  refine calls_FA Try.func30 rfl (n := 26) rfl (l := [(0, Value.slice A n c), (1, Value.slice B m d)]) rfl (by simp) (fun g => ?_)
  have hS := St.init w
  refine wp_seq ?_
  refine c_reg ?_
  refine q_seg (S := (fun x_ => St w x_ [])) [(4, Value.bool false)] [.no] True (by kernel_rfl) trivial hS ?_
  refine l_nil rfl ?_
  refine then_n ?_
  refine wp_seq ?_
  refine wp_seq ?_
  refine c_reg ?_
  refine q_seg (S := (fun x_ => St w x_ [])) [(10, Value.bool (!(decide (((n : Nat) : Int) = ((m : Nat) : Int))))), (9, Value.int .i64 ((m : Nat) : Int)), (8, Value.slice B m d), (7, Value.int .i64 ((n : Nat) : Int)), (6, Value.slice A n c)] [.no, .no, .no, .no, .no] True (by kernel_rfl) trivial hS ?_
  refine l_nil rfl ?_
  refine then_n ?_
  rcases Bool.eq_false_or_eq_true (decide (((n : Nat) : Int) = ((m : Nat) : Int))) with hb1 | hb1
  · skip
    have hb1p := of_decide_eq_true hb1
    refine c_false (b := (!(decide (((n : Nat) : Int) = ((m : Nat) : Int))))) (by kernel_rfl) (nb (v := true) hb1) ?_
    refine wp_skip ?_
    refine then_n ?_
    refine wp_seq ?_
    refine wp_seq ?_
    refine c_reg ?_
    refine q_seg (S := (fun x_ => St w x_ [])) [(5, Value.int .i64 0)] [.no] True (by kernel_rfl) trivial hS ?_
    refine l_nil rfl ?_
    refine then_n ?_
    refine wp_block ?_
    refine c_loop (X := Nat) (fun (k : Nat) => [(0, Value.slice A n c), (1, Value.slice B m d), (5, Value.int .i64 ((k : Nat) : Int))]) (fun (k : Nat) (wr : World) => (k ≤ n) ∧ (xs.take k = ys.take k) ∧ St w wr []) (fun (k : Nat) => n - k) 0 ?_ ?_ ?_
    · exact (agree_cons (by kernel_rfl) (agree_cons (by kernel_rfl) (agree_cons (by kernel_rfl) agree_nil)))
    · exact ⟨Nat.zero_le _, rfl, hS⟩
    rintro k g3 w2 ⟨hkn, htk, hS2⟩
    refine wp_seq ?_
    refine wp_seq ?_
    refine c_reg ?_
    refine q_seg (S := (fun x_ => St w x_ [])) [(14, Value.bool (decide (((k : Nat) : Int) < ((n : Nat) : Int)))), (13, Value.int .i64 ((n : Nat) : Int)), (12, Value.slice A n c), (11, Value.int .i64 ((k : Nat) : Int))] [.no, .no, .no, .no] True (by kernel_rfl) trivial hS2 ?_
    refine l_nil rfl ?_
    refine then_n ?_
    rcases Bool.eq_false_or_eq_true (decide (((k : Nat) : Int) < ((n : Nat) : Int))) with hb4 | hb4
    · skip
      have hb4p := of_decide_eq_true hb4
      obtain ⟨b, off, rfl, hbB, hcl⟩ := hr.2 (by omega)
      obtain ⟨b2, off2, rfl, hbB2, hcl2⟩ := hr2.2 (by omega)
      obtain ⟨z, hzk, hzm⟩ := get_of_lt (l := xs) (k := k) (by have := hr.len; omega)
      obtain ⟨y, hyk, hym⟩ := get_of_lt (l := ys) (k := k) (by have := hr2.len; omega)
      refine c_true (b := (decide (((k : Nat) : Int) < ((n : Nat) : Int)))) (by kernel_rfl) hb4 ?_
      refine wp_skip ?_
      refine then_n ?_
      refine wp_seq ?_
      refine wp_block ?_
      refine wp_seq ?_
      refine c_drawn [] (by kernel_rfl) hS2 (fun w5 hS5 => ?_)
      refine t_seg (S := (fun x_ => St w x_ [])) [(0, .no), (1, .no), (4, .no), (5, .no), (2, .no), (6, .no), (3, .v (Value.int .u8 z)), (7, .v (Value.int .u8 y)), (8, .no)] 0 #[true, true, true, true, true, true, true, true, true] [(25, Value.bool (!(decide (z = y)))), (24, Value.int .u8 y), (20, Value.int .u8 z), (23, Value.pointer (some ⟨b2, off2 + Int.toNat ((k : Nat) : Int) * 1, none⟩)), (19, Value.pointer (some ⟨b, off + Int.toNat ((k : Nat) : Int) * 1, none⟩)), (22, Value.int .i64 ((k : Nat) : Int)), (21, Value.slice (some ⟨b2, off2, none⟩) m d), (18, Value.int .i64 ((k : Nat) : Int)), (17, Value.slice (some ⟨b, off, none⟩) n c)] (((0 : Int) ≤ ((k : Nat) : Int)) ∧ (((k : Nat) : Int) < ((n : Nat) : Int)) ∧ ((0 : Int) ≤ ((k : Nat) : Int)) ∧ (((k : Nat) : Int) < ((m : Nat) : Int)) ∧ (LoadsAt Try.prog (fun x_ => St w x_ []) 5 ⟨b, off + Int.toNat ((k : Nat) : Int) * 1, none⟩ (Value.int .u8 z)) ∧ (LoadsAt Try.prog (fun x_ => St w x_ []) 5 ⟨b2, off2 + Int.toNat ((k : Nat) : Int) * 1, none⟩ (Value.int .u8 y))) (by kernel_rfl) (Qpanic.then (Qpanic.block (Qpanic.then (Qpanic.then (Qpanic.block (Qpanic.then Qpanic.bp)))))) rfl (by kernel_rfl) ⟨(by omega), (by omega), (by omega), (by omega), (ld_low (hcl _ _ (by simp [hzk])) (by kernel_rfl)), (ld_low (hcl2 _ _ (by simp [hyk])) (by kernel_rfl))⟩ hS5 ?_
      refine a_done (by kernel_rfl) ?_
      refine then_n ?_
      rcases Bool.eq_false_or_eq_true (decide (z = y)) with hb6 | hb6
      · skip
        have hb6p := of_decide_eq_true hb6
        refine c_false (b := (!(decide (z = y)))) (by kernel_rfl) (nb (v := true) hb6) ?_
        refine wp_skip ?_
        refine blk_n ?_
        refine then_n ?_
        refine c_reg ?_
        refine q_seg (S := (fun x_ => St w x_ [])) [(5, Value.int .i64 (((k : Nat) : Int) + (1 : Int))), (16, Value.int .i64 (((k : Nat) : Int) + (1 : Int))), (15, Value.int .i64 ((k : Nat) : Int))] [.no, .no, .no] ((InK .i64 (((k : Nat) : Int) + (1 : Int)))) (by kernel_rfl) (in64 (by omega) (by omega)) hS5 ?_
        refine l_nil rfl ?_
        refine then_n ?_
        refine round_end (k + 1) ?_ ?_ ?_
        · exact (agree_cons (by kernel_rfl) (agree_cons (by kernel_rfl) (agree_cons (by kernel_rfl) agree_nil)))
        · exact ⟨(by omega), (tk_step htk hzk hyk hb6p), hS5⟩
        · exact (by first | omega | (dsimp only; omega))
      · skip
        have hb6p := of_decide_eq_false hb6
        refine c_true (b := (!(decide (z = y)))) (by kernel_rfl) (nb (v := false) hb6) ?_
        refine wp_seq ?_
        refine c_reg ?_
        refine q_seg (S := (fun x_ => St w x_ [])) [(4, Value.bool false)] [.no] True (by kernel_rfl) trivial hS5 ?_
        refine l_nil rfl ?_
        refine then_n ?_
        refine wp_ret ?_
        refine blk_r ?_
        refine then_r ?_
        refine then_r ?_
        refine blk_r ?_
        refine then_r ?_
        exact c_end (S := (fun x_ => St w x_ [])) (rs := [.tmp 4]) rfl [] (v := Value.bool false) (C := True) (by kernel_rfl) trivial hS5 ((hS5.rv (congrArg Value.bool (decide_eq_false (fun e_ => hb6p (Option.some.inj (hzk.symm.trans ((congrArg (fun l => l[k]?) e_).trans hyk))))).symm)))
    · skip
      have hb4p := of_decide_eq_false hb4
      refine c_false (b := (decide (((k : Nat) : Int) < ((n : Nat) : Int)))) (by kernel_rfl) hb4 ?_
      refine wp_exit ?_
      refine then_x ?_
      refine then_x ?_
      refine blk_hit ?_
      refine then_n ?_
      refine wp_seq ?_
      refine c_reg ?_
      refine q_seg (S := (fun x_ => St w x_ [])) [(4, Value.bool true)] [.no] True (by kernel_rfl) trivial hS2 ?_
      refine l_nil rfl ?_
      refine then_n ?_
      refine wp_ret ?_
      exact c_end (S := (fun x_ => St w x_ [])) (rs := [.tmp 4]) rfl [] (v := Value.bool true) (C := True) (by kernel_rfl) trivial hS2 ((hS2.rv (congrArg Value.bool (decide_eq_true (by rw [take_all (by have := hr.len; omega), take_all (by have := hr2.len; omega)] at htk; exact htk)).symm)))
  · skip
    have hb1p := of_decide_eq_false hb1
    refine c_true (b := (!(decide (((n : Nat) : Int) = ((m : Nat) : Int))))) (by kernel_rfl) (nb (v := false) hb1) ?_
    refine wp_seq ?_
    refine c_reg ?_
    refine q_seg (S := (fun x_ => St w x_ [])) [(4, Value.bool false)] [.no] True (by kernel_rfl) trivial hS ?_
    refine l_nil rfl ?_
    refine then_n ?_
    refine wp_ret ?_
    refine then_r ?_
    exact c_end (S := (fun x_ => St w x_ [])) (rs := [.tmp 4]) rfl [] (v := Value.bool false) (C := True) (by kernel_rfl) trivial hS ((hS.rv (congrArg Value.bool (decide_eq_false (fun e_ => by have h1_ := hr.len; have h2_ := hr2.len; rw [e_] at h1_; omega)).symm)))
theorem FormatInt_s_c (a : Int) (w : World) (h0 : 0 ≤ a) (h1 : a ≤ 999) : Calls Try.prog 98 #[.int .i64 a] w (Ret w (fun v new => ∃ s : ByteArray, v = .string s ∧ new = [] ∧ s.size ≤ 4)) := by
  refine calls_FA Try.func98 rfl (n := 31) rfl (l := [(0, Value.int .i64 a)]) rfl (by simp) (fun g => ?_)
  have hS := St.init w
  refine wp_seq ?_
  refine c_reg ?_
  refine q_seg (S := (fun x_ => St w x_ [])) [(2, Value.string (⟨#[]⟩ : ByteArray))] [.no] True (by kernel_rfl) trivial hS ?_
  refine l_nil rfl ?_
  refine then_n ?_
  refine wp_seq ?_
  refine wp_seq ?_
  refine c_reg ?_
  refine q_seg (S := (fun x_ => St w x_ [])) [(7, Value.bool (decide (a = (0 : Int)))), (6, Value.int .i64 a)] [.no, .no] True (by kernel_rfl) trivial hS ?_
  refine l_nil rfl ?_
  refine then_n ?_
  rcases Bool.eq_false_or_eq_true (decide (a = (0 : Int))) with hb1 | hb1
  · skip
    have hb1p := of_decide_eq_true hb1
    refine c_true (b := (decide (a = (0 : Int)))) (by kernel_rfl) hb1 ?_
    refine wp_seq ?_
    refine c_reg ?_
    refine q_seg (S := (fun x_ => St w x_ [])) [(2, Value.string (⟨#[48]⟩ : ByteArray))] [.no] True (by kernel_rfl) trivial hS ?_
    refine l_nil rfl ?_
    refine then_n ?_
    refine wp_ret ?_
    refine then_r ?_
    exact c_end (S := (fun x_ => St w x_ [])) (rs := [.tmp 2]) rfl [] (v := Value.string (⟨#[48]⟩ : ByteArray)) (C := True) (by kernel_rfl) trivial hS ((hS.sub List.Sublist.slnil).rt ⟨_, rfl, rfl, by decide⟩)
  · skip
    have hb1p := of_decide_eq_false hb1
    refine c_false (b := (decide (a = (0 : Int)))) (by kernel_rfl) hb1 ?_
    refine wp_skip ?_
    refine then_n ?_
    refine wp_seq ?_
    refine c_reg ?_
    refine q_seg (S := (fun x_ => St w x_ [])) [(3, Value.string (⟨#[]⟩ : ByteArray))] [.no] True (by kernel_rfl) trivial hS ?_
    refine l_nil rfl ?_
    refine then_n ?_
    refine wp_seq ?_
    refine wp_seq ?_
    refine c_reg ?_
    refine q_seg (S := (fun x_ => St w x_ [])) [(4, Value.int .i64 a), (8, Value.int .i64 a)] [.no, .no] True (by kernel_rfl) trivial hS ?_
    refine l_nil rfl ?_
    refine then_n ?_
    refine wp_block ?_
    refine c_loop (X := Int × ByteArray) (fun (x_ : Int × ByteArray) => match x_ with | (x, s) => [(0, Value.int .i64 a), (3, Value.string s), (4, Value.int .i64 x)]) (fun (x_ : Int × ByteArray) (wr : World) => match x_ with | (x, s) => (Dig x s.size) ∧ St w wr []) (fun (x_ : Int × ByteArray) => match x_ with | (x, s) => x.toNat) ((a, ⟨#[]⟩)) ?_ ?_ ?_
    · exact (agree_cons (by kernel_rfl) (agree_cons (by kernel_rfl) (agree_cons (by kernel_rfl) agree_nil)))
    · exact ⟨⟨h0, Or.inl ⟨h1, rfl⟩⟩, hS⟩
    rintro ⟨x, s⟩ g3 w2 ⟨hD, hS2⟩
    obtain ⟨hx0, hx9, hs3⟩ : 0 ≤ x ∧ x ≤ 999 ∧ s.size ≤ 3 := by unfold Dig at hD; omega
    refine wp_seq ?_
    refine wp_seq ?_
    refine c_reg ?_
    refine q_seg (S := (fun x_ => St w x_ [])) [(10, Value.bool (!(decide (x = (0 : Int))))), (9, Value.int .i64 x)] [.no, .no] True (by kernel_rfl) trivial hS2 ?_
    refine l_nil rfl ?_
    refine then_n ?_
    rcases Bool.eq_false_or_eq_true (decide (x = (0 : Int))) with hb4 | hb4
    · skip
      have hb4p := of_decide_eq_true hb4
      refine c_false (b := (!(decide (x = (0 : Int))))) (by kernel_rfl) (nb (v := true) hb4) ?_
      refine wp_exit ?_
      refine then_x ?_
      refine then_x ?_
      refine blk_hit ?_
      refine then_n ?_
      refine wp_seq ?_
      refine wp_seq ?_
      refine c_reg ?_
      refine q_seg (S := (fun x_ => St w x_ [])) [(27, Value.bool (decide (a < (0 : Int)))), (26, Value.int .i64 a)] [.no, .no] True (by kernel_rfl) trivial hS2 ?_
      refine l_nil rfl ?_
      refine then_n ?_
      refine c_false (b := (decide (a < (0 : Int)))) (by kernel_rfl) (decide_eq_false (by omega)) ?_
      refine wp_skip ?_
      refine then_n ?_
      refine wp_seq ?_
      refine c_reg ?_
      refine q_seg (S := (fun x_ => St w x_ [])) [(2, Value.string s), (30, Value.string s)] [.no, .no] True (by kernel_rfl) trivial hS2 ?_
      refine l_nil rfl ?_
      refine then_n ?_
      refine wp_ret ?_
      have hs3 : s.size ≤ 3 := by unfold Dig at hD; omega
      exact c_end (S := (fun x_ => St w x_ [])) (rs := [.tmp 2]) rfl [] (v := Value.string s) (C := True) (by kernel_rfl) trivial hS2 ((hS2.sub List.Sublist.slnil).rt ⟨_, rfl, rfl, by omega⟩)
    · skip
      have hb4p := of_decide_eq_false hb4
      refine c_true (b := (!(decide (x = (0 : Int))))) (by kernel_rfl) (nb (v := false) hb4) ?_
      refine wp_skip ?_
      refine then_n ?_
      refine wp_seq ?_
      refine wp_block ?_
      refine wp_seq ?_
      refine c_reg ?_
      refine q_seg (S := (fun x_ => St w x_ [])) [(5, Value.int .i64 (x % (10 : Int))), (14, Value.int .i64 (x % (10 : Int))), (13, Value.int .i64 x)] [.no, .no, .no] (((0 : Int) ≤ x) ∧ ((0 : Int) < (10 : Int))) (by kernel_rfl) ⟨(by omega), (by omega)⟩ hS2 ?_
      refine l_nil rfl ?_
      refine then_n ?_
      refine wp_seq ?_
      refine wp_seq ?_
      refine c_reg ?_
      refine q_seg (S := (fun x_ => St w x_ [])) [(16, Value.bool (decide ((x % (10 : Int)) < (0 : Int)))), (15, Value.int .i64 (x % (10 : Int)))] [.no, .no] True (by kernel_rfl) trivial hS2 ?_
      refine l_nil rfl ?_
      refine then_n ?_
      refine c_false (b := (decide ((x % (10 : Int)) < (0 : Int)))) (by kernel_rfl) (decide_eq_false (by omega)) ?_
      refine wp_skip ?_
      refine then_n ?_
      refine c_reg ?_
      refine q_seg (S := (fun x_ => St w x_ [])) [(21, Value.int .u8 ((48 : Int) + (x % (10 : Int)))), (20, Value.int .i64 ((48 : Int) + (x % (10 : Int)))), (19, Value.int .i64 (x % (10 : Int)))] [.no, .no, .no] ((InK .i64 ((48 : Int) + (x % (10 : Int)))) ∧ (InK .u8 ((48 : Int) + (x % (10 : Int))))) (by kernel_rfl) ⟨(in64 (by omega) (by omega)), (in8 (by omega) (by omega))⟩ hS2 ?_
      refine l_op rfl rfl (fun K hK => op_buildSlice (d := some 22) rfl rfl (e := 5) (by kernel_rfl) 1 (by kernel_rfl) (by decide) (by decide) [Value.int .u8 ((48 : Int) + (x % (10 : Int)))] (by kernel_rfl) rfl hS2 (fun blk6 w5 hS5 => hK _ _ ?_))
      clear hK K
      refine q_seg (S := (fun x_ => St w x_ [Res.row (Value.slice (some ⟨blk6, 0, none⟩) 1 1) 5 1 1 ([Value.int .u8 ((48 : Int) + (x % (10 : Int)))])])) [(3, Value.string ((bstr ([((48 : Int) + (x % (10 : Int)))])) ++ s)), (25, Value.string ((bstr ([((48 : Int) + (x % (10 : Int)))])) ++ s)), (24, Value.string s), (23, Value.string (bstr ([((48 : Int) + (x % (10 : Int)))])))] [.v (Value.string (bstr ([((48 : Int) + (x % (10 : Int)))]))), .no, .no, .no] ((YieldsAt Try.prog (fun x_ => St w x_ [Res.row (Value.slice (some ⟨blk6, 0, none⟩) 1 1) 5 1 1 ([Value.int .u8 ((48 : Int) + (x % (10 : Int)))])]) (convert 22 9 (Value.slice (some ⟨blk6, 0, none⟩) 1 1)) (Value.string (bstr ([((48 : Int) + (x % (10 : Int)))])))) ∧ (ByteArray.size (bstr ([((48 : Int) + (x % (10 : Int)))])) + ByteArray.size s ≤ 9223372036854775807)) (by kernel_rfl) ⟨(conv_b (e := 5) (by kernel_rfl) (by kernel_rfl) (by kernel_rfl) (fun _ hx_ => (hx_.rd (List.mem_of_getElem? (i := 0) rfl)).u1)), (by rw [bstr_size]; simp only [List.length_cons, List.length_nil]; omega)⟩ hS5 ?_
      refine l_nil rfl ?_
      refine blk_n ?_
      refine then_n ?_
      refine c_reg ?_
      refine q_seg (S := (fun x_ => St w x_ [Res.row (Value.slice (some ⟨blk6, 0, none⟩) 1 1) 5 1 1 ([Value.int .u8 ((48 : Int) + (x % (10 : Int)))])])) [(4, Value.int .i64 (x / (10 : Int))), (12, Value.int .i64 (x / (10 : Int))), (11, Value.int .i64 x)] [.no, .no, .no] (((0 : Int) ≤ x) ∧ ((0 : Int) < (10 : Int)) ∧ (InK .i64 (x / (10 : Int)))) (by kernel_rfl) ⟨(by omega), (by omega), (in64 (by omega) (by omega))⟩ hS5 ?_
      refine l_nil rfl ?_
      refine then_n ?_
      refine round_end ((x / 10, ((bstr ([((48 : Int) + (x % (10 : Int)))])) ++ s))) ?_ ?_ ?_
      · exact (agree_cons (by kernel_rfl) (agree_cons (by kernel_rfl) (agree_cons (by kernel_rfl) agree_nil)))
      · exact ⟨(by rw [ByteArray.size_append, bstr_size]; exact Dig.step hD hb4p), hS5.drop⟩
      · exact (by first | omega | (dsimp only; omega))
theorem l24Text_s_c (n : Int) (w : World) (h0 : 0 ≤ n) (h1 : n ≤ 142) : Calls Try.prog 70 #[.int .i64 n] w (Ret w (fun v new => ∃ (zs : List Int) (A : Option Addr) (c : Nat), v = .slice A (List.length zs) c ∧ new = [.ro (.slice A (List.length zs) c) (List.length zs) (zs.map (Value.int .u8))] ∧ okz .u8 zs ∧ List.length zs ≤ 4)) := by
  refine calls_FA Try.func70 rfl (n := 7) rfl (l := [(0, Value.int .i64 n)]) rfl (by simp) (fun g => ?_)
  have hS := St.init w
  refine wp_seq ?_
  refine c_reg ?_
  refine q_seg (S := (fun x_ => St w x_ [])) [(2, Value.slice none 0 0)] [.no] True (by kernel_rfl) trivial hS ?_
  refine l_nil rfl ?_
  refine then_n ?_
  refine wp_seq ?_
  refine c_reg ?_
  refine q_seg (S := (fun x_ => St w x_ [])) [(4, Value.int .i64 (n * (7 : Int))), (3, Value.int .i64 n)] [.no, .no] ((InK .i64 (n * (7 : Int)))) (by kernel_rfl) (in64 (by omega) (by omega)) hS ?_
  refine l_op rfl rfl (fun K hK => op_call (d := some 5) rfl rfl ⟨_, Try.func98, by kernel_rfl, by kernel_rfl⟩ (vs := [Value.int .i64 (n * (7 : Int))]) (by kernel_rfl) (FormatInt_s_c (n * (7 : Int)) w (by omega) (by omega)) hS (fun v2 new3 w1 Rw1 hS1 => hK _ _ ?_))
  clear hK K
  obtain ⟨sx4, rfl, rfl, sx4n⟩ := Rw1
  refine l_op rfl rfl (fun K hK => op_convS (d := some 6) rfl rfl (s := sx4) rfl (e := 5) (by kernel_rfl) (by kernel_rfl) (by kernel_rfl) hS1 (fun blk6 cv7 w5 hS5 => hK _ _ ?_))
  clear hK K
  refine q_seg (S := (fun x_ => St w x_ [Res.ro (Value.slice (some ⟨blk6, 0, none⟩) (List.length (bytesZ sx4)) cv7) (List.length (bytesZ sx4)) ((bytesZ sx4).map (Value.int .u8))])) [(2, Value.slice (some ⟨blk6, 0, none⟩) (List.length (bytesZ sx4)) cv7)] [.no] True (by kernel_rfl) trivial hS5 ?_
  refine l_nil rfl ?_
  refine then_n ?_
  refine wp_ret ?_
  exact c_end (S := (fun x_ => St w x_ [Res.ro (Value.slice (some ⟨blk6, 0, none⟩) (List.length (bytesZ sx4)) cv7) (List.length (bytesZ sx4)) ((bytesZ sx4).map (Value.int .u8))])) (rs := [.tmp 2]) rfl [] (v := Value.slice (some ⟨blk6, 0, none⟩) (List.length (bytesZ sx4)) cv7) (C := True) (by kernel_rfl) trivial hS5 ((hS5.sub (List.Sublist.cons_cons _ List.Sublist.slnil)).rt ⟨(bytesZ sx4), _, _, rfl, rfl, bytesZ_ok _, by rw [bytesZ_len]; exact sx4n⟩)
theorem l5Key_s_c (b : Nat) (A : Option Addr) (n c : Nat) (i h : Int)  (tl : List Res) (w0 w : World) (hS : St w0 w (Res.box b [Value.slice A n c, Value.int .i64 i, Value.int .i64 h] 95 :: tl)) (hC : CurI w0 A n i)  : Calls Try.prog 68 #[.pointer (some ⟨b, 0, none⟩)] w (fun e w' => ∃ v own', e = .returned v ∧ St w0 w' own' ∧ (∃ (i' h' : Int) (x_ : Int), v = Value.int .i64 x_ ∧ own' = (Res.box b [Value.slice A n c, Value.int .i64 i', Value.int .i64 h'] 95 :: tl) ∧ CurI w0 A n i' ∧ (100 ≤ x_) ∧ (x_ ≤ 105))) := by
  obtain ⟨hClo, hChi, hCn, _⟩ := id hC
  refine calls_FA Try.func68 rfl (n := 6) rfl (l := [(0, Value.pointer (some ⟨b, 0, none⟩))]) rfl (by simp) (fun g => ?_)
  refine wp_seq ?_
  refine c_reg ?_
  refine q_seg (S := (fun x_ => St w0 x_ (Res.box b [Value.slice A n c, Value.int .i64 i, Value.int .i64 h] 95 :: tl))) [(2, Value.int .i64 0)] [.no] True (by kernel_rfl) trivial hS ?_
  refine l_nil rfl ?_
  refine then_n ?_
  refine wp_seq ?_
  refine c_reg ?_
  refine q_seg (S := (fun x_ => St w0 x_ (Res.box b [Value.slice A n c, Value.int .i64 i, Value.int .i64 h] 95 :: tl))) [(3, Value.pointer (some ⟨b, 0, none⟩))] [.no] True (by kernel_rfl) trivial hS ?_
  refine l_op rfl rfl (fun K hK => op_callm (d := some 4) rfl rfl ⟨_, Try.func69, by kernel_rfl, by kernel_rfl⟩ (vs := [Value.pointer (some ⟨b, 0, none⟩), Value.int .i64 6]) (by kernel_rfl) (l1Below_s_c b A n c i h (6 : Int) _ w0 w hS hC (by omega)) (fun v2 new3 w1 Rw1 hS1 => ?_))
  obtain ⟨ix5, hx6, xd4, rfl, rfl, hC7, hf8, hf9⟩ := Rw1
  refine hK _ _ ?_
  clear hK K
  refine q_seg (S := (fun x_ => St w0 x_ (Res.box b [Value.slice A n c, Value.int .i64 ix5, Value.int .i64 hx6] 95 :: tl))) [(2, Value.int .i64 ((100 : Int) + xd4)), (5, Value.int .i64 ((100 : Int) + xd4))] [.no, .no] ((InK .i64 ((100 : Int) + xd4))) (by kernel_rfl) (in64 (by omega) (by omega)) hS1 ?_
  refine l_nil rfl ?_
  refine then_n ?_
  refine wp_ret ?_
  exact c_end (S := (fun x_ => St w0 x_ (Res.box b [Value.slice A n c, Value.int .i64 ix5, Value.int .i64 hx6] 95 :: tl))) (rs := [.tmp 2]) rfl [] (v := Value.int .i64 ((100 : Int) + xd4)) (C := True) (by kernel_rfl) trivial hS1 (⟨_, _, rfl, hS1, ix5, hx6, ((100 : Int) + xd4), rfl, rfl, hC7, (by omega), (by omega)⟩)
end Go.Proofs.Ytfkeiegajaofdaa
