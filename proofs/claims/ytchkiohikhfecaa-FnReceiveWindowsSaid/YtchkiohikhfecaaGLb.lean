/-
  Contracts of the laws' own small functions.
-/
import Derived.Test.YtchkiohikhfecaaGSl
import Derived.Test.YtchkiohikhfecaaGDp
import Derived.Test.YtchkiohikhfecaaOrdL
namespace Go.Proofs.Ytchkiohikhfecaa
open Go.RowKit
set_option maxRecDepth 100000

theorem big_c (A : Option Addr) (n c : Nat) (w : World) : Calls Try.prog 25 #[.slice A n c] w (RetV w (.bool (decide ((1048576 : Int) < ((n : Nat) : Int))))) := by
  refine calls_FA Try.func25 rfl (n := 6) rfl (l := [(0, Value.slice A n c)]) rfl (by simp) (fun g => ?_)
  have hS := St.init w
  refine wp_seq ?_
  refine c_reg ?_
  refine q_seg (S := (fun x_ => St w x_ [])) [(2, Value.bool false)] [.no] True (by kernel_rfl) trivial hS ?_
  refine l_nil rfl ?_
  refine then_n ?_
  refine wp_seq ?_
  refine c_reg ?_
  refine q_seg (S := (fun x_ => St w x_ [])) [(2, Value.bool (decide ((1048576 : Int) < ((n : Nat) : Int)))), (5, Value.bool (decide ((1048576 : Int) < ((n : Nat) : Int)))), (4, Value.int .i64 ((n : Nat) : Int)), (3, Value.slice A n c)] [.no, .no, .no, .no] True (by kernel_rfl) trivial hS ?_
  refine l_nil rfl ?_
  refine then_n ?_
  refine wp_ret ?_
  exact c_end (S := (fun x_ => St w x_ [])) (rs := [.tmp 2]) rfl [] (v := Value.bool (decide ((1048576 : Int) < ((n : Nat) : Int)))) (C := True) (by kernel_rfl) trivial hS ((hS.rv rfl))
theorem sameBytes_c (A B : Option Addr) (n c m d : Nat) (xs ys : List Int) (w : World) (hn : n ≤ 9223372036854775807) (hm : m ≤ 9223372036854775807) (hr : Rd w w.heap.size A n (xs.map (Value.int .u8))) (hr2 : Rd w w.heap.size B m (ys.map (Value.int .u8))) : Calls Try.prog 28 #[.slice A n c, .slice B m d] w (RetV w (.bool (decide (xs = ys)))) := by
  refine calls_FA Try.func28 rfl (n := 26) rfl (l := [(0, Value.slice A n c), (1, Value.slice B m d)]) rfl (by simp) (fun g => ?_)
  have hS := St.init w
  refine wp_seq ?_
  refine c_reg ?_
  refine q_seg (S := (fun x_ => St w x_ [])) [(4, Value.bool false)] [.no] True (by kernel_rfl) trivial hS ?_
  refine l_nil rfl ?_
  refine then_n ?_
  refine wp_seq ?_
  refine wp_seq ?_
  refine c_reg ?_
  refine q_seg (S := (fun x_ => St w x_ [])) [(10, Value.bool (!(decide (((n : Nat) : Int) = ((m : Nat) : Int))))), (9, Value.int .i64 ((m : Nat) : Int)), (8, Value.slice B m d), (7, Value.int .i64 ((n : Nat) : Int)), (6, Value.slice A n c)] [.no, .no, .no, .no, .no] True (by kernel_rfl) trivial hS ?_
  refine l_nil rfl ?_
  refine then_n ?_
  rcases Bool.eq_false_or_eq_true (decide (((n : Nat) : Int) = ((m : Nat) : Int))) with hb1 | hb1
  · skip
    have hb1p := of_decide_eq_true hb1
    refine c_false (b := (!(decide (((n : Nat) : Int) = ((m : Nat) : Int))))) (by kernel_rfl) (nb (v := true) hb1) ?_
    refine wp_skip ?_
    refine then_n ?_
    refine wp_seq ?_
    refine wp_seq ?_
    refine c_reg ?_
    refine q_seg (S := (fun x_ => St w x_ [])) [(5, Value.int .i64 0)] [.no] True (by kernel_rfl) trivial hS ?_
    refine l_nil rfl ?_
    refine then_n ?_
    refine wp_block ?_
    refine c_loop (X := Nat) (fun (k : Nat) => [(0, Value.slice A n c), (1, Value.slice B m d), (5, Value.int .i64 ((k : Nat) : Int))]) (fun (k : Nat) (wr : World) => (k ≤ n) ∧ (xs.take k = ys.take k) ∧ St w wr []) (fun (k : Nat) => n - k) 0 ?_ ?_ ?_
    · exact (agree_cons (by kernel_rfl) (agree_cons (by kernel_rfl) (agree_cons (by kernel_rfl) agree_nil)))
    · exact ⟨Nat.zero_le _, rfl, hS⟩
    rintro k g3 w2 ⟨hkn, htk, hS2⟩
    refine wp_seq ?_
    refine wp_seq ?_
    refine c_reg ?_
    refine q_seg (S := (fun x_ => St w x_ [])) [(14, Value.bool (decide (((k : Nat) : Int) < ((n : Nat) : Int)))), (13, Value.int .i64 ((n : Nat) : Int)), (12, Value.slice A n c), (11, Value.int .i64 ((k : Nat) : Int))] [.no, .no, .no, .no] True (by kernel_rfl) trivial hS2 ?_
    refine l_nil rfl ?_
    refine then_n ?_
    rcases Bool.eq_false_or_eq_true (decide (((k : Nat) : Int) < ((n : Nat) : Int))) with hb4 | hb4
    · skip
      have hb4p := of_decide_eq_true hb4
      obtain ⟨b, off, rfl, hbB, hcl⟩ := hr.2 (by omega)
      obtain ⟨b2, off2, rfl, hbB2, hcl2⟩ := hr2.2 (by omega)
      obtain ⟨z, hzk, hzm⟩ := get_of_lt (l := xs) (k := k) (by have := hr.len; omega)
      obtain ⟨y, hyk, hym⟩ := get_of_lt (l := ys) (k := k) (by have := hr2.len; omega)
      refine c_true (b := (decide (((k : Nat) : Int) < ((n : Nat) : Int)))) (by kernel_rfl) hb4 ?_
      refine wp_skip ?_
      refine then_n ?_
      refine wp_seq ?_
      refine wp_block ?_
      refine wp_seq ?_
      refine c_drawn [] (by kernel_rfl) hS2 (fun w5 hS5 => ?_)
      refine t_seg (S := (fun x_ => St w x_ [])) [(0, .no), (1, .no), (4, .no), (5, .no), (2, .no), (6, .no), (3, .v (Value.int .u8 z)), (7, .v (Value.int .u8 y)), (8, .no)] 0 #[true, true, true, true, true, true, true, true, true] [(25, Value.bool (!(decide (z = y)))), (24, Value.int .u8 y), (20, Value.int .u8 z), (23, Value.pointer (some ⟨b2, off2 + Int.toNat ((k : Nat) : Int) * 1, none⟩)), (19, Value.pointer (some ⟨b, off + Int.toNat ((k : Nat) : Int) * 1, none⟩)), (22, Value.int .i64 ((k : Nat) : Int)), (21, Value.slice (some ⟨b2, off2, none⟩) m d), (18, Value.int .i64 ((k : Nat) : Int)), (17, Value.slice (some ⟨b, off, none⟩) n c)] (((0 : Int) ≤ ((k : Nat) : Int)) ∧ (((k : Nat) : Int) < ((n : Nat) : Int)) ∧ ((0 : Int) ≤ ((k : Nat) : Int)) ∧ (((k : Nat) : Int) < ((m : Nat) : Int)) ∧ (LoadsAt Try.prog (fun x_ => St w x_ []) 5 ⟨b, off + Int.toNat ((k : Nat) : Int) * 1, none⟩ (Value.int .u8 z)) ∧ (LoadsAt Try.prog (fun x_ => St w x_ []) 5 ⟨b2, off2 + Int.toNat ((k : Nat) : Int) * 1, none⟩ (Value.int .u8 y))) (by kernel_rfl) (Qpanic.then (Qpanic.block (Qpanic.then (Qpanic.then (Qpanic.block (Qpanic.then Qpanic.bp)))))) rfl (by kernel_rfl) ⟨(by omega), (by omega), (by omega), (by omega), (ld_low (hcl _ _ (by simp [hzk])) (by kernel_rfl)), (ld_low (hcl2 _ _ (by simp [hyk])) (by kernel_rfl))⟩ hS5 ?_
      refine a_done (by kernel_rfl) ?_
      refine then_n ?_
      rcases Bool.eq_false_or_eq_true (decide (z = y)) with hb6 | hb6
      · skip
        have hb6p := of_decide_eq_true hb6
        refine c_false (b := (!(decide (z = y)))) (by kernel_rfl) (nb (v := true) hb6) ?_
        refine wp_skip ?_
        refine blk_n ?_
        refine then_n ?_
        refine c_reg ?_
        refine q_seg (S := (fun x_ => St w x_ [])) [(5, Value.int .i64 (((k : Nat) : Int) + (1 : Int))), (16, Value.int .i64 (((k : Nat) : Int) + (1 : Int))), (15, Value.int .i64 ((k : Nat) : Int))] [.no, .no, .no] ((InK .i64 (((k : Nat) : Int) + (1 : Int)))) (by kernel_rfl) (in64 (by omega) (by omega)) hS5 ?_
        refine l_nil rfl ?_
        refine then_n ?_
        refine round_end (k + 1) ?_ ?_ ?_
        · exact (agree_cons (by kernel_rfl) (agree_cons (by kernel_rfl) (agree_cons (by kernel_rfl) agree_nil)))
        · exact ⟨(by omega), (tk_step htk hzk hyk hb6p), hS5⟩
        · exact (by first | omega | (dsimp only; omega))
      · skip
        have hb6p := of_decide_eq_false hb6
        refine c_true (b := (!(decide (z = y)))) (by kernel_rfl) (nb (v := false) hb6) ?_
        refine wp_seq ?_
        refine c_reg ?_
        refine q_seg (S := (fun x_ => St w x_ [])) [(4, Value.bool false)] [.no] True (by kernel_rfl) trivial hS5 ?_
        refine l_nil rfl ?_
        refine then_n ?_
        refine wp_ret ?_
        refine blk_r ?_
        refine then_r ?_
        refine then_r ?_
        refine blk_r ?_
        refine then_r ?_
        exact c_end (S := (fun x_ => St w x_ [])) (rs := [.tmp 4]) rfl [] (v := Value.bool false) (C := True) (by kernel_rfl) trivial hS5 ((hS5.rv (congrArg Value.bool (decide_eq_false (fun e_ => hb6p (Option.some.inj (hzk.symm.trans ((congrArg (fun l => l[k]?) e_).trans hyk))))).symm)))
    · skip
      have hb4p := of_decide_eq_false hb4
      refine c_false (b := (decide (((k : Nat) : Int) < ((n : Nat) : Int)))) (by kernel_rfl) hb4 ?_
      refine wp_exit ?_
      refine then_x ?_
      refine then_x ?_
      refine blk_hit ?_
      refine then_n ?_
      refine wp_seq ?_
      refine c_reg ?_
      refine q_seg (S := (fun x_ => St w x_ [])) [(4, Value.bool true)] [.no] True (by kernel_rfl) trivial hS2 ?_
      refine l_nil rfl ?_
      refine then_n ?_
      refine wp_ret ?_
      exact c_end (S := (fun x_ => St w x_ [])) (rs := [.tmp 4]) rfl [] (v := Value.bool true) (C := True) (by kernel_rfl) trivial hS2 ((hS2.rv (congrArg Value.bool (decide_eq_true (by rw [take_all (by have := hr.len; omega), take_all (by have := hr2.len; omega)] at htk; exact htk)).symm)))
  · skip
    have hb1p := of_decide_eq_false hb1
    refine c_true (b := (!(decide (((n : Nat) : Int) = ((m : Nat) : Int))))) (by kernel_rfl) (nb (v := false) hb1) ?_
    refine wp_seq ?_
    refine c_reg ?_
    refine q_seg (S := (fun x_ => St w x_ [])) [(4, Value.bool false)] [.no] True (by kernel_rfl) trivial hS ?_
    refine l_nil rfl ?_
    refine then_n ?_
    refine wp_ret ?_
    refine then_r ?_
    exact c_end (S := (fun x_ => St w x_ [])) (rs := [.tmp 4]) rfl [] (v := Value.bool false) (C := True) (by kernel_rfl) trivial hS ((hS.rv (congrArg Value.bool (decide_eq_false (fun e_ => by have h1_ := hr.len; have h2_ := hr2.len; rw [e_] at h1_; omega)).symm)))
end Go.Proofs.Ytchkiohikhfecaa
