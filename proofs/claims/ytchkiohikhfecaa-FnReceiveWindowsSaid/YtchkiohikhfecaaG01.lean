/-
  Contracts of InRange, Mod, CeilDiv and the hash.
-/
import Derived.Test.YtchkiohikhfecaaPlain2
namespace Go.Proofs.Ytchkiohikhfecaa
open Go.RowKit
set_option maxRecDepth 100000

theorem InRange_c (n a b : Int) (w : World) : Calls Try.prog 69 #[.int .i64 n, .int .i64 a, .int .i64 b] w (RetV w (.bool (inR n a b))) := by
  refine calls_FA Try.func69 rfl (n := 15) rfl (l := [(0, Value.int .i64 n), (1, Value.int .i64 a), (2, Value.int .i64 b)]) rfl (by simp) (fun g => ?_)
  have hS := St.init w
  refine wp_seq ?_
  refine c_reg ?_
  refine q_seg (S := (fun x_ => St w x_ [])) [(6, Value.bool false)] [.no] True (by kernel_rfl) trivial hS ?_
  refine l_nil rfl ?_
  refine then_n ?_
  refine wp_seq ?_
  refine c_reg ?_
  refine q_seg (S := (fun x_ => St w x_ [])) [(10, Value.bool (decide (a ≤ n))), (9, Value.bool (decide (a ≤ n))), (8, Value.int .i64 n), (7, Value.int .i64 a)] [.no, .no, .no, .no] True (by kernel_rfl) trivial hS ?_
  rcases Bool.eq_false_or_eq_true (decide (a ≤ n)) with hb1 | hb1
  · skip
    have hb1p := of_decide_eq_true hb1
    refine q_seg (S := (fun x_ => St w x_ [])) [(6, Value.bool (decide (n ≤ b))), (14, Value.bool (decide (n ≤ b))), (13, Value.bool (decide (n ≤ b))), (12, Value.int .i64 b), (11, Value.int .i64 n)] [.no, .no, .no, .v (.bool true), .no] (((decide (a ≤ n)) = true) ∧ ((decide (a ≤ n)) = true) ∧ ((decide (a ≤ n)) = true) ∧ ((decide (a ≤ n)) = true)) (by kernel_rfl) ⟨hb1, hb1, hb1, hb1⟩ hS ?_
    refine l_nil rfl ?_
    refine then_n ?_
    refine wp_ret ?_
    exact c_end (S := (fun x_ => St w x_ [])) (rs := [.tmp 6]) rfl [] (v := Value.bool (decide (n ≤ b))) (C := True) (by kernel_rfl) trivial hS ((hS.rv (by simp [inR, *])))
  · skip
    have hb1p := of_decide_eq_false hb1
    refine q_seg (S := (fun x_ => St w x_ [])) [(6, Value.bool false), (14, Value.bool false), (13, undef), (12, undef), (11, undef)] [.skip, .skip, .skip, .v (.bool false), .no] (((decide (a ≤ n)) = !true) ∧ ((decide (a ≤ n)) = !true) ∧ ((decide (a ≤ n)) = !true) ∧ ((decide (a ≤ n)) = false)) (by kernel_rfl) ⟨hb1, hb1, hb1, hb1⟩ hS ?_
    refine l_nil rfl ?_
    refine then_n ?_
    refine wp_ret ?_
    exact c_end (S := (fun x_ => St w x_ [])) (rs := [.tmp 6]) rfl [] (v := Value.bool false) (C := True) (by kernel_rfl) trivial hS ((hS.rv (by simp [inR, *])))
theorem l1In_c (n a b : Int) (w : World) : Calls Try.prog 64 #[.int .i64 n, .int .i64 a, .int .i64 b] w (RetV w (.bool (inR n a b))) := by
  refine calls_FA Try.func64 rfl (n := 15) rfl (l := [(0, Value.int .i64 n), (1, Value.int .i64 a), (2, Value.int .i64 b)]) rfl (by simp) (fun g => ?_)
  have hS := St.init w
  refine wp_seq ?_
  refine c_reg ?_
  refine q_seg (S := (fun x_ => St w x_ [])) [(6, Value.bool false)] [.no] True (by kernel_rfl) trivial hS ?_
  refine l_nil rfl ?_
  refine then_n ?_
  refine wp_seq ?_
  refine c_reg ?_
  refine q_seg (S := (fun x_ => St w x_ [])) [(10, Value.bool (decide (a ≤ n))), (9, Value.bool (decide (a ≤ n))), (8, Value.int .i64 a), (7, Value.int .i64 n)] [.no, .no, .no, .no] True (by kernel_rfl) trivial hS ?_
  rcases Bool.eq_false_or_eq_true (decide (a ≤ n)) with hb1 | hb1
  · skip
    have hb1p := of_decide_eq_true hb1
    refine q_seg (S := (fun x_ => St w x_ [])) [(6, Value.bool (decide (n ≤ b))), (14, Value.bool (decide (n ≤ b))), (13, Value.bool (decide (n ≤ b))), (12, Value.int .i64 b), (11, Value.int .i64 n)] [.no, .no, .no, .v (.bool true), .no] (((decide (a ≤ n)) = true) ∧ ((decide (a ≤ n)) = true) ∧ ((decide (a ≤ n)) = true) ∧ ((decide (a ≤ n)) = true)) (by kernel_rfl) ⟨hb1, hb1, hb1, hb1⟩ hS ?_
    refine l_nil rfl ?_
    refine then_n ?_
    refine wp_ret ?_
    exact c_end (S := (fun x_ => St w x_ [])) (rs := [.tmp 6]) rfl [] (v := Value.bool (decide (n ≤ b))) (C := True) (by kernel_rfl) trivial hS ((hS.rv (by simp [inR, *])))
  · skip
    have hb1p := of_decide_eq_false hb1
    refine q_seg (S := (fun x_ => St w x_ [])) [(6, Value.bool false), (14, Value.bool false), (13, undef), (12, undef), (11, undef)] [.skip, .skip, .skip, .v (.bool false), .no] (((decide (a ≤ n)) = !true) ∧ ((decide (a ≤ n)) = !true) ∧ ((decide (a ≤ n)) = !true) ∧ ((decide (a ≤ n)) = false)) (by kernel_rfl) ⟨hb1, hb1, hb1, hb1⟩ hS ?_
    refine l_nil rfl ?_
    refine then_n ?_
    refine wp_ret ?_
    exact c_end (S := (fun x_ => St w x_ [])) (rs := [.tmp 6]) rfl [] (v := Value.bool false) (C := True) (by kernel_rfl) trivial hS ((hS.rv (by simp [inR, *])))
end Go.Proofs.Ytchkiohikhfecaa
