/-
  Contracts of the paging functions, of the program and of the reference; the walk of the law FnExactIsValidPaging.
-/
import Derived.Test.YtkcedoehehjceaaGSl
import Derived.Test.YtkcedoehehjceaaTypes
namespace Go.Proofs.Ytkcedoehehjceaa
open Go.RowKit
set_option maxRecDepth 100000


theorem toPagingState_c (a0 : Int) (a1 : Int) (a2 : Int) (w : World) : Calls Try.prog 10 #[Value.agg #[Value.int .i64 a0, Value.int .i64 a1, Value.int .i64 a2]] w (RetV w (Value.agg #[Value.int .i64 a0, Value.int .i64 a1, Value.int .i64 a2])) := by
  refine calls_FA Try.func10 rfl (n := 14) rfl (l := [(0, Value.agg #[Value.int .i64 a0, Value.int .i64 a1, Value.int .i64 a2])]) rfl (by simp) (fun g => ?_)
  have hS := St.init w
  refine wp_seq ?_
  refine c_reg ?_
  refine l_op rfl rfl (fun K hK => op_box (d := some 1) rfl rfl [Value.int .i64 a0, Value.int .i64 a1, Value.int .i64 a2] (by kernel_rfl) hS (fun blk2 w1 hS1 => hK _ _ ?_))
  clear hK K
  refine l_op rfl rfl (fun K hK => op_alloc (d := some 2) rfl rfl [Value.int .i64 0, Value.int .i64 0, Value.int .i64 0] (by kernel_rfl) hS1 (fun blk4 w3 hS3 => hK _ _ ?_))
  clear hK K
  refine l_nil rfl ?_
  refine then_n ?_
  refine wp_seq ?_
  refine c_reg ?_
  refine l_op rfl rfl (fun K hK => op_alloc (d := some 3) rfl rfl [Value.int .i64 0, Value.int .i64 0, Value.int .i64 0] (by kernel_rfl) hS3 (fun blk6 w5 hS5 => hK _ _ ?_))
  clear hK K
  refine l_nil rfl ?_
  refine then_n ?_
  refine wp_seq ?_
  refine c_reg ?_
  refine q_seg (S := (fun x_ => St w x_ [Res.box blk6 [Value.int .i64 0, Value.int .i64 0, Value.int .i64 0] 25, Res.box blk4 [Value.int .i64 0, Value.int .i64 0, Value.int .i64 0] 25, Res.box blk2 [Value.int .i64 a0, Value.int .i64 a1, Value.int .i64 a2] 23])) [(6, Value.pointer (some ⟨blk6, 0 + 0, none⟩)), (5, Value.int .i64 a0), (4, Value.pointer (some ⟨blk2, 0 + 0, none⟩))] [.no, .v (Value.int .i64 a0), .no] ((LoadsAt Try.prog (fun x_ => St w x_ [Res.box blk6 [Value.int .i64 0, Value.int .i64 0, Value.int .i64 0] 25, Res.box blk4 [Value.int .i64 0, Value.int .i64 0, Value.int .i64 0] 25, Res.box blk2 [Value.int .i64 a0, Value.int .i64 a1, Value.int .i64 a2] 23]) 3 ⟨blk2, 0 + 0, none⟩ (Value.int .i64 a0))) (by kernel_rfl) (ld_box (i := 2) rfl rfl (by kernel_rfl)) hS5 ?_
  refine l_op rfl rfl (fun K hK => op_store (d := none) rfl rfl (i := 0) (b := blk6) (off := 0 + 0) (cs := [Value.int .i64 0, Value.int .i64 0, Value.int .i64 0]) (bt := 25) (by kernel_rfl) (by kernel_rfl) [Value.int .i64 a0] (by kernel_rfl) (by kernel_rfl) (Nat.le_of_ble_eq_true (by kernel_rfl)) (by kernel_rfl) [Res.box blk6 [Value.int .i64 a0, Value.int .i64 0, Value.int .i64 0] 25, Res.box blk4 [Value.int .i64 0, Value.int .i64 0, Value.int .i64 0] 25, Res.box blk2 [Value.int .i64 a0, Value.int .i64 a1, Value.int .i64 a2] 23] (by kernel_rfl) hS5 (fun w7 hS7 => hK _ _ ?_))
  clear hK K
  refine l_nil rfl ?_
  refine then_n ?_
  refine wp_seq ?_
  refine c_reg ?_
  refine q_seg (S := (fun x_ => St w x_ [Res.box blk6 [Value.int .i64 a0, Value.int .i64 0, Value.int .i64 0] 25, Res.box blk4 [Value.int .i64 0, Value.int .i64 0, Value.int .i64 0] 25, Res.box blk2 [Value.int .i64 a0, Value.int .i64 a1, Value.int .i64 a2] 23])) [(9, Value.pointer (some ⟨blk6, 0 + 1, none⟩)), (8, Value.int .i64 a1), (7, Value.pointer (some ⟨blk2, 0 + 1, none⟩))] [.no, .v (Value.int .i64 a1), .no] ((LoadsAt Try.prog (fun x_ => St w x_ [Res.box blk6 [Value.int .i64 a0, Value.int .i64 0, Value.int .i64 0] 25, Res.box blk4 [Value.int .i64 0, Value.int .i64 0, Value.int .i64 0] 25, Res.box blk2 [Value.int .i64 a0, Value.int .i64 a1, Value.int .i64 a2] 23]) 3 ⟨blk2, 0 + 1, none⟩ (Value.int .i64 a1))) (by kernel_rfl) (ld_box (i := 2) rfl rfl (by kernel_rfl)) hS7 ?_
  refine l_op rfl rfl (fun K hK => op_store (d := none) rfl rfl (i := 0) (b := blk6) (off := 0 + 1) (cs := [Value.int .i64 a0, Value.int .i64 0, Value.int .i64 0]) (bt := 25) (by kernel_rfl) (by kernel_rfl) [Value.int .i64 a1] (by kernel_rfl) (by kernel_rfl) (Nat.le_of_ble_eq_true (by kernel_rfl)) (by kernel_rfl) [Res.box blk6 [Value.int .i64 a0, Value.int .i64 a1, Value.int .i64 0] 25, Res.box blk4 [Value.int .i64 0, Value.int .i64 0, Value.int .i64 0] 25, Res.box blk2 [Value.int .i64 a0, Value.int .i64 a1, Value.int .i64 a2] 23] (by kernel_rfl) hS7 (fun w8 hS8 => hK _ _ ?_))
  clear hK K
  refine l_nil rfl ?_
  refine then_n ?_
  refine wp_seq ?_
  refine c_reg ?_
  refine q_seg (S := (fun x_ => St w x_ [Res.box blk6 [Value.int .i64 a0, Value.int .i64 a1, Value.int .i64 0] 25, Res.box blk4 [Value.int .i64 0, Value.int .i64 0, Value.int .i64 0] 25, Res.box blk2 [Value.int .i64 a0, Value.int .i64 a1, Value.int .i64 a2] 23])) [(12, Value.pointer (some ⟨blk6, 0 + 2, none⟩)), (11, Value.int .i64 a2), (10, Value.pointer (some ⟨blk2, 0 + 2, none⟩))] [.no, .v (Value.int .i64 a2), .no] ((LoadsAt Try.prog (fun x_ => St w x_ [Res.box blk6 [Value.int .i64 a0, Value.int .i64 a1, Value.int .i64 0] 25, Res.box blk4 [Value.int .i64 0, Value.int .i64 0, Value.int .i64 0] 25, Res.box blk2 [Value.int .i64 a0, Value.int .i64 a1, Value.int .i64 a2] 23]) 3 ⟨blk2, 0 + 2, none⟩ (Value.int .i64 a2))) (by kernel_rfl) (ld_box (i := 2) rfl rfl (by kernel_rfl)) hS8 ?_
  refine l_op rfl rfl (fun K hK => op_store (d := none) rfl rfl (i := 0) (b := blk6) (off := 0 + 2) (cs := [Value.int .i64 a0, Value.int .i64 a1, Value.int .i64 0]) (bt := 25) (by kernel_rfl) (by kernel_rfl) [Value.int .i64 a2] (by kernel_rfl) (by kernel_rfl) (Nat.le_of_ble_eq_true (by kernel_rfl)) (by kernel_rfl) [Res.box blk6 [Value.int .i64 a0, Value.int .i64 a1, Value.int .i64 a2] 25, Res.box blk4 [Value.int .i64 0, Value.int .i64 0, Value.int .i64 0] 25, Res.box blk2 [Value.int .i64 a0, Value.int .i64 a1, Value.int .i64 a2] 23] (by kernel_rfl) hS8 (fun w9 hS9 => hK _ _ ?_))
  clear hK K
  refine l_nil rfl ?_
  refine then_n ?_
  refine wp_seq ?_
  refine c_reg ?_
  refine q_seg (S := (fun x_ => St w x_ [Res.box blk6 [Value.int .i64 a0, Value.int .i64 a1, Value.int .i64 a2] 25, Res.box blk4 [Value.int .i64 0, Value.int .i64 0, Value.int .i64 0] 25, Res.box blk2 [Value.int .i64 a0, Value.int .i64 a1, Value.int .i64 a2] 23])) [(13, Value.agg #[Value.int .i64 a0, Value.int .i64 a1, Value.int .i64 a2])] [.v (Value.agg #[Value.int .i64 a0, Value.int .i64 a1, Value.int .i64 a2])] ((LoadsAt Try.prog (fun x_ => St w x_ [Res.box blk6 [Value.int .i64 a0, Value.int .i64 a1, Value.int .i64 a2] 25, Res.box blk4 [Value.int .i64 0, Value.int .i64 0, Value.int .i64 0] 25, Res.box blk2 [Value.int .i64 a0, Value.int .i64 a1, Value.int .i64 a2] 23]) 25 ⟨blk6, 0, none⟩ (Value.agg #[Value.int .i64 a0, Value.int .i64 a1, Value.int .i64 a2]))) (by kernel_rfl) (ld_boxN (i := 0) (k := 3) rfl rfl rfl (by kernel_rfl)) hS9 ?_
  refine l_op rfl rfl (fun K hK => op_store (d := none) rfl rfl (i := 1) (b := blk4) (off := 0) (cs := [Value.int .i64 0, Value.int .i64 0, Value.int .i64 0]) (bt := 25) (by kernel_rfl) (by kernel_rfl) [Value.int .i64 a0, Value.int .i64 a1, Value.int .i64 a2] (by kernel_rfl) (by kernel_rfl) (Nat.le_of_ble_eq_true (by kernel_rfl)) (by kernel_rfl) [Res.box blk6 [Value.int .i64 a0, Value.int .i64 a1, Value.int .i64 a2] 25, Res.box blk4 [Value.int .i64 a0, Value.int .i64 a1, Value.int .i64 a2] 25, Res.box blk2 [Value.int .i64 a0, Value.int .i64 a1, Value.int .i64 a2] 23] (by kernel_rfl) hS9 (fun w10 hS10 => hK _ _ ?_))
  clear hK K
  refine l_nil rfl ?_
  refine then_n ?_
  refine wp_ret ?_
  exact c_end (S := (fun x_ => St w x_ [Res.box blk6 [Value.int .i64 a0, Value.int .i64 a1, Value.int .i64 a2] 25, Res.box blk4 [Value.int .i64 a0, Value.int .i64 a1, Value.int .i64 a2] 25, Res.box blk2 [Value.int .i64 a0, Value.int .i64 a1, Value.int .i64 a2] 23])) (rs := [.cell 2 25]) rfl [Value.agg #[Value.int .i64 a0, Value.int .i64 a1, Value.int .i64 a2]] (v := Value.agg #[Value.int .i64 a0, Value.int .i64 a1, Value.int .i64 a2]) (C := ((LoadsAt Try.prog (fun x_ => St w x_ [Res.box blk6 [Value.int .i64 a0, Value.int .i64 a1, Value.int .i64 a2] 25, Res.box blk4 [Value.int .i64 a0, Value.int .i64 a1, Value.int .i64 a2] 25, Res.box blk2 [Value.int .i64 a0, Value.int .i64 a1, Value.int .i64 a2] 23]) 25 ⟨blk4, 0, none⟩ (Value.agg #[Value.int .i64 a0, Value.int .i64 a1, Value.int .i64 a2])))) (by kernel_rfl) (ld_boxN (i := 1) (k := 3) rfl rfl rfl (by kernel_rfl)) hS10 ((hS10.rv rfl))
theorem eqPagingState_c (a0 : Int) (a1 : Int) (a2 : Int) (w : World) : Calls Try.prog 31 #[Value.agg #[Value.int .i64 a0, Value.int .i64 a1, Value.int .i64 a2], Value.agg #[Value.int .i64 a0, Value.int .i64 a1, Value.int .i64 a2]] w (RetV w (.bool true)) := by
  refine calls_FA Try.func31 rfl (n := 20) rfl (l := [(0, Value.agg #[Value.int .i64 a0, Value.int .i64 a1, Value.int .i64 a2]), (1, Value.agg #[Value.int .i64 a0, Value.int .i64 a1, Value.int .i64 a2])]) rfl (by simp) (fun g => ?_)
  have hS := St.init w
  refine wp_seq ?_
  refine c_reg ?_
  refine l_op rfl rfl (fun K hK => op_box (d := some 2) rfl rfl [Value.int .i64 a0, Value.int .i64 a1, Value.int .i64 a2] (by kernel_rfl) hS (fun blk2 w1 hS1 => hK _ _ ?_))
  clear hK K
  refine l_op rfl rfl (fun K hK => op_box (d := some 3) rfl rfl [Value.int .i64 a0, Value.int .i64 a1, Value.int .i64 a2] (by kernel_rfl) hS1 (fun blk4 w3 hS3 => hK _ _ ?_))
  clear hK K
  refine q_seg (S := (fun x_ => St w x_ [Res.box blk4 [Value.int .i64 a0, Value.int .i64 a1, Value.int .i64 a2] 25, Res.box blk2 [Value.int .i64 a0, Value.int .i64 a1, Value.int .i64 a2] 25])) [(4, Value.bool false)] [.no] True (by kernel_rfl) trivial hS3 ?_
  refine l_nil rfl ?_
  refine then_n ?_
  refine wp_seq ?_
  refine wp_seq ?_
  refine c_reg ?_
  refine q_seg (S := (fun x_ => St w x_ [Res.box blk4 [Value.int .i64 a0, Value.int .i64 a1, Value.int .i64 a2] 25, Res.box blk2 [Value.int .i64 a0, Value.int .i64 a1, Value.int .i64 a2] 25])) [(9, Value.bool (!(decide (a0 = a0)))), (8, Value.int .i64 a0), (7, Value.pointer (some ⟨blk4, 0 + 0, none⟩)), (6, Value.int .i64 a0), (5, Value.pointer (some ⟨blk2, 0 + 0, none⟩))] [.no, .v (Value.int .i64 a0), .no, .v (Value.int .i64 a0), .no] ((LoadsAt Try.prog (fun x_ => St w x_ [Res.box blk4 [Value.int .i64 a0, Value.int .i64 a1, Value.int .i64 a2] 25, Res.box blk2 [Value.int .i64 a0, Value.int .i64 a1, Value.int .i64 a2] 25]) 3 ⟨blk2, 0 + 0, none⟩ (Value.int .i64 a0)) ∧ (LoadsAt Try.prog (fun x_ => St w x_ [Res.box blk4 [Value.int .i64 a0, Value.int .i64 a1, Value.int .i64 a2] 25, Res.box blk2 [Value.int .i64 a0, Value.int .i64 a1, Value.int .i64 a2] 25]) 3 ⟨blk4, 0 + 0, none⟩ (Value.int .i64 a0))) (by kernel_rfl) ⟨(ld_box (i := 1) rfl rfl (by kernel_rfl)), (ld_box (i := 0) rfl rfl (by kernel_rfl))⟩ hS3 ?_
  refine l_nil rfl ?_
  refine then_n ?_
  refine c_false (b := (!(decide (a0 = a0)))) (by kernel_rfl) (nb (v := true) (decide_eq_true rfl)) ?_
  refine wp_skip ?_
  refine then_n ?_
  refine wp_seq ?_
  refine wp_seq ?_
  refine c_reg ?_
  refine q_seg (S := (fun x_ => St w x_ [Res.box blk4 [Value.int .i64 a0, Value.int .i64 a1, Value.int .i64 a2] 25, Res.box blk2 [Value.int .i64 a0, Value.int .i64 a1, Value.int .i64 a2] 25])) [(14, Value.bool (!(decide (a1 = a1)))), (13, Value.int .i64 a1), (12, Value.pointer (some ⟨blk4, 0 + 1, none⟩)), (11, Value.int .i64 a1), (10, Value.pointer (some ⟨blk2, 0 + 1, none⟩))] [.no, .v (Value.int .i64 a1), .no, .v (Value.int .i64 a1), .no] ((LoadsAt Try.prog (fun x_ => St w x_ [Res.box blk4 [Value.int .i64 a0, Value.int .i64 a1, Value.int .i64 a2] 25, Res.box blk2 [Value.int .i64 a0, Value.int .i64 a1, Value.int .i64 a2] 25]) 3 ⟨blk2, 0 + 1, none⟩ (Value.int .i64 a1)) ∧ (LoadsAt Try.prog (fun x_ => St w x_ [Res.box blk4 [Value.int .i64 a0, Value.int .i64 a1, Value.int .i64 a2] 25, Res.box blk2 [Value.int .i64 a0, Value.int .i64 a1, Value.int .i64 a2] 25]) 3 ⟨blk4, 0 + 1, none⟩ (Value.int .i64 a1))) (by kernel_rfl) ⟨(ld_box (i := 1) rfl rfl (by kernel_rfl)), (ld_box (i := 0) rfl rfl (by kernel_rfl))⟩ hS3 ?_
  refine l_nil rfl ?_
  refine then_n ?_
  refine c_false (b := (!(decide (a1 = a1)))) (by kernel_rfl) (nb (v := true) (decide_eq_true rfl)) ?_
  refine wp_skip ?_
  refine then_n ?_
  refine wp_seq ?_
  refine wp_seq ?_
  refine c_reg ?_
  refine q_seg (S := (fun x_ => St w x_ [Res.box blk4 [Value.int .i64 a0, Value.int .i64 a1, Value.int .i64 a2] 25, Res.box blk2 [Value.int .i64 a0, Value.int .i64 a1, Value.int .i64 a2] 25])) [(19, Value.bool (!(decide (a2 = a2)))), (18, Value.int .i64 a2), (17, Value.pointer (some ⟨blk4, 0 + 2, none⟩)), (16, Value.int .i64 a2), (15, Value.pointer (some ⟨blk2, 0 + 2, none⟩))] [.no, .v (Value.int .i64 a2), .no, .v (Value.int .i64 a2), .no] ((LoadsAt Try.prog (fun x_ => St w x_ [Res.box blk4 [Value.int .i64 a0, Value.int .i64 a1, Value.int .i64 a2] 25, Res.box blk2 [Value.int .i64 a0, Value.int .i64 a1, Value.int .i64 a2] 25]) 3 ⟨blk2, 0 + 2, none⟩ (Value.int .i64 a2)) ∧ (LoadsAt Try.prog (fun x_ => St w x_ [Res.box blk4 [Value.int .i64 a0, Value.int .i64 a1, Value.int .i64 a2] 25, Res.box blk2 [Value.int .i64 a0, Value.int .i64 a1, Value.int .i64 a2] 25]) 3 ⟨blk4, 0 + 2, none⟩ (Value.int .i64 a2))) (by kernel_rfl) ⟨(ld_box (i := 1) rfl rfl (by kernel_rfl)), (ld_box (i := 0) rfl rfl (by kernel_rfl))⟩ hS3 ?_
  refine l_nil rfl ?_
  refine then_n ?_
  refine c_false (b := (!(decide (a2 = a2)))) (by kernel_rfl) (nb (v := true) (decide_eq_true rfl)) ?_
  refine wp_skip ?_
  refine then_n ?_
  refine wp_seq ?_
  refine c_reg ?_
  refine q_seg (S := (fun x_ => St w x_ [Res.box blk4 [Value.int .i64 a0, Value.int .i64 a1, Value.int .i64 a2] 25, Res.box blk2 [Value.int .i64 a0, Value.int .i64 a1, Value.int .i64 a2] 25])) [(4, Value.bool true)] [.no] True (by kernel_rfl) trivial hS3 ?_
  refine l_nil rfl ?_
  refine then_n ?_
  refine wp_ret ?_
  exact c_end (S := (fun x_ => St w x_ [Res.box blk4 [Value.int .i64 a0, Value.int .i64 a1, Value.int .i64 a2] 25, Res.box blk2 [Value.int .i64 a0, Value.int .i64 a1, Value.int .i64 a2] 25])) (rs := [.tmp 4]) rfl [] (v := Value.bool true) (C := True) (by kernel_rfl) trivial hS3 ((hS3.rv rfl))
def vpag (a0 a1 a2 : Int) : Bool := inR a0 0 2 && inR a1 0 4 && inR a2 0 3

theorem IsValidPaging_i_c (a0 : Int) (a1 : Int) (a2 : Int) (w : World) : Calls Try.prog 11 #[Value.agg #[Value.int .i64 a0, Value.int .i64 a1, Value.int .i64 a2]] w (RetV w (Value.bool (vpag a0 a1 a2))) := by
  refine calls_FA Try.func11 rfl (n := 16) rfl (l := [(0, Value.agg #[Value.int .i64 a0, Value.int .i64 a1, Value.int .i64 a2])]) rfl (by simp) (fun g => ?_)
  have hS := St.init w
  refine wp_seq ?_
  refine c_reg ?_
  refine l_op rfl rfl (fun K hK => op_box (d := some 1) rfl rfl [Value.int .i64 a0, Value.int .i64 a1, Value.int .i64 a2] (by kernel_rfl) hS (fun blk2 w1 hS1 => hK _ _ ?_))
  clear hK K
  refine q_seg (S := (fun x_ => St w x_ [Res.box blk2 [Value.int .i64 a0, Value.int .i64 a1, Value.int .i64 a2] 25])) [(2, Value.bool false)] [.no] True (by kernel_rfl) trivial hS1 ?_
  refine l_nil rfl ?_
  refine then_n ?_
  refine wp_seq ?_
  refine c_reg ?_
  refine q_seg (S := (fun x_ => St w x_ [Res.box blk2 [Value.int .i64 a0, Value.int .i64 a1, Value.int .i64 a2] 25])) [(4, Value.int .i64 a0), (3, Value.pointer (some ⟨blk2, 0 + 0, none⟩))] [.no, .v (Value.int .i64 a0)] ((LoadsAt Try.prog (fun x_ => St w x_ [Res.box blk2 [Value.int .i64 a0, Value.int .i64 a1, Value.int .i64 a2] 25]) 3 ⟨blk2, 0 + 0, none⟩ (Value.int .i64 a0))) (by kernel_rfl) (ld_box (i := 0) rfl rfl (by kernel_rfl)) hS1 ?_
  refine l_op rfl rfl (fun K hK => op_callv (d := some 5) rfl rfl ⟨_, Try.func33, by kernel_rfl, by kernel_rfl⟩ (vs := [Value.int .i64 a0, Value.int .i64 0, Value.int .i64 2]) (by kernel_rfl) (v := Value.bool (inR a0 0 2)) (InRange_c a0 0 2 _) hS1 (fun w3 hS3 => hK _ _ ?_))
  clear hK K
  refine q_seg (S := (fun x_ => St w x_ [Res.box blk2 [Value.int .i64 a0, Value.int .i64 a1, Value.int .i64 a2] 25])) [(6, Value.bool (inR a0 0 2))] [.no] True (by kernel_rfl) trivial hS3 ?_
  rcases Bool.eq_false_or_eq_true (inR a0 0 2) with hb4 | hb4
  · skip
    obtain ⟨hb4p, hb4q⟩ := inR_iff.1 hb4
    refine q_seg (S := (fun x_ => St w x_ [Res.box blk2 [Value.int .i64 a0, Value.int .i64 a1, Value.int .i64 a2] 25])) [(8, Value.int .i64 a1), (7, Value.pointer (some ⟨blk2, 0 + 1, none⟩))] [.no, .v (Value.int .i64 a1)] (((inR a0 0 2) = true) ∧ ((inR a0 0 2) = true) ∧ (LoadsAt Try.prog (fun x_ => St w x_ [Res.box blk2 [Value.int .i64 a0, Value.int .i64 a1, Value.int .i64 a2] 25]) 3 ⟨blk2, 0 + 1, none⟩ (Value.int .i64 a1))) (by kernel_rfl) ⟨hb4, hb4, (ld_box (i := 0) rfl rfl (by kernel_rfl))⟩ hS3 ?_
    refine l_opg rfl (b := (inR a0 0 2)) (want := true) (by kernel_rfl) hb4 (fun K hK => op_callv (d := some 9) rfl rfl ⟨_, Try.func33, by kernel_rfl, by kernel_rfl⟩ (vs := [Value.int .i64 a1, Value.int .i64 0, Value.int .i64 4]) (by kernel_rfl) (v := Value.bool (inR a1 0 4)) (InRange_c a1 0 4 _) hS3 (fun w5 hS5 => hK _ _ ?_))
    clear hK K
    refine q_seg (S := (fun x_ => St w x_ [Res.box blk2 [Value.int .i64 a0, Value.int .i64 a1, Value.int .i64 a2] 25])) [(11, Value.bool (inR a1 0 4)), (10, Value.bool (inR a1 0 4))] [.v (.bool true), .no] (((inR a0 0 2) = true)) (by kernel_rfl) hb4 hS5 ?_
    rcases Bool.eq_false_or_eq_true (inR a1 0 4) with hb6 | hb6
    · skip
      obtain ⟨hb6p, hb6q⟩ := inR_iff.1 hb6
      refine q_seg (S := (fun x_ => St w x_ [Res.box blk2 [Value.int .i64 a0, Value.int .i64 a1, Value.int .i64 a2] 25])) [(13, Value.int .i64 a2), (12, Value.pointer (some ⟨blk2, 0 + 2, none⟩))] [.no, .v (Value.int .i64 a2)] (((inR a1 0 4) = true) ∧ ((inR a1 0 4) = true) ∧ (LoadsAt Try.prog (fun x_ => St w x_ [Res.box blk2 [Value.int .i64 a0, Value.int .i64 a1, Value.int .i64 a2] 25]) 3 ⟨blk2, 0 + 2, none⟩ (Value.int .i64 a2))) (by kernel_rfl) ⟨hb6, hb6, (ld_box (i := 0) rfl rfl (by kernel_rfl))⟩ hS5 ?_
      refine l_opg rfl (b := (inR a1 0 4)) (want := true) (by kernel_rfl) hb6 (fun K hK => op_callv (d := some 14) rfl rfl ⟨_, Try.func33, by kernel_rfl, by kernel_rfl⟩ (vs := [Value.int .i64 a2, Value.int .i64 0, Value.int .i64 3]) (by kernel_rfl) (v := Value.bool (inR a2 0 3)) (InRange_c a2 0 3 _) hS5 (fun w7 hS7 => hK _ _ ?_))
      clear hK K
      refine q_seg (S := (fun x_ => St w x_ [Res.box blk2 [Value.int .i64 a0, Value.int .i64 a1, Value.int .i64 a2] 25])) [(2, Value.bool (inR a2 0 3)), (15, Value.bool (inR a2 0 3))] [.v (.bool true), .no] (((inR a1 0 4) = true)) (by kernel_rfl) hb6 hS7 ?_
      refine l_nil rfl ?_
      refine then_n ?_
      refine wp_ret ?_
      exact c_end (S := (fun x_ => St w x_ [Res.box blk2 [Value.int .i64 a0, Value.int .i64 a1, Value.int .i64 a2] 25])) (rs := [.tmp 2]) rfl [] (v := Value.bool (inR a2 0 3)) (C := True) (by kernel_rfl) trivial hS7 ((hS7.rv (by simp [vpag, *])))
    · skip
      have hb6p := inR_neg hb6
      refine q_seg (S := (fun x_ => St w x_ [Res.box blk2 [Value.int .i64 a0, Value.int .i64 a1, Value.int .i64 a2] 25])) [(2, Value.bool false), (15, Value.bool false), (14, undef), (13, undef), (12, undef)] [.skip, .skip, .skip, .v (.bool false), .no] (((inR a1 0 4) = !true) ∧ ((inR a1 0 4) = !true) ∧ ((inR a1 0 4) = !true) ∧ ((inR a1 0 4) = false)) (by kernel_rfl) ⟨hb6, hb6, hb6, hb6⟩ hS5 ?_
      refine l_nil rfl ?_
      refine then_n ?_
      refine wp_ret ?_
      exact c_end (S := (fun x_ => St w x_ [Res.box blk2 [Value.int .i64 a0, Value.int .i64 a1, Value.int .i64 a2] 25])) (rs := [.tmp 2]) rfl [] (v := Value.bool false) (C := True) (by kernel_rfl) trivial hS5 ((hS5.rv (by simp [vpag, *])))
  · skip
    have hb4p := inR_neg hb4
    refine q_seg (S := (fun x_ => St w x_ [Res.box blk2 [Value.int .i64 a0, Value.int .i64 a1, Value.int .i64 a2] 25])) [(2, Value.bool false), (15, Value.bool false), (14, undef), (13, undef), (12, undef), (11, Value.bool false), (10, Value.bool false), (9, undef), (8, undef), (7, undef)] [.skip, .skip, .skip, .v (.bool false), .no, .skip, .skip, .skip, .v (.bool false), .no] (((inR a0 0 2) = !true) ∧ ((inR a0 0 2) = !true) ∧ ((inR a0 0 2) = !true) ∧ ((inR a0 0 2) = false) ∧ (false = !true) ∧ (false = !true) ∧ (false = !true) ∧ (false = false)) (by kernel_rfl) ⟨hb4, hb4, hb4, hb4, rfl, rfl, rfl, rfl⟩ hS3 ?_
    refine l_nil rfl ?_
    refine then_n ?_
    refine wp_ret ?_
    exact c_end (S := (fun x_ => St w x_ [Res.box blk2 [Value.int .i64 a0, Value.int .i64 a1, Value.int .i64 a2] 25])) (rs := [.tmp 2]) rfl [] (v := Value.bool false) (C := True) (by kernel_rfl) trivial hS3 ((hS3.rv (by simp [vpag, *])))

theorem IsValidPaging_s_c (a0 : Int) (a1 : Int) (a2 : Int) (w : World) : Calls Try.prog 9 #[Value.agg #[Value.int .i64 a0, Value.int .i64 a1, Value.int .i64 a2]] w (RetV w (Value.bool (vpag a0 a1 a2))) := by
  refine calls_FA Try.func9 rfl (n := 16) rfl (l := [(0, Value.agg #[Value.int .i64 a0, Value.int .i64 a1, Value.int .i64 a2])]) rfl (by simp) (fun g => ?_)
  have hS := St.init w
  refine wp_seq ?_
  refine c_reg ?_
  refine l_op rfl rfl (fun K hK => op_box (d := some 1) rfl rfl [Value.int .i64 a0, Value.int .i64 a1, Value.int .i64 a2] (by kernel_rfl) hS (fun blk2 w1 hS1 => hK _ _ ?_))
  clear hK K
  refine q_seg (S := (fun x_ => St w x_ [Res.box blk2 [Value.int .i64 a0, Value.int .i64 a1, Value.int .i64 a2] 25])) [(2, Value.bool false)] [.no] True (by kernel_rfl) trivial hS1 ?_
  refine l_nil rfl ?_
  refine then_n ?_
  refine wp_seq ?_
  refine c_reg ?_
  refine q_seg (S := (fun x_ => St w x_ [Res.box blk2 [Value.int .i64 a0, Value.int .i64 a1, Value.int .i64 a2] 25])) [(4, Value.int .i64 a0), (3, Value.pointer (some ⟨blk2, 0 + 0, none⟩))] [.no, .v (Value.int .i64 a0)] ((LoadsAt Try.prog (fun x_ => St w x_ [Res.box blk2 [Value.int .i64 a0, Value.int .i64 a1, Value.int .i64 a2] 25]) 3 ⟨blk2, 0 + 0, none⟩ (Value.int .i64 a0))) (by kernel_rfl) (ld_box (i := 0) rfl rfl (by kernel_rfl)) hS1 ?_
  refine l_op rfl rfl (fun K hK => op_callv (d := some 5) rfl rfl ⟨_, Try.func32, by kernel_rfl, by kernel_rfl⟩ (vs := [Value.int .i64 a0, Value.int .i64 0, Value.int .i64 2]) (by kernel_rfl) (v := Value.bool (inR a0 0 2)) (l1In_c a0 0 2 _) hS1 (fun w3 hS3 => hK _ _ ?_))
  clear hK K
  refine q_seg (S := (fun x_ => St w x_ [Res.box blk2 [Value.int .i64 a0, Value.int .i64 a1, Value.int .i64 a2] 25])) [(6, Value.bool (inR a0 0 2))] [.no] True (by kernel_rfl) trivial hS3 ?_
  rcases Bool.eq_false_or_eq_true (inR a0 0 2) with hb4 | hb4
  · skip
    obtain ⟨hb4p, hb4q⟩ := inR_iff.1 hb4
    refine q_seg (S := (fun x_ => St w x_ [Res.box blk2 [Value.int .i64 a0, Value.int .i64 a1, Value.int .i64 a2] 25])) [(8, Value.int .i64 a1), (7, Value.pointer (some ⟨blk2, 0 + 1, none⟩))] [.no, .v (Value.int .i64 a1)] (((inR a0 0 2) = true) ∧ ((inR a0 0 2) = true) ∧ (LoadsAt Try.prog (fun x_ => St w x_ [Res.box blk2 [Value.int .i64 a0, Value.int .i64 a1, Value.int .i64 a2] 25]) 3 ⟨blk2, 0 + 1, none⟩ (Value.int .i64 a1))) (by kernel_rfl) ⟨hb4, hb4, (ld_box (i := 0) rfl rfl (by kernel_rfl))⟩ hS3 ?_
    refine l_opg rfl (b := (inR a0 0 2)) (want := true) (by kernel_rfl) hb4 (fun K hK => op_callv (d := some 9) rfl rfl ⟨_, Try.func32, by kernel_rfl, by kernel_rfl⟩ (vs := [Value.int .i64 a1, Value.int .i64 0, Value.int .i64 4]) (by kernel_rfl) (v := Value.bool (inR a1 0 4)) (l1In_c a1 0 4 _) hS3 (fun w5 hS5 => hK _ _ ?_))
    clear hK K
    refine q_seg (S := (fun x_ => St w x_ [Res.box blk2 [Value.int .i64 a0, Value.int .i64 a1, Value.int .i64 a2] 25])) [(11, Value.bool (inR a1 0 4)), (10, Value.bool (inR a1 0 4))] [.v (.bool true), .no] (((inR a0 0 2) = true)) (by kernel_rfl) hb4 hS5 ?_
    rcases Bool.eq_false_or_eq_true (inR a1 0 4) with hb6 | hb6
    · skip
      obtain ⟨hb6p, hb6q⟩ := inR_iff.1 hb6
      refine q_seg (S := (fun x_ => St w x_ [Res.box blk2 [Value.int .i64 a0, Value.int .i64 a1, Value.int .i64 a2] 25])) [(13, Value.int .i64 a2), (12, Value.pointer (some ⟨blk2, 0 + 2, none⟩))] [.no, .v (Value.int .i64 a2)] (((inR a1 0 4) = true) ∧ ((inR a1 0 4) = true) ∧ (LoadsAt Try.prog (fun x_ => St w x_ [Res.box blk2 [Value.int .i64 a0, Value.int .i64 a1, Value.int .i64 a2] 25]) 3 ⟨blk2, 0 + 2, none⟩ (Value.int .i64 a2))) (by kernel_rfl) ⟨hb6, hb6, (ld_box (i := 0) rfl rfl (by kernel_rfl))⟩ hS5 ?_
      refine l_opg rfl (b := (inR a1 0 4)) (want := true) (by kernel_rfl) hb6 (fun K hK => op_callv (d := some 14) rfl rfl ⟨_, Try.func32, by kernel_rfl, by kernel_rfl⟩ (vs := [Value.int .i64 a2, Value.int .i64 0, Value.int .i64 3]) (by kernel_rfl) (v := Value.bool (inR a2 0 3)) (l1In_c a2 0 3 _) hS5 (fun w7 hS7 => hK _ _ ?_))
      clear hK K
      refine q_seg (S := (fun x_ => St w x_ [Res.box blk2 [Value.int .i64 a0, Value.int .i64 a1, Value.int .i64 a2] 25])) [(2, Value.bool (inR a2 0 3)), (15, Value.bool (inR a2 0 3))] [.v (.bool true), .no] (((inR a1 0 4) = true)) (by kernel_rfl) hb6 hS7 ?_
      refine l_nil rfl ?_
      refine then_n ?_
      refine wp_ret ?_
      exact c_end (S := (fun x_ => St w x_ [Res.box blk2 [Value.int .i64 a0, Value.int .i64 a1, Value.int .i64 a2] 25])) (rs := [.tmp 2]) rfl [] (v := Value.bool (inR a2 0 3)) (C := True) (by kernel_rfl) trivial hS7 ((hS7.rv (by simp [vpag, *])))
    · skip
      have hb6p := inR_neg hb6
      refine q_seg (S := (fun x_ => St w x_ [Res.box blk2 [Value.int .i64 a0, Value.int .i64 a1, Value.int .i64 a2] 25])) [(2, Value.bool false), (15, Value.bool false), (14, undef), (13, undef), (12, undef)] [.skip, .skip, .skip, .v (.bool false), .no] (((inR a1 0 4) = !true) ∧ ((inR a1 0 4) = !true) ∧ ((inR a1 0 4) = !true) ∧ ((inR a1 0 4) = false)) (by kernel_rfl) ⟨hb6, hb6, hb6, hb6⟩ hS5 ?_
      refine l_nil rfl ?_
      refine then_n ?_
      refine wp_ret ?_
      exact c_end (S := (fun x_ => St w x_ [Res.box blk2 [Value.int .i64 a0, Value.int .i64 a1, Value.int .i64 a2] 25])) (rs := [.tmp 2]) rfl [] (v := Value.bool false) (C := True) (by kernel_rfl) trivial hS5 ((hS5.rv (by simp [vpag, *])))
  · skip
    have hb4p := inR_neg hb4
    refine q_seg (S := (fun x_ => St w x_ [Res.box blk2 [Value.int .i64 a0, Value.int .i64 a1, Value.int .i64 a2] 25])) [(2, Value.bool false), (15, Value.bool false), (14, undef), (13, undef), (12, undef), (11, Value.bool false), (10, Value.bool false), (9, undef), (8, undef), (7, undef)] [.skip, .skip, .skip, .v (.bool false), .no, .skip, .skip, .skip, .v (.bool false), .no] (((inR a0 0 2) = !true) ∧ ((inR a0 0 2) = !true) ∧ ((inR a0 0 2) = !true) ∧ ((inR a0 0 2) = false) ∧ (false = !true) ∧ (false = !true) ∧ (false = !true) ∧ (false = false)) (by kernel_rfl) ⟨hb4, hb4, hb4, hb4, rfl, rfl, rfl, rfl⟩ hS3 ?_
    refine l_nil rfl ?_
    refine then_n ?_
    refine wp_ret ?_
    exact c_end (S := (fun x_ => St w x_ [Res.box blk2 [Value.int .i64 a0, Value.int .i64 a1, Value.int .i64 a2] 25])) (rs := [.tmp 2]) rfl [] (v := Value.bool false) (C := True) (by kernel_rfl) trivial hS3 ((hS3.rv (by simp [vpag, *])))
theorem walkFnExactIsValidPaging (v0 : Value) (w : World) (i0 : InPagingState23 w w.heap.size v0) : Calls Try.prog 3 #[v0] w (Tr w) := by
  obtain ⟨a0, a1, a2, rfl, ⟨ha01, ha02⟩, ⟨ha11, ha12⟩, ⟨ha21, ha22⟩⟩ := i0
  refine calls_FA Try.func3 rfl (n := 14) rfl (l := [(0, Value.agg #[Value.int .i64 a0, Value.int .i64 a1, Value.int .i64 a2])]) rfl (by simp) (fun g => ?_)
  have hS := St.init w
  refine wp_seq ?_
  refine c_reg ?_
  refine l_op rfl rfl (fun K hK => op_box (d := some 1) rfl rfl [Value.int .i64 a0, Value.int .i64 a1, Value.int .i64 a2] (by kernel_rfl) hS (fun blk2 w1 hS1 => hK _ _ ?_))
  clear hK K
  refine q_seg (S := (fun x_ => St w x_ [Res.box blk2 [Value.int .i64 a0, Value.int .i64 a1, Value.int .i64 a2] 23])) [(2, Value.bool false)] [.no] True (by kernel_rfl) trivial hS1 ?_
  refine l_nil rfl ?_
  refine then_n ?_
  refine wp_seq ?_
  refine c_reg ?_
  refine q_seg (S := (fun x_ => St w x_ [Res.box blk2 [Value.int .i64 a0, Value.int .i64 a1, Value.int .i64 a2] 23])) [(5, Value.agg #[Value.int .i64 a0, Value.int .i64 a1, Value.int .i64 a2])] [.v (Value.agg #[Value.int .i64 a0, Value.int .i64 a1, Value.int .i64 a2])] ((LoadsAt Try.prog (fun x_ => St w x_ [Res.box blk2 [Value.int .i64 a0, Value.int .i64 a1, Value.int .i64 a2] 23]) 23 ⟨blk2, 0, none⟩ (Value.agg #[Value.int .i64 a0, Value.int .i64 a1, Value.int .i64 a2]))) (by kernel_rfl) (ld_boxN (i := 0) (k := 3) rfl rfl rfl (by kernel_rfl)) hS1 ?_
  refine l_op rfl rfl (fun K hK => op_callv (d := some 6) rfl rfl ⟨_, Try.func10, by kernel_rfl, by kernel_rfl⟩ (vs := [Value.agg #[Value.int .i64 a0, Value.int .i64 a1, Value.int .i64 a2]]) (by kernel_rfl) (v := Value.agg #[Value.int .i64 a0, Value.int .i64 a1, Value.int .i64 a2]) (toPagingState_c a0 a1 a2  _) hS1 (fun w3 hS3 => hK _ _ ?_))
  clear hK K
  refine l_op rfl rfl (fun K hK => op_callv (d := some 7) rfl rfl ⟨_, Try.func9, by kernel_rfl, by kernel_rfl⟩ (vs := [Value.agg #[Value.int .i64 a0, Value.int .i64 a1, Value.int .i64 a2]]) (by kernel_rfl) (v := Value.bool (vpag a0 a1 a2)) (IsValidPaging_s_c a0 a1 a2  _) hS3 (fun w4 hS4 => hK _ _ ?_))
  clear hK K
  refine q_seg (S := (fun x_ => St w x_ [Res.box blk2 [Value.int .i64 a0, Value.int .i64 a1, Value.int .i64 a2] 23])) [(3, Value.bool (vpag a0 a1 a2))] [.no] True (by kernel_rfl) trivial hS4 ?_
  refine l_nil rfl ?_
  refine then_n ?_
  refine wp_seq ?_
  refine c_reg ?_
  refine q_seg (S := (fun x_ => St w x_ [Res.box blk2 [Value.int .i64 a0, Value.int .i64 a1, Value.int .i64 a2] 23])) [(8, Value.agg #[Value.int .i64 a0, Value.int .i64 a1, Value.int .i64 a2])] [.v (Value.agg #[Value.int .i64 a0, Value.int .i64 a1, Value.int .i64 a2])] ((LoadsAt Try.prog (fun x_ => St w x_ [Res.box blk2 [Value.int .i64 a0, Value.int .i64 a1, Value.int .i64 a2] 23]) 23 ⟨blk2, 0, none⟩ (Value.agg #[Value.int .i64 a0, Value.int .i64 a1, Value.int .i64 a2]))) (by kernel_rfl) (ld_boxN (i := 0) (k := 3) rfl rfl rfl (by kernel_rfl)) hS4 ?_
  refine l_op rfl rfl (fun K hK => op_callv (d := some 9) rfl rfl ⟨_, Try.func10, by kernel_rfl, by kernel_rfl⟩ (vs := [Value.agg #[Value.int .i64 a0, Value.int .i64 a1, Value.int .i64 a2]]) (by kernel_rfl) (v := Value.agg #[Value.int .i64 a0, Value.int .i64 a1, Value.int .i64 a2]) (toPagingState_c a0 a1 a2  _) hS4 (fun w5 hS5 => hK _ _ ?_))
  clear hK K
  refine l_op rfl rfl (fun K hK => op_callv (d := some 10) rfl rfl ⟨_, Try.func11, by kernel_rfl, by kernel_rfl⟩ (vs := [Value.agg #[Value.int .i64 a0, Value.int .i64 a1, Value.int .i64 a2]]) (by kernel_rfl) (v := Value.bool (vpag a0 a1 a2)) (IsValidPaging_i_c a0 a1 a2  _) hS5 (fun w6 hS6 => hK _ _ ?_))
  clear hK K
  refine q_seg (S := (fun x_ => St w x_ [Res.box blk2 [Value.int .i64 a0, Value.int .i64 a1, Value.int .i64 a2] 23])) [(4, Value.bool (vpag a0 a1 a2))] [.no] True (by kernel_rfl) trivial hS6 ?_
  refine l_nil rfl ?_
  refine then_n ?_
  refine wp_seq ?_
  refine wp_seq ?_
  refine c_reg ?_
  refine q_seg (S := (fun x_ => St w x_ [Res.box blk2 [Value.int .i64 a0, Value.int .i64 a1, Value.int .i64 a2] 23])) [(13, Value.bool (!(((vpag a0 a1 a2) == (vpag a0 a1 a2))))), (12, Value.bool (vpag a0 a1 a2)), (11, Value.bool (vpag a0 a1 a2))] [.no, .no, .no] True (by kernel_rfl) trivial hS6 ?_
  refine l_nil rfl ?_
  refine then_n ?_
  refine c_false (b := (!(((vpag a0 a1 a2) == (vpag a0 a1 a2))))) (by kernel_rfl) (nb (v := true) (by simp)) ?_
  refine wp_skip ?_
  refine then_n ?_
  refine wp_seq ?_
  refine c_reg ?_
  refine q_seg (S := (fun x_ => St w x_ [Res.box blk2 [Value.int .i64 a0, Value.int .i64 a1, Value.int .i64 a2] 23])) [(2, Value.bool true)] [.no] True (by kernel_rfl) trivial hS6 ?_
  refine l_nil rfl ?_
  refine then_n ?_
  refine wp_ret ?_
  exact c_end (S := (fun x_ => St w x_ [Res.box blk2 [Value.int .i64 a0, Value.int .i64 a1, Value.int .i64 a2] 23])) (rs := [.tmp 2]) rfl [] (v := Value.bool true) (C := True) (by kernel_rfl) trivial hS6 ((hS6.rv rfl))
end Go.Proofs.Ytkcedoehehjceaa
