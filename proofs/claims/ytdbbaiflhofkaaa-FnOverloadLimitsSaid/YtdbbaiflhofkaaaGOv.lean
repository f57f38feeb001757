/-
  Contracts of the overload functions, of the program and of the reference; the walks of the laws.
-/
import Derived.Test.YtdbbaiflhofkaaaGSl
import Derived.Test.YtdbbaiflhofkaaaDoor
import Derived.Test.YtdbbaiflhofkaaaTypes
namespace Go.Proofs.Ytdbbaiflhofkaaa
open Go.RowKit
set_option maxRecDepth 100000


theorem toOverloadControl_c (a0 : Int) (a1 : Int) (a2 : Int) (w : World) : Calls Try.prog 13 #[Value.agg #[Value.int .i64 a0, Value.int .i64 a1, Value.int .i64 a2]] w (RetV w (Value.agg #[Value.int .i64 a0, Value.int .i64 a1, Value.int .i64 a2])) := by
  refine calls_FA Try.func13 rfl (n := 14) rfl (l := [(0, Value.agg #[Value.int .i64 a0, Value.int .i64 a1, Value.int .i64 a2])]) rfl (by simp) (fun g => ?_)
  have hS := St.init w
  refine wp_seq ?_
  refine c_reg ?_
  refine l_op rfl rfl (fun K hK => op_box (d := some 1) rfl rfl [Value.int .i64 a0, Value.int .i64 a1, Value.int .i64 a2] (by kernel_rfl) hS (fun blk2 w1 hS1 => hK _ _ ?_))
  clear hK K
  refine l_op rfl rfl (fun K hK => op_alloc (d := some 2) rfl rfl [Value.int .i64 0, Value.int .i64 0, Value.int .i64 0] (by kernel_rfl) hS1 (fun blk4 w3 hS3 => hK _ _ ?_))
  clear hK K
  refine l_nil rfl ?_
  refine then_n ?_
  refine wp_seq ?_
  refine c_reg ?_
  refine l_op rfl rfl (fun K hK => op_alloc (d := some 3) rfl rfl [Value.int .i64 0, Value.int .i64 0, Value.int .i64 0] (by kernel_rfl) hS3 (fun blk6 w5 hS5 => hK _ _ ?_))
  clear hK K
  refine l_nil rfl ?_
  refine then_n ?_
  refine wp_seq ?_
  refine c_reg ?_
  refine q_seg (S := (fun x_ => St w x_ [Res.box blk6 [Value.int .i64 0, Value.int .i64 0, Value.int .i64 0] 25, Res.box blk4 [Value.int .i64 0, Value.int .i64 0, Value.int .i64 0] 25, Res.box blk2 [Value.int .i64 a0, Value.int .i64 a1, Value.int .i64 a2] 23])) [(6, Value.pointer (some ⟨blk6, 0 + 0, none⟩)), (5, Value.int .i64 a0), (4, Value.pointer (some ⟨blk2, 0 + 0, none⟩))] [.no, .v (Value.int .i64 a0), .no] ((LoadsAt Try.prog (fun x_ => St w x_ [Res.box blk6 [Value.int .i64 0, Value.int .i64 0, Value.int .i64 0] 25, Res.box blk4 [Value.int .i64 0, Value.int .i64 0, Value.int .i64 0] 25, Res.box blk2 [Value.int .i64 a0, Value.int .i64 a1, Value.int .i64 a2] 23]) 3 ⟨blk2, 0 + 0, none⟩ (Value.int .i64 a0))) (by kernel_rfl) (ld_box (i := 2) rfl rfl (by kernel_rfl)) hS5 ?_
  refine l_op rfl rfl (fun K hK => op_store (d := none) rfl rfl (i := 0) (b := blk6) (off := 0 + 0) (cs := [Value.int .i64 0, Value.int .i64 0, Value.int .i64 0]) (bt := 25) (by kernel_rfl) (by kernel_rfl) [Value.int .i64 a0] (by kernel_rfl) (by kernel_rfl) (Nat.le_of_ble_eq_true (by kernel_rfl)) (by kernel_rfl) [Res.box blk6 [Value.int .i64 a0, Value.int .i64 0, Value.int .i64 0] 25, Res.box blk4 [Value.int .i64 0, Value.int .i64 0, Value.int .i64 0] 25, Res.box blk2 [Value.int .i64 a0, Value.int .i64 a1, Value.int .i64 a2] 23] (by kernel_rfl) hS5 (fun w7 hS7 => hK _ _ ?_))
  clear hK K
  refine l_nil rfl ?_
  refine then_n ?_
  refine wp_seq ?_
  refine c_reg ?_
  refine q_seg (S := (fun x_ => St w x_ [Res.box blk6 [Value.int .i64 a0, Value.int .i64 0, Value.int .i64 0] 25, Res.box blk4 [Value.int .i64 0, Value.int .i64 0, Value.int .i64 0] 25, Res.box blk2 [Value.int .i64 a0, Value.int .i64 a1, Value.int .i64 a2] 23])) [(9, Value.pointer (some ⟨blk6, 0 + 1, none⟩)), (8, Value.int .i64 a1), (7, Value.pointer (some ⟨blk2, 0 + 1, none⟩))] [.no, .v (Value.int .i64 a1), .no] ((LoadsAt Try.prog (fun x_ => St w x_ [Res.box blk6 [Value.int .i64 a0, Value.int .i64 0, Value.int .i64 0] 25, Res.box blk4 [Value.int .i64 0, Value.int .i64 0, Value.int .i64 0] 25, Res.box blk2 [Value.int .i64 a0, Value.int .i64 a1, Value.int .i64 a2] 23]) 3 ⟨blk2, 0 + 1, none⟩ (Value.int .i64 a1))) (by kernel_rfl) (ld_box (i := 2) rfl rfl (by kernel_rfl)) hS7 ?_
  refine l_op rfl rfl (fun K hK => op_store (d := none) rfl rfl (i := 0) (b := blk6) (off := 0 + 1) (cs := [Value.int .i64 a0, Value.int .i64 0, Value.int .i64 0]) (bt := 25) (by kernel_rfl) (by kernel_rfl) [Value.int .i64 a1] (by kernel_rfl) (by kernel_rfl) (Nat.le_of_ble_eq_true (by kernel_rfl)) (by kernel_rfl) [Res.box blk6 [Value.int .i64 a0, Value.int .i64 a1, Value.int .i64 0] 25, Res.box blk4 [Value.int .i64 0, Value.int .i64 0, Value.int .i64 0] 25, Res.box blk2 [Value.int .i64 a0, Value.int .i64 a1, Value.int .i64 a2] 23] (by kernel_rfl) hS7 (fun w8 hS8 => hK _ _ ?_))
  clear hK K
  refine l_nil rfl ?_
  refine then_n ?_
  refine wp_seq ?_
  refine c_reg ?_
  refine q_seg (S := (fun x_ => St w x_ [Res.box blk6 [Value.int .i64 a0, Value.int .i64 a1, Value.int .i64 0] 25, Res.box blk4 [Value.int .i64 0, Value.int .i64 0, Value.int .i64 0] 25, Res.box blk2 [Value.int .i64 a0, Value.int .i64 a1, Value.int .i64 a2] 23])) [(12, Value.pointer (some ⟨blk6, 0 + 2, none⟩)), (11, Value.int .i64 a2), (10, Value.pointer (some ⟨blk2, 0 + 2, none⟩))] [.no, .v (Value.int .i64 a2), .no] ((LoadsAt Try.prog (fun x_ => St w x_ [Res.box blk6 [Value.int .i64 a0, Value.int .i64 a1, Value.int .i64 0] 25, Res.box blk4 [Value.int .i64 0, Value.int .i64 0, Value.int .i64 0] 25, Res.box blk2 [Value.int .i64 a0, Value.int .i64 a1, Value.int .i64 a2] 23]) 3 ⟨blk2, 0 + 2, none⟩ (Value.int .i64 a2))) (by kernel_rfl) (ld_box (i := 2) rfl rfl (by kernel_rfl)) hS8 ?_
  refine l_op rfl rfl (fun K hK => op_store (d := none) rfl rfl (i := 0) (b := blk6) (off := 0 + 2) (cs := [Value.int .i64 a0, Value.int .i64 a1, Value.int .i64 0]) (bt := 25) (by kernel_rfl) (by kernel_rfl) [Value.int .i64 a2] (by kernel_rfl) (by kernel_rfl) (Nat.le_of_ble_eq_true (by kernel_rfl)) (by kernel_rfl) [Res.box blk6 [Value.int .i64 a0, Value.int .i64 a1, Value.int .i64 a2] 25, Res.box blk4 [Value.int .i64 0, Value.int .i64 0, Value.int .i64 0] 25, Res.box blk2 [Value.int .i64 a0, Value.int .i64 a1, Value.int .i64 a2] 23] (by kernel_rfl) hS8 (fun w9 hS9 => hK _ _ ?_))
  clear hK K
  refine l_nil rfl ?_
  refine then_n ?_
  refine wp_seq ?_
  refine c_reg ?_
  refine q_seg (S := (fun x_ => St w x_ [Res.box blk6 [Value.int .i64 a0, Value.int .i64 a1, Value.int .i64 a2] 25, Res.box blk4 [Value.int .i64 0, Value.int .i64 0, Value.int .i64 0] 25, Res.box blk2 [Value.int .i64 a0, Value.int .i64 a1, Value.int .i64 a2] 23])) [(13, Value.agg #[Value.int .i64 a0, Value.int .i64 a1, Value.int .i64 a2])] [.v (Value.agg #[Value.int .i64 a0, Value.int .i64 a1, Value.int .i64 a2])] ((LoadsAt Try.prog (fun x_ => St w x_ [Res.box blk6 [Value.int .i64 a0, Value.int .i64 a1, Value.int .i64 a2] 25, Res.box blk4 [Value.int .i64 0, Value.int .i64 0, Value.int .i64 0] 25, Res.box blk2 [Value.int .i64 a0, Value.int .i64 a1, Value.int .i64 a2] 23]) 25 ⟨blk6, 0, none⟩ (Value.agg #[Value.int .i64 a0, Value.int .i64 a1, Value.int .i64 a2]))) (by kernel_rfl) (ld_boxN (i := 0) (k := 3) rfl rfl rfl (by kernel_rfl)) hS9 ?_
  refine l_op rfl rfl (fun K hK => op_store (d := none) rfl rfl (i := 1) (b := blk4) (off := 0) (cs := [Value.int .i64 0, Value.int .i64 0, Value.int .i64 0]) (bt := 25) (by kernel_rfl) (by kernel_rfl) [Value.int .i64 a0, Value.int .i64 a1, Value.int .i64 a2] (by kernel_rfl) (by kernel_rfl) (Nat.le_of_ble_eq_true (by kernel_rfl)) (by kernel_rfl) [Res.box blk6 [Value.int .i64 a0, Value.int .i64 a1, Value.int .i64 a2] 25, Res.box blk4 [Value.int .i64 a0, Value.int .i64 a1, Value.int .i64 a2] 25, Res.box blk2 [Value.int .i64 a0, Value.int .i64 a1, Value.int .i64 a2] 23] (by kernel_rfl) hS9 (fun w10 hS10 => hK _ _ ?_))
  clear hK K
  refine l_nil rfl ?_
  refine then_n ?_
  refine wp_ret ?_
  exact c_end (S := (fun x_ => St w x_ [Res.box blk6 [Value.int .i64 a0, Value.int .i64 a1, Value.int .i64 a2] 25, Res.box blk4 [Value.int .i64 a0, Value.int .i64 a1, Value.int .i64 a2] 25, Res.box blk2 [Value.int .i64 a0, Value.int .i64 a1, Value.int .i64 a2] 23])) (rs := [.cell 2 25]) rfl [Value.agg #[Value.int .i64 a0, Value.int .i64 a1, Value.int .i64 a2]] (v := Value.agg #[Value.int .i64 a0, Value.int .i64 a1, Value.int .i64 a2]) (C := ((LoadsAt Try.prog (fun x_ => St w x_ [Res.box blk6 [Value.int .i64 a0, Value.int .i64 a1, Value.int .i64 a2] 25, Res.box blk4 [Value.int .i64 a0, Value.int .i64 a1, Value.int .i64 a2] 25, Res.box blk2 [Value.int .i64 a0, Value.int .i64 a1, Value.int .i64 a2] 23]) 25 ⟨blk4, 0, none⟩ (Value.agg #[Value.int .i64 a0, Value.int .i64 a1, Value.int .i64 a2])))) (by kernel_rfl) (ld_boxN (i := 1) (k := 3) rfl rfl rfl (by kernel_rfl)) hS10 ((hS10.rv rfl))
theorem eqOverloadControl_c (a0 : Int) (a1 : Int) (a2 : Int) (w : World) : Calls Try.prog 23 #[Value.agg #[Value.int .i64 a0, Value.int .i64 a1, Value.int .i64 a2], Value.agg #[Value.int .i64 a0, Value.int .i64 a1, Value.int .i64 a2]] w (RetV w (.bool true)) := by
  refine calls_FA Try.func23 rfl (n := 20) rfl (l := [(0, Value.agg #[Value.int .i64 a0, Value.int .i64 a1, Value.int .i64 a2]), (1, Value.agg #[Value.int .i64 a0, Value.int .i64 a1, Value.int .i64 a2])]) rfl (by simp) (fun g => ?_)
  have hS := St.init w
  refine wp_seq ?_
  refine c_reg ?_
  refine l_op rfl rfl (fun K hK => op_box (d := some 2) rfl rfl [Value.int .i64 a0, Value.int .i64 a1, Value.int .i64 a2] (by kernel_rfl) hS (fun blk2 w1 hS1 => hK _ _ ?_))
  clear hK K
  refine l_op rfl rfl (fun K hK => op_box (d := some 3) rfl rfl [Value.int .i64 a0, Value.int .i64 a1, Value.int .i64 a2] (by kernel_rfl) hS1 (fun blk4 w3 hS3 => hK _ _ ?_))
  clear hK K
  refine q_seg (S := (fun x_ => St w x_ [Res.box blk4 [Value.int .i64 a0, Value.int .i64 a1, Value.int .i64 a2] 25, Res.box blk2 [Value.int .i64 a0, Value.int .i64 a1, Value.int .i64 a2] 25])) [(4, Value.bool false)] [.no] True (by kernel_rfl) trivial hS3 ?_
  refine l_nil rfl ?_
  refine then_n ?_
  refine wp_seq ?_
  refine wp_seq ?_
  refine c_reg ?_
  refine q_seg (S := (fun x_ => St w x_ [Res.box blk4 [Value.int .i64 a0, Value.int .i64 a1, Value.int .i64 a2] 25, Res.box blk2 [Value.int .i64 a0, Value.int .i64 a1, Value.int .i64 a2] 25])) [(9, Value.bool (!(decide (a0 = a0)))), (8, Value.int .i64 a0), (7, Value.pointer (some ⟨blk4, 0 + 0, none⟩)), (6, Value.int .i64 a0), (5, Value.pointer (some ⟨blk2, 0 + 0, none⟩))] [.no, .v (Value.int .i64 a0), .no, .v (Value.int .i64 a0), .no] ((LoadsAt Try.prog (fun x_ => St w x_ [Res.box blk4 [Value.int .i64 a0, Value.int .i64 a1, Value.int .i64 a2] 25, Res.box blk2 [Value.int .i64 a0, Value.int .i64 a1, Value.int .i64 a2] 25]) 3 ⟨blk2, 0 + 0, none⟩ (Value.int .i64 a0)) ∧ (LoadsAt Try.prog (fun x_ => St w x_ [Res.box blk4 [Value.int .i64 a0, Value.int .i64 a1, Value.int .i64 a2] 25, Res.box blk2 [Value.int .i64 a0, Value.int .i64 a1, Value.int .i64 a2] 25]) 3 ⟨blk4, 0 + 0, none⟩ (Value.int .i64 a0))) (by kernel_rfl) ⟨(ld_box (i := 1) rfl rfl (by kernel_rfl)), (ld_box (i := 0) rfl rfl (by kernel_rfl))⟩ hS3 ?_
  refine l_nil rfl ?_
  refine then_n ?_
  refine c_false (b := (!(decide (a0 = a0)))) (by kernel_rfl) (nb (v := true) (decide_eq_true rfl)) ?_
  refine wp_skip ?_
  refine then_n ?_
  refine wp_seq ?_
  refine wp_seq ?_
  refine c_reg ?_
  refine q_seg (S := (fun x_ => St w x_ [Res.box blk4 [Value.int .i64 a0, Value.int .i64 a1, Value.int .i64 a2] 25, Res.box blk2 [Value.int .i64 a0, Value.int .i64 a1, Value.int .i64 a2] 25])) [(14, Value.bool (!(decide (a1 = a1)))), (13, Value.int .i64 a1), (12, Value.pointer (some ⟨blk4, 0 + 1, none⟩)), (11, Value.int .i64 a1), (10, Value.pointer (some ⟨blk2, 0 + 1, none⟩))] [.no, .v (Value.int .i64 a1), .no, .v (Value.int .i64 a1), .no] ((LoadsAt Try.prog (fun x_ => St w x_ [Res.box blk4 [Value.int .i64 a0, Value.int .i64 a1, Value.int .i64 a2] 25, Res.box blk2 [Value.int .i64 a0, Value.int .i64 a1, Value.int .i64 a2] 25]) 3 ⟨blk2, 0 + 1, none⟩ (Value.int .i64 a1)) ∧ (LoadsAt Try.prog (fun x_ => St w x_ [Res.box blk4 [Value.int .i64 a0, Value.int .i64 a1, Value.int .i64 a2] 25, Res.box blk2 [Value.int .i64 a0, Value.int .i64 a1, Value.int .i64 a2] 25]) 3 ⟨blk4, 0 + 1, none⟩ (Value.int .i64 a1))) (by kernel_rfl) ⟨(ld_box (i := 1) rfl rfl (by kernel_rfl)), (ld_box (i := 0) rfl rfl (by kernel_rfl))⟩ hS3 ?_
  refine l_nil rfl ?_
  refine then_n ?_
  refine c_false (b := (!(decide (a1 = a1)))) (by kernel_rfl) (nb (v := true) (decide_eq_true rfl)) ?_
  refine wp_skip ?_
  refine then_n ?_
  refine wp_seq ?_
  refine wp_seq ?_
  refine c_reg ?_
  refine q_seg (S := (fun x_ => St w x_ [Res.box blk4 [Value.int .i64 a0, Value.int .i64 a1, Value.int .i64 a2] 25, Res.box blk2 [Value.int .i64 a0, Value.int .i64 a1, Value.int .i64 a2] 25])) [(19, Value.bool (!(decide (a2 = a2)))), (18, Value.int .i64 a2), (17, Value.pointer (some ⟨blk4, 0 + 2, none⟩)), (16, Value.int .i64 a2), (15, Value.pointer (some ⟨blk2, 0 + 2, none⟩))] [.no, .v (Value.int .i64 a2), .no, .v (Value.int .i64 a2), .no] ((LoadsAt Try.prog (fun x_ => St w x_ [Res.box blk4 [Value.int .i64 a0, Value.int .i64 a1, Value.int .i64 a2] 25, Res.box blk2 [Value.int .i64 a0, Value.int .i64 a1, Value.int .i64 a2] 25]) 3 ⟨blk2, 0 + 2, none⟩ (Value.int .i64 a2)) ∧ (LoadsAt Try.prog (fun x_ => St w x_ [Res.box blk4 [Value.int .i64 a0, Value.int .i64 a1, Value.int .i64 a2] 25, Res.box blk2 [Value.int .i64 a0, Value.int .i64 a1, Value.int .i64 a2] 25]) 3 ⟨blk4, 0 + 2, none⟩ (Value.int .i64 a2))) (by kernel_rfl) ⟨(ld_box (i := 1) rfl rfl (by kernel_rfl)), (ld_box (i := 0) rfl rfl (by kernel_rfl))⟩ hS3 ?_
  refine l_nil rfl ?_
  refine then_n ?_
  refine c_false (b := (!(decide (a2 = a2)))) (by kernel_rfl) (nb (v := true) (decide_eq_true rfl)) ?_
  refine wp_skip ?_
  refine then_n ?_
  refine wp_seq ?_
  refine c_reg ?_
  refine q_seg (S := (fun x_ => St w x_ [Res.box blk4 [Value.int .i64 a0, Value.int .i64 a1, Value.int .i64 a2] 25, Res.box blk2 [Value.int .i64 a0, Value.int .i64 a1, Value.int .i64 a2] 25])) [(4, Value.bool true)] [.no] True (by kernel_rfl) trivial hS3 ?_
  refine l_nil rfl ?_
  refine then_n ?_
  refine wp_ret ?_
  exact c_end (S := (fun x_ => St w x_ [Res.box blk4 [Value.int .i64 a0, Value.int .i64 a1, Value.int .i64 a2] 25, Res.box blk2 [Value.int .i64 a0, Value.int .i64 a1, Value.int .i64 a2] 25])) (rs := [.tmp 4]) rfl [] (v := Value.bool true) (C := True) (by kernel_rfl) trivial hS3 ((hS3.rv rfl))

theorem IsValidOverloadControl_i_c (a0 : Int) (a1 : Int) (a2 : Int) (w : World) : Calls Try.prog 14 #[Value.agg #[Value.int .i64 a0, Value.int .i64 a1, Value.int .i64 a2]] w (RetV w (Value.bool (vdoor a0 a1 a2))) := by
  refine calls_FA Try.func14 rfl (n := 18) rfl (l := [(0, Value.agg #[Value.int .i64 a0, Value.int .i64 a1, Value.int .i64 a2])]) rfl (by simp) (fun g => ?_)
  have hS := St.init w
  refine wp_seq ?_
  refine c_reg ?_
  refine l_op rfl rfl (fun K hK => op_box (d := some 1) rfl rfl [Value.int .i64 a0, Value.int .i64 a1, Value.int .i64 a2] (by kernel_rfl) hS (fun blk2 w1 hS1 => hK _ _ ?_))
  clear hK K
  refine q_seg (S := (fun x_ => St w x_ [Res.box blk2 [Value.int .i64 a0, Value.int .i64 a1, Value.int .i64 a2] 25])) [(2, Value.bool false)] [.no] True (by kernel_rfl) trivial hS1 ?_
  refine l_nil rfl ?_
  refine then_n ?_
  refine wp_seq ?_
  refine c_reg ?_
  refine q_seg (S := (fun x_ => St w x_ [Res.box blk2 [Value.int .i64 a0, Value.int .i64 a1, Value.int .i64 a2] 25])) [(4, Value.int .i64 a0), (3, Value.pointer (some ⟨blk2, 0 + 0, none⟩))] [.no, .v (Value.int .i64 a0)] ((LoadsAt Try.prog (fun x_ => St w x_ [Res.box blk2 [Value.int .i64 a0, Value.int .i64 a1, Value.int .i64 a2] 25]) 3 ⟨blk2, 0 + 0, none⟩ (Value.int .i64 a0))) (by kernel_rfl) (ld_box (i := 0) rfl rfl (by kernel_rfl)) hS1 ?_
  refine l_op rfl rfl (fun K hK => op_callv (d := some 5) rfl rfl ⟨_, Try.func36, by kernel_rfl, by kernel_rfl⟩ (vs := [Value.int .i64 a0, Value.int .i64 1, Value.int .i64 64]) (by kernel_rfl) (v := Value.bool (inR a0 1 64)) (InRange_c a0 1 64 _) hS1 (fun w3 hS3 => hK _ _ ?_))
  clear hK K
  refine q_seg (S := (fun x_ => St w x_ [Res.box blk2 [Value.int .i64 a0, Value.int .i64 a1, Value.int .i64 a2] 25])) [(6, Value.bool (inR a0 1 64))] [.no] True (by kernel_rfl) trivial hS3 ?_
  rcases Bool.eq_false_or_eq_true (inR a0 1 64) with hb4 | hb4
  · skip
    obtain ⟨hb4p, hb4q⟩ := inR_iff.1 hb4
    refine q_seg (S := (fun x_ => St w x_ [Res.box blk2 [Value.int .i64 a0, Value.int .i64 a1, Value.int .i64 a2] 25])) [(10, Value.int .i64 a0), (9, Value.pointer (some ⟨blk2, 0 + 0, none⟩)), (8, Value.int .i64 a1), (7, Value.pointer (some ⟨blk2, 0 + 1, none⟩))] [.no, .v (Value.int .i64 a1), .no, .v (Value.int .i64 a0)] (((inR a0 1 64) = true) ∧ ((inR a0 1 64) = true) ∧ (LoadsAt Try.prog (fun x_ => St w x_ [Res.box blk2 [Value.int .i64 a0, Value.int .i64 a1, Value.int .i64 a2] 25]) 3 ⟨blk2, 0 + 1, none⟩ (Value.int .i64 a1)) ∧ ((inR a0 1 64) = true) ∧ ((inR a0 1 64) = true) ∧ (LoadsAt Try.prog (fun x_ => St w x_ [Res.box blk2 [Value.int .i64 a0, Value.int .i64 a1, Value.int .i64 a2] 25]) 3 ⟨blk2, 0 + 0, none⟩ (Value.int .i64 a0))) (by kernel_rfl) ⟨hb4, hb4, (ld_box (i := 0) rfl rfl (by kernel_rfl)), hb4, hb4, (ld_box (i := 0) rfl rfl (by kernel_rfl))⟩ hS3 ?_
    refine l_opg rfl (b := (inR a0 1 64)) (want := true) (by kernel_rfl) hb4 (fun K hK => op_callv (d := some 11) rfl rfl ⟨_, Try.func36, by kernel_rfl, by kernel_rfl⟩ (vs := [Value.int .i64 a1, Value.int .i64 0, Value.int .i64 a0]) (by kernel_rfl) (v := Value.bool (inR a1 0 a0)) (InRange_c a1 0 a0 _) hS3 (fun w5 hS5 => hK _ _ ?_))
    clear hK K
    refine q_seg (S := (fun x_ => St w x_ [Res.box blk2 [Value.int .i64 a0, Value.int .i64 a1, Value.int .i64 a2] 25])) [(13, Value.bool (inR a1 0 a0)), (12, Value.bool (inR a1 0 a0))] [.v (.bool true), .no] (((inR a0 1 64) = true)) (by kernel_rfl) hb4 hS5 ?_
    rcases Bool.eq_false_or_eq_true (inR a1 0 a0) with hb6 | hb6
    · skip
      obtain ⟨hb6p, hb6q⟩ := inR_iff.1 hb6
      refine q_seg (S := (fun x_ => St w x_ [Res.box blk2 [Value.int .i64 a0, Value.int .i64 a1, Value.int .i64 a2] 25])) [(15, Value.int .i64 a2), (14, Value.pointer (some ⟨blk2, 0 + 2, none⟩))] [.no, .v (Value.int .i64 a2)] (((inR a1 0 a0) = true) ∧ ((inR a1 0 a0) = true) ∧ (LoadsAt Try.prog (fun x_ => St w x_ [Res.box blk2 [Value.int .i64 a0, Value.int .i64 a1, Value.int .i64 a2] 25]) 3 ⟨blk2, 0 + 2, none⟩ (Value.int .i64 a2))) (by kernel_rfl) ⟨hb6, hb6, (ld_box (i := 0) rfl rfl (by kernel_rfl))⟩ hS5 ?_
      refine l_opg rfl (b := (inR a1 0 a0)) (want := true) (by kernel_rfl) hb6 (fun K hK => op_callv (d := some 16) rfl rfl ⟨_, Try.func36, by kernel_rfl, by kernel_rfl⟩ (vs := [Value.int .i64 a2, Value.int .i64 0, Value.int .i64 1000000000000]) (by kernel_rfl) (v := Value.bool (inR a2 0 1000000000000)) (InRange_c a2 0 1000000000000 _) hS5 (fun w7 hS7 => hK _ _ ?_))
      clear hK K
      refine q_seg (S := (fun x_ => St w x_ [Res.box blk2 [Value.int .i64 a0, Value.int .i64 a1, Value.int .i64 a2] 25])) [(2, Value.bool (inR a2 0 1000000000000)), (17, Value.bool (inR a2 0 1000000000000))] [.v (.bool true), .no] (((inR a1 0 a0) = true)) (by kernel_rfl) hb6 hS7 ?_
      refine l_nil rfl ?_
      refine then_n ?_
      refine wp_ret ?_
      exact c_end (S := (fun x_ => St w x_ [Res.box blk2 [Value.int .i64 a0, Value.int .i64 a1, Value.int .i64 a2] 25])) (rs := [.tmp 2]) rfl [] (v := Value.bool (inR a2 0 1000000000000)) (C := True) (by kernel_rfl) trivial hS7 ((hS7.rv (by simp [vdoor, *])))
    · skip
      have hb6p := inR_neg hb6
      refine q_seg (S := (fun x_ => St w x_ [Res.box blk2 [Value.int .i64 a0, Value.int .i64 a1, Value.int .i64 a2] 25])) [(2, Value.bool false), (17, Value.bool false), (16, undef), (15, undef), (14, undef)] [.skip, .skip, .skip, .v (.bool false), .no] (((inR a1 0 a0) = !true) ∧ ((inR a1 0 a0) = !true) ∧ ((inR a1 0 a0) = !true) ∧ ((inR a1 0 a0) = false)) (by kernel_rfl) ⟨hb6, hb6, hb6, hb6⟩ hS5 ?_
      refine l_nil rfl ?_
      refine then_n ?_
      refine wp_ret ?_
      exact c_end (S := (fun x_ => St w x_ [Res.box blk2 [Value.int .i64 a0, Value.int .i64 a1, Value.int .i64 a2] 25])) (rs := [.tmp 2]) rfl [] (v := Value.bool false) (C := True) (by kernel_rfl) trivial hS5 ((hS5.rv (by simp [vdoor, *])))
  · skip
    have hb4p := inR_neg hb4
    refine q_seg (S := (fun x_ => St w x_ [Res.box blk2 [Value.int .i64 a0, Value.int .i64 a1, Value.int .i64 a2] 25])) [(2, Value.bool false), (17, Value.bool false), (16, undef), (15, undef), (14, undef), (13, Value.bool false), (12, Value.bool false), (11, undef), (10, undef), (9, undef), (8, undef), (7, undef)] [.skip, .skip, .skip, .skip, .skip, .v (.bool false), .no, .skip, .skip, .skip, .v (.bool false), .no] (((inR a0 1 64) = !true) ∧ ((inR a0 1 64) = !true) ∧ ((inR a0 1 64) = !true) ∧ ((inR a0 1 64) = !true) ∧ ((inR a0 1 64) = !true) ∧ ((inR a0 1 64) = false) ∧ (false = !true) ∧ (false = !true) ∧ (false = !true) ∧ (false = false)) (by kernel_rfl) ⟨hb4, hb4, hb4, hb4, hb4, hb4, rfl, rfl, rfl, rfl⟩ hS3 ?_
    refine l_nil rfl ?_
    refine then_n ?_
    refine wp_ret ?_
    exact c_end (S := (fun x_ => St w x_ [Res.box blk2 [Value.int .i64 a0, Value.int .i64 a1, Value.int .i64 a2] 25])) (rs := [.tmp 2]) rfl [] (v := Value.bool false) (C := True) (by kernel_rfl) trivial hS3 ((hS3.rv (by simp [vdoor, *])))

theorem IsValidOverloadControl_s_c (a0 : Int) (a1 : Int) (a2 : Int) (w : World) : Calls Try.prog 12 #[Value.agg #[Value.int .i64 a0, Value.int .i64 a1, Value.int .i64 a2]] w (RetV w (Value.bool (vdoor a0 a1 a2))) := by
  refine calls_FA Try.func12 rfl (n := 18) rfl (l := [(0, Value.agg #[Value.int .i64 a0, Value.int .i64 a1, Value.int .i64 a2])]) rfl (by simp) (fun g => ?_)
  have hS := St.init w
  refine wp_seq ?_
  refine c_reg ?_
  refine l_op rfl rfl (fun K hK => op_box (d := some 1) rfl rfl [Value.int .i64 a0, Value.int .i64 a1, Value.int .i64 a2] (by kernel_rfl) hS (fun blk2 w1 hS1 => hK _ _ ?_))
  clear hK K
  refine q_seg (S := (fun x_ => St w x_ [Res.box blk2 [Value.int .i64 a0, Value.int .i64 a1, Value.int .i64 a2] 25])) [(2, Value.bool false)] [.no] True (by kernel_rfl) trivial hS1 ?_
  refine l_nil rfl ?_
  refine then_n ?_
  refine wp_seq ?_
  refine c_reg ?_
  refine q_seg (S := (fun x_ => St w x_ [Res.box blk2 [Value.int .i64 a0, Value.int .i64 a1, Value.int .i64 a2] 25])) [(4, Value.int .i64 a0), (3, Value.pointer (some ⟨blk2, 0 + 0, none⟩))] [.no, .v (Value.int .i64 a0)] ((LoadsAt Try.prog (fun x_ => St w x_ [Res.box blk2 [Value.int .i64 a0, Value.int .i64 a1, Value.int .i64 a2] 25]) 3 ⟨blk2, 0 + 0, none⟩ (Value.int .i64 a0))) (by kernel_rfl) (ld_box (i := 0) rfl rfl (by kernel_rfl)) hS1 ?_
  refine l_op rfl rfl (fun K hK => op_callv (d := some 5) rfl rfl ⟨_, Try.func35, by kernel_rfl, by kernel_rfl⟩ (vs := [Value.int .i64 a0, Value.int .i64 1, Value.int .i64 64]) (by kernel_rfl) (v := Value.bool (inR a0 1 64)) (l1In_c a0 1 64 _) hS1 (fun w3 hS3 => hK _ _ ?_))
  clear hK K
  refine q_seg (S := (fun x_ => St w x_ [Res.box blk2 [Value.int .i64 a0, Value.int .i64 a1, Value.int .i64 a2] 25])) [(6, Value.bool (inR a0 1 64))] [.no] True (by kernel_rfl) trivial hS3 ?_
  rcases Bool.eq_false_or_eq_true (inR a0 1 64) with hb4 | hb4
  · skip
    obtain ⟨hb4p, hb4q⟩ := inR_iff.1 hb4
    refine q_seg (S := (fun x_ => St w x_ [Res.box blk2 [Value.int .i64 a0, Value.int .i64 a1, Value.int .i64 a2] 25])) [(10, Value.int .i64 a0), (9, Value.pointer (some ⟨blk2, 0 + 0, none⟩)), (8, Value.int .i64 a1), (7, Value.pointer (some ⟨blk2, 0 + 1, none⟩))] [.no, .v (Value.int .i64 a1), .no, .v (Value.int .i64 a0)] (((inR a0 1 64) = true) ∧ ((inR a0 1 64) = true) ∧ (LoadsAt Try.prog (fun x_ => St w x_ [Res.box blk2 [Value.int .i64 a0, Value.int .i64 a1, Value.int .i64 a2] 25]) 3 ⟨blk2, 0 + 1, none⟩ (Value.int .i64 a1)) ∧ ((inR a0 1 64) = true) ∧ ((inR a0 1 64) = true) ∧ (LoadsAt Try.prog (fun x_ => St w x_ [Res.box blk2 [Value.int .i64 a0, Value.int .i64 a1, Value.int .i64 a2] 25]) 3 ⟨blk2, 0 + 0, none⟩ (Value.int .i64 a0))) (by kernel_rfl) ⟨hb4, hb4, (ld_box (i := 0) rfl rfl (by kernel_rfl)), hb4, hb4, (ld_box (i := 0) rfl rfl (by kernel_rfl))⟩ hS3 ?_
    refine l_opg rfl (b := (inR a0 1 64)) (want := true) (by kernel_rfl) hb4 (fun K hK => op_callv (d := some 11) rfl rfl ⟨_, Try.func35, by kernel_rfl, by kernel_rfl⟩ (vs := [Value.int .i64 a1, Value.int .i64 0, Value.int .i64 a0]) (by kernel_rfl) (v := Value.bool (inR a1 0 a0)) (l1In_c a1 0 a0 _) hS3 (fun w5 hS5 => hK _ _ ?_))
    clear hK K
    refine q_seg (S := (fun x_ => St w x_ [Res.box blk2 [Value.int .i64 a0, Value.int .i64 a1, Value.int .i64 a2] 25])) [(13, Value.bool (inR a1 0 a0)), (12, Value.bool (inR a1 0 a0))] [.v (.bool true), .no] (((inR a0 1 64) = true)) (by kernel_rfl) hb4 hS5 ?_
    rcases Bool.eq_false_or_eq_true (inR a1 0 a0) with hb6 | hb6
    · skip
      obtain ⟨hb6p, hb6q⟩ := inR_iff.1 hb6
      refine q_seg (S := (fun x_ => St w x_ [Res.box blk2 [Value.int .i64 a0, Value.int .i64 a1, Value.int .i64 a2] 25])) [(15, Value.int .i64 a2), (14, Value.pointer (some ⟨blk2, 0 + 2, none⟩))] [.no, .v (Value.int .i64 a2)] (((inR a1 0 a0) = true) ∧ ((inR a1 0 a0) = true) ∧ (LoadsAt Try.prog (fun x_ => St w x_ [Res.box blk2 [Value.int .i64 a0, Value.int .i64 a1, Value.int .i64 a2] 25]) 3 ⟨blk2, 0 + 2, none⟩ (Value.int .i64 a2))) (by kernel_rfl) ⟨hb6, hb6, (ld_box (i := 0) rfl rfl (by kernel_rfl))⟩ hS5 ?_
      refine l_opg rfl (b := (inR a1 0 a0)) (want := true) (by kernel_rfl) hb6 (fun K hK => op_callv (d := some 16) rfl rfl ⟨_, Try.func35, by kernel_rfl, by kernel_rfl⟩ (vs := [Value.int .i64 a2, Value.int .i64 0, Value.int .i64 1000000000000]) (by kernel_rfl) (v := Value.bool (inR a2 0 1000000000000)) (l1In_c a2 0 1000000000000 _) hS5 (fun w7 hS7 => hK _ _ ?_))
      clear hK K
      refine q_seg (S := (fun x_ => St w x_ [Res.box blk2 [Value.int .i64 a0, Value.int .i64 a1, Value.int .i64 a2] 25])) [(2, Value.bool (inR a2 0 1000000000000)), (17, Value.bool (inR a2 0 1000000000000))] [.v (.bool true), .no] (((inR a1 0 a0) = true)) (by kernel_rfl) hb6 hS7 ?_
      refine l_nil rfl ?_
      refine then_n ?_
      refine wp_ret ?_
      exact c_end (S := (fun x_ => St w x_ [Res.box blk2 [Value.int .i64 a0, Value.int .i64 a1, Value.int .i64 a2] 25])) (rs := [.tmp 2]) rfl [] (v := Value.bool (inR a2 0 1000000000000)) (C := True) (by kernel_rfl) trivial hS7 ((hS7.rv (by simp [vdoor, *])))
    · skip
      have hb6p := inR_neg hb6
      refine q_seg (S := (fun x_ => St w x_ [Res.box blk2 [Value.int .i64 a0, Value.int .i64 a1, Value.int .i64 a2] 25])) [(2, Value.bool false), (17, Value.bool false), (16, undef), (15, undef), (14, undef)] [.skip, .skip, .skip, .v (.bool false), .no] (((inR a1 0 a0) = !true) ∧ ((inR a1 0 a0) = !true) ∧ ((inR a1 0 a0) = !true) ∧ ((inR a1 0 a0) = false)) (by kernel_rfl) ⟨hb6, hb6, hb6, hb6⟩ hS5 ?_
      refine l_nil rfl ?_
      refine then_n ?_
      refine wp_ret ?_
      exact c_end (S := (fun x_ => St w x_ [Res.box blk2 [Value.int .i64 a0, Value.int .i64 a1, Value.int .i64 a2] 25])) (rs := [.tmp 2]) rfl [] (v := Value.bool false) (C := True) (by kernel_rfl) trivial hS5 ((hS5.rv (by simp [vdoor, *])))
  · skip
    have hb4p := inR_neg hb4
    refine q_seg (S := (fun x_ => St w x_ [Res.box blk2 [Value.int .i64 a0, Value.int .i64 a1, Value.int .i64 a2] 25])) [(2, Value.bool false), (17, Value.bool false), (16, undef), (15, undef), (14, undef), (13, Value.bool false), (12, Value.bool false), (11, undef), (10, undef), (9, undef), (8, undef), (7, undef)] [.skip, .skip, .skip, .skip, .skip, .v (.bool false), .no, .skip, .skip, .skip, .v (.bool false), .no] (((inR a0 1 64) = !true) ∧ ((inR a0 1 64) = !true) ∧ ((inR a0 1 64) = !true) ∧ ((inR a0 1 64) = !true) ∧ ((inR a0 1 64) = !true) ∧ ((inR a0 1 64) = false) ∧ (false = !true) ∧ (false = !true) ∧ (false = !true) ∧ (false = false)) (by kernel_rfl) ⟨hb4, hb4, hb4, hb4, hb4, hb4, rfl, rfl, rfl, rfl⟩ hS3 ?_
    refine l_nil rfl ?_
    refine then_n ?_
    refine wp_ret ?_
    exact c_end (S := (fun x_ => St w x_ [Res.box blk2 [Value.int .i64 a0, Value.int .i64 a1, Value.int .i64 a2] 25])) (rs := [.tmp 2]) rfl [] (v := Value.bool false) (C := True) (by kernel_rfl) trivial hS3 ((hS3.rv (by simp [vdoor, *])))
theorem mul_bd {c k : Int} (h1 : 1 ≤ c) (h2 : c ≤ 64) (h3 : 1 ≤ k) (h4 : k ≤ 4) : 0 ≤ c * (5 - k) ∧ c * (5 - k) ≤ 256 := by
  rcases (show k = 1 ∨ k = 2 ∨ k = 3 ∨ k = 4 by omega) with rfl | rfl | rfl | rfl <;> omega
theorem ClassLimit_i_c (a0 : Int) (a1 : Int) (a2 : Int) (b : Int) (w : World) : Calls Try.prog 16 #[Value.agg #[Value.int .i64 a0, Value.int .i64 a1, Value.int .i64 a2], Value.int .i64 b] w (RetV w (Value.int .i64 (climit a0 a1 a2 b))) := by
  refine calls_FA Try.func16 rfl (n := 19) rfl (l := [(0, Value.agg #[Value.int .i64 a0, Value.int .i64 a1, Value.int .i64 a2]), (1, Value.int .i64 b)]) rfl (by simp) (fun g => ?_)
  have hS := St.init w
  refine wp_seq ?_
  refine c_reg ?_
  refine l_op rfl rfl (fun K hK => op_box (d := some 2) rfl rfl [Value.int .i64 a0, Value.int .i64 a1, Value.int .i64 a2] (by kernel_rfl) hS (fun blk2 w1 hS1 => hK _ _ ?_))
  clear hK K
  refine q_seg (S := (fun x_ => St w x_ [Res.box blk2 [Value.int .i64 a0, Value.int .i64 a1, Value.int .i64 a2] 25])) [(4, Value.int .i64 0)] [.no] True (by kernel_rfl) trivial hS1 ?_
  refine l_nil rfl ?_
  refine then_n ?_
  refine wp_seq ?_
  refine wp_seq ?_
  refine c_reg ?_
  refine q_seg (S := (fun x_ => St w x_ [Res.box blk2 [Value.int .i64 a0, Value.int .i64 a1, Value.int .i64 a2] 25])) [(5, Value.agg #[Value.int .i64 a0, Value.int .i64 a1, Value.int .i64 a2])] [.v (Value.agg #[Value.int .i64 a0, Value.int .i64 a1, Value.int .i64 a2])] ((LoadsAt Try.prog (fun x_ => St w x_ [Res.box blk2 [Value.int .i64 a0, Value.int .i64 a1, Value.int .i64 a2] 25]) 25 ⟨blk2, 0, none⟩ (Value.agg #[Value.int .i64 a0, Value.int .i64 a1, Value.int .i64 a2]))) (by kernel_rfl) (ld_boxN (i := 0) (k := 3) rfl rfl rfl (by kernel_rfl)) hS1 ?_
  refine l_op rfl rfl (fun K hK => op_callv (d := some 6) rfl rfl ⟨_, Try.func14, by kernel_rfl, by kernel_rfl⟩ (vs := [Value.agg #[Value.int .i64 a0, Value.int .i64 a1, Value.int .i64 a2]]) (by kernel_rfl) (v := Value.bool (vdoor a0 a1 a2)) (IsValidOverloadControl_i_c a0 a1 a2  _) hS1 (fun w3 hS3 => hK _ _ ?_))
  clear hK K
  refine q_seg (S := (fun x_ => St w x_ [Res.box blk2 [Value.int .i64 a0, Value.int .i64 a1, Value.int .i64 a2] 25])) [(8, Value.bool (!(vdoor a0 a1 a2))), (7, Value.bool (!(vdoor a0 a1 a2)))] [.no, .no] True (by kernel_rfl) trivial hS3 ?_
  rcases Bool.eq_false_or_eq_true (vdoor a0 a1 a2) with hb4 | hb4
  · skip
    obtain ⟨hb4v1, hb4v2, hb4v3, hb4v4, hb4v5, hb4v6⟩ := vdoor_bd hb4
    refine q_seg (S := (fun x_ => St w x_ [Res.box blk2 [Value.int .i64 a0, Value.int .i64 a1, Value.int .i64 a2] 25])) [(9, Value.int .i64 b)] [.no] (((!(vdoor a0 a1 a2)) = false)) (by kernel_rfl) (nb (v := true) hb4) hS3 ?_
    refine l_opg rfl (b := (!(vdoor a0 a1 a2))) (want := false) (by kernel_rfl) (nb (v := true) hb4) (fun K hK => op_callv (d := some 10) rfl rfl ⟨_, Try.func36, by kernel_rfl, by kernel_rfl⟩ (vs := [Value.int .i64 b, Value.int .i64 1, Value.int .i64 4]) (by kernel_rfl) (v := Value.bool (inR b 1 4)) (InRange_c b 1 4 _) hS3 (fun w5 hS5 => hK _ _ ?_))
    clear hK K
    refine q_seg (S := (fun x_ => St w x_ [Res.box blk2 [Value.int .i64 a0, Value.int .i64 a1, Value.int .i64 a2] 25])) [(12, Value.bool (!(inR b 1 4))), (11, Value.bool (!(inR b 1 4)))] [.no, .v (.bool false)] (((!(vdoor a0 a1 a2)) = false) ∧ ((!(vdoor a0 a1 a2)) = false)) (by kernel_rfl) ⟨(nb (v := true) hb4), (nb (v := true) hb4)⟩ hS5 ?_
    refine l_nil rfl ?_
    refine then_n ?_
    rcases Bool.eq_false_or_eq_true (inR b 1 4) with hb6 | hb6
    · skip
      obtain ⟨hb6p, hb6q⟩ := inR_iff.1 hb6
      refine c_false (b := (!(inR b 1 4))) (by kernel_rfl) (nb (v := true) hb6) ?_
      refine wp_skip ?_
      refine then_n ?_
      refine wp_seq ?_
      refine c_reg ?_
      refine q_seg (S := (fun x_ => St w x_ [Res.box blk2 [Value.int .i64 a0, Value.int .i64 a1, Value.int .i64 a2] 25])) [(17, Value.int .i64 (a0 * ((5 : Int) - b))), (16, Value.int .i64 ((5 : Int) - b)), (15, Value.int .i64 b), (14, Value.int .i64 a0), (13, Value.pointer (some ⟨blk2, 0 + 0, none⟩))] [.no, .v (Value.int .i64 a0), .no, .no, .v (.int .i64 (a0 * ((5 : Int) - b)))] ((LoadsAt Try.prog (fun x_ => St w x_ [Res.box blk2 [Value.int .i64 a0, Value.int .i64 a1, Value.int .i64 a2] 25]) 3 ⟨blk2, 0 + 0, none⟩ (Value.int .i64 a0)) ∧ (InK .i64 ((5 : Int) - b)) ∧ (IntKind.wrap .i64 (a0 * ((5 : Int) - b)) = (a0 * ((5 : Int) - b)))) (by kernel_rfl) ⟨(ld_box (i := 0) rfl rfl (by kernel_rfl)), (in64 (by omega) (by omega)), in64 (by have := (mul_bd (c := a0) (k := b) (by omega) (by omega) (by omega) (by omega)); omega) (by have := (mul_bd (c := a0) (k := b) (by omega) (by omega) (by omega) (by omega)); omega)⟩ hS5 ?_
      refine l_op rfl rfl (fun K hK => op_callv (d := some 18) rfl rfl ⟨_, Try.func38, by kernel_rfl, by kernel_rfl⟩ (vs := [Value.int .i64 (a0 * ((5 : Int) - b)), Value.int .i64 4]) (by kernel_rfl) (v := Value.int .i64 (cdiv (a0 * ((5 : Int) - b)) (4 : Int))) (CeilDivI_c (a0 * ((5 : Int) - b)) (4 : Int) (i64 (by have := (mul_bd (c := a0) (k := b) (by omega) (by omega) (by omega) (by omega)); omega) (by have := (mul_bd (c := a0) (k := b) (by omega) (by omega) (by omega) (by omega)); omega)) (i64 (by omega) (by omega)) _) hS5 (fun w7 hS7 => hK _ _ ?_))
      clear hK K
      refine q_seg (S := (fun x_ => St w x_ [Res.box blk2 [Value.int .i64 a0, Value.int .i64 a1, Value.int .i64 a2] 25])) [(4, Value.int .i64 (cdiv (a0 * ((5 : Int) - b)) (4 : Int)))] [.no] True (by kernel_rfl) trivial hS7 ?_
      refine l_nil rfl ?_
      refine then_n ?_
      refine wp_ret ?_
      exact c_end (S := (fun x_ => St w x_ [Res.box blk2 [Value.int .i64 a0, Value.int .i64 a1, Value.int .i64 a2] 25])) (rs := [.tmp 4]) rfl [] (v := Value.int .i64 (cdiv (a0 * ((5 : Int) - b)) (4 : Int))) (C := True) (by kernel_rfl) trivial hS7 ((hS7.rv (congrArg (Value.int .i64) (by first | (rw [climit, if_pos (by simp [*])]; have := (mul_bd (c := a0) (k := b) (by omega) (by omega) (by omega) (by omega)); rw [cdiv, if_pos ⟨by omega, by omega, by omega, by omega⟩]; congr 1; omega) | (rw [climit, if_neg (by simp [*])])))))
    · skip
      have hb6p := inR_neg hb6
      refine c_true (b := (!(inR b 1 4))) (by kernel_rfl) (nb (v := false) hb6) ?_
      refine wp_seq ?_
      refine c_reg ?_
      refine q_seg (S := (fun x_ => St w x_ [Res.box blk2 [Value.int .i64 a0, Value.int .i64 a1, Value.int .i64 a2] 25])) [(4, Value.int .i64 0)] [.no] True (by kernel_rfl) trivial hS5 ?_
      refine l_nil rfl ?_
      refine then_n ?_
      refine wp_ret ?_
      refine then_r ?_
      exact c_end (S := (fun x_ => St w x_ [Res.box blk2 [Value.int .i64 a0, Value.int .i64 a1, Value.int .i64 a2] 25])) (rs := [.tmp 4]) rfl [] (v := Value.int .i64 0) (C := True) (by kernel_rfl) trivial hS5 ((hS5.rv (congrArg (Value.int .i64) (by first | (rw [climit, if_pos (by simp [*])]; have := (mul_bd (c := a0) (k := b) (by omega) (by omega) (by omega) (by omega)); rw [cdiv, if_pos ⟨by omega, by omega, by omega, by omega⟩]; congr 1; omega) | (rw [climit, if_neg (by simp [*])])))))
  · skip
    refine q_seg (S := (fun x_ => St w x_ [Res.box blk2 [Value.int .i64 a0, Value.int .i64 a1, Value.int .i64 a2] 25])) [(12, Value.bool true), (11, undef), (10, undef), (9, undef)] [.skip, .skip, .skip, .v (.bool true)] (((!(vdoor a0 a1 a2)) = !false) ∧ ((!(vdoor a0 a1 a2)) = !false) ∧ ((!(vdoor a0 a1 a2)) = !false) ∧ ((!(vdoor a0 a1 a2)) = true)) (by kernel_rfl) ⟨(nb (v := false) hb4), (nb (v := false) hb4), (nb (v := false) hb4), (nb (v := false) hb4)⟩ hS3 ?_
    refine l_nil rfl ?_
    refine then_n ?_
    refine c_true (b := true) (by kernel_rfl) rfl ?_
    refine wp_seq ?_
    refine c_reg ?_
    refine q_seg (S := (fun x_ => St w x_ [Res.box blk2 [Value.int .i64 a0, Value.int .i64 a1, Value.int .i64 a2] 25])) [(4, Value.int .i64 0)] [.no] True (by kernel_rfl) trivial hS3 ?_
    refine l_nil rfl ?_
    refine then_n ?_
    refine wp_ret ?_
    refine then_r ?_
    exact c_end (S := (fun x_ => St w x_ [Res.box blk2 [Value.int .i64 a0, Value.int .i64 a1, Value.int .i64 a2] 25])) (rs := [.tmp 4]) rfl [] (v := Value.int .i64 0) (C := True) (by kernel_rfl) trivial hS3 ((hS3.rv (congrArg (Value.int .i64) (by first | (rw [climit, if_pos (by simp [*])]; have := (mul_bd (c := a0) (k := b) (by omega) (by omega) (by omega) (by omega)); rw [cdiv, if_pos ⟨by omega, by omega, by omega, by omega⟩]; congr 1; omega) | (rw [climit, if_neg (by simp [*])])))))

theorem ClassLimit_s_c (a0 : Int) (a1 : Int) (a2 : Int) (b : Int) (w : World) : Calls Try.prog 15 #[Value.agg #[Value.int .i64 a0, Value.int .i64 a1, Value.int .i64 a2], Value.int .i64 b] w (RetV w (Value.int .i64 (climit a0 a1 a2 b))) := by
  refine calls_FA Try.func15 rfl (n := 19) rfl (l := [(0, Value.agg #[Value.int .i64 a0, Value.int .i64 a1, Value.int .i64 a2]), (1, Value.int .i64 b)]) rfl (by simp) (fun g => ?_)
  have hS := St.init w
  refine wp_seq ?_
  refine c_reg ?_
  refine l_op rfl rfl (fun K hK => op_box (d := some 2) rfl rfl [Value.int .i64 a0, Value.int .i64 a1, Value.int .i64 a2] (by kernel_rfl) hS (fun blk2 w1 hS1 => hK _ _ ?_))
  clear hK K
  refine q_seg (S := (fun x_ => St w x_ [Res.box blk2 [Value.int .i64 a0, Value.int .i64 a1, Value.int .i64 a2] 25])) [(4, Value.int .i64 0)] [.no] True (by kernel_rfl) trivial hS1 ?_
  refine l_nil rfl ?_
  refine then_n ?_
  refine wp_seq ?_
  refine wp_seq ?_
  refine c_reg ?_
  refine q_seg (S := (fun x_ => St w x_ [Res.box blk2 [Value.int .i64 a0, Value.int .i64 a1, Value.int .i64 a2] 25])) [(5, Value.agg #[Value.int .i64 a0, Value.int .i64 a1, Value.int .i64 a2])] [.v (Value.agg #[Value.int .i64 a0, Value.int .i64 a1, Value.int .i64 a2])] ((LoadsAt Try.prog (fun x_ => St w x_ [Res.box blk2 [Value.int .i64 a0, Value.int .i64 a1, Value.int .i64 a2] 25]) 25 ⟨blk2, 0, none⟩ (Value.agg #[Value.int .i64 a0, Value.int .i64 a1, Value.int .i64 a2]))) (by kernel_rfl) (ld_boxN (i := 0) (k := 3) rfl rfl rfl (by kernel_rfl)) hS1 ?_
  refine l_op rfl rfl (fun K hK => op_callv (d := some 6) rfl rfl ⟨_, Try.func12, by kernel_rfl, by kernel_rfl⟩ (vs := [Value.agg #[Value.int .i64 a0, Value.int .i64 a1, Value.int .i64 a2]]) (by kernel_rfl) (v := Value.bool (vdoor a0 a1 a2)) (IsValidOverloadControl_s_c a0 a1 a2  _) hS1 (fun w3 hS3 => hK _ _ ?_))
  clear hK K
  refine q_seg (S := (fun x_ => St w x_ [Res.box blk2 [Value.int .i64 a0, Value.int .i64 a1, Value.int .i64 a2] 25])) [(8, Value.bool (!(vdoor a0 a1 a2))), (7, Value.bool (!(vdoor a0 a1 a2)))] [.no, .no] True (by kernel_rfl) trivial hS3 ?_
  rcases Bool.eq_false_or_eq_true (vdoor a0 a1 a2) with hb4 | hb4
  · skip
    obtain ⟨hb4v1, hb4v2, hb4v3, hb4v4, hb4v5, hb4v6⟩ := vdoor_bd hb4
    refine q_seg (S := (fun x_ => St w x_ [Res.box blk2 [Value.int .i64 a0, Value.int .i64 a1, Value.int .i64 a2] 25])) [(9, Value.int .i64 b)] [.no] (((!(vdoor a0 a1 a2)) = false)) (by kernel_rfl) (nb (v := true) hb4) hS3 ?_
    refine l_opg rfl (b := (!(vdoor a0 a1 a2))) (want := false) (by kernel_rfl) (nb (v := true) hb4) (fun K hK => op_callv (d := some 10) rfl rfl ⟨_, Try.func35, by kernel_rfl, by kernel_rfl⟩ (vs := [Value.int .i64 b, Value.int .i64 1, Value.int .i64 4]) (by kernel_rfl) (v := Value.bool (inR b 1 4)) (l1In_c b 1 4 _) hS3 (fun w5 hS5 => hK _ _ ?_))
    clear hK K
    refine q_seg (S := (fun x_ => St w x_ [Res.box blk2 [Value.int .i64 a0, Value.int .i64 a1, Value.int .i64 a2] 25])) [(12, Value.bool (!(inR b 1 4))), (11, Value.bool (!(inR b 1 4)))] [.no, .v (.bool false)] (((!(vdoor a0 a1 a2)) = false) ∧ ((!(vdoor a0 a1 a2)) = false)) (by kernel_rfl) ⟨(nb (v := true) hb4), (nb (v := true) hb4)⟩ hS5 ?_
    refine l_nil rfl ?_
    refine then_n ?_
    rcases Bool.eq_false_or_eq_true (inR b 1 4) with hb6 | hb6
    · skip
      obtain ⟨hb6p, hb6q⟩ := inR_iff.1 hb6
      refine c_false (b := (!(inR b 1 4))) (by kernel_rfl) (nb (v := true) hb6) ?_
      refine wp_skip ?_
      refine then_n ?_
      refine wp_seq ?_
      refine c_reg ?_
      refine q_seg (S := (fun x_ => St w x_ [Res.box blk2 [Value.int .i64 a0, Value.int .i64 a1, Value.int .i64 a2] 25])) [(17, Value.int .i64 (a0 * ((5 : Int) - b))), (16, Value.int .i64 ((5 : Int) - b)), (15, Value.int .i64 b), (14, Value.int .i64 a0), (13, Value.pointer (some ⟨blk2, 0 + 0, none⟩))] [.no, .v (Value.int .i64 a0), .no, .no, .v (.int .i64 (a0 * ((5 : Int) - b)))] ((LoadsAt Try.prog (fun x_ => St w x_ [Res.box blk2 [Value.int .i64 a0, Value.int .i64 a1, Value.int .i64 a2] 25]) 3 ⟨blk2, 0 + 0, none⟩ (Value.int .i64 a0)) ∧ (InK .i64 ((5 : Int) - b)) ∧ (IntKind.wrap .i64 (a0 * ((5 : Int) - b)) = (a0 * ((5 : Int) - b)))) (by kernel_rfl) ⟨(ld_box (i := 0) rfl rfl (by kernel_rfl)), (in64 (by omega) (by omega)), in64 (by have := (mul_bd (c := a0) (k := b) (by omega) (by omega) (by omega) (by omega)); omega) (by have := (mul_bd (c := a0) (k := b) (by omega) (by omega) (by omega) (by omega)); omega)⟩ hS5 ?_
      refine l_op rfl rfl (fun K hK => op_callv (d := some 18) rfl rfl ⟨_, Try.func37, by kernel_rfl, by kernel_rfl⟩ (vs := [Value.int .i64 (a0 * ((5 : Int) - b)), Value.int .i64 4]) (by kernel_rfl) (v := Value.int .i64 (cdiv (a0 * ((5 : Int) - b)) (4 : Int))) (CeilDivS_c (a0 * ((5 : Int) - b)) (4 : Int) (i64 (by have := (mul_bd (c := a0) (k := b) (by omega) (by omega) (by omega) (by omega)); omega) (by have := (mul_bd (c := a0) (k := b) (by omega) (by omega) (by omega) (by omega)); omega)) (i64 (by omega) (by omega)) _) hS5 (fun w7 hS7 => hK _ _ ?_))
      clear hK K
      refine q_seg (S := (fun x_ => St w x_ [Res.box blk2 [Value.int .i64 a0, Value.int .i64 a1, Value.int .i64 a2] 25])) [(4, Value.int .i64 (cdiv (a0 * ((5 : Int) - b)) (4 : Int)))] [.no] True (by kernel_rfl) trivial hS7 ?_
      refine l_nil rfl ?_
      refine then_n ?_
      refine wp_ret ?_
      exact c_end (S := (fun x_ => St w x_ [Res.box blk2 [Value.int .i64 a0, Value.int .i64 a1, Value.int .i64 a2] 25])) (rs := [.tmp 4]) rfl [] (v := Value.int .i64 (cdiv (a0 * ((5 : Int) - b)) (4 : Int))) (C := True) (by kernel_rfl) trivial hS7 ((hS7.rv (congrArg (Value.int .i64) (by first | (rw [climit, if_pos (by simp [*])]; have := (mul_bd (c := a0) (k := b) (by omega) (by omega) (by omega) (by omega)); rw [cdiv, if_pos ⟨by omega, by omega, by omega, by omega⟩]; congr 1; omega) | (rw [climit, if_neg (by simp [*])])))))
    · skip
      have hb6p := inR_neg hb6
      refine c_true (b := (!(inR b 1 4))) (by kernel_rfl) (nb (v := false) hb6) ?_
      refine wp_seq ?_
      refine c_reg ?_
      refine q_seg (S := (fun x_ => St w x_ [Res.box blk2 [Value.int .i64 a0, Value.int .i64 a1, Value.int .i64 a2] 25])) [(4, Value.int .i64 0)] [.no] True (by kernel_rfl) trivial hS5 ?_
      refine l_nil rfl ?_
      refine then_n ?_
      refine wp_ret ?_
      refine then_r ?_
      exact c_end (S := (fun x_ => St w x_ [Res.box blk2 [Value.int .i64 a0, Value.int .i64 a1, Value.int .i64 a2] 25])) (rs := [.tmp 4]) rfl [] (v := Value.int .i64 0) (C := True) (by kernel_rfl) trivial hS5 ((hS5.rv (congrArg (Value.int .i64) (by first | (rw [climit, if_pos (by simp [*])]; have := (mul_bd (c := a0) (k := b) (by omega) (by omega) (by omega) (by omega)); rw [cdiv, if_pos ⟨by omega, by omega, by omega, by omega⟩]; congr 1; omega) | (rw [climit, if_neg (by simp [*])])))))
  · skip
    refine q_seg (S := (fun x_ => St w x_ [Res.box blk2 [Value.int .i64 a0, Value.int .i64 a1, Value.int .i64 a2] 25])) [(12, Value.bool true), (11, undef), (10, undef), (9, undef)] [.skip, .skip, .skip, .v (.bool true)] (((!(vdoor a0 a1 a2)) = !false) ∧ ((!(vdoor a0 a1 a2)) = !false) ∧ ((!(vdoor a0 a1 a2)) = !false) ∧ ((!(vdoor a0 a1 a2)) = true)) (by kernel_rfl) ⟨(nb (v := false) hb4), (nb (v := false) hb4), (nb (v := false) hb4), (nb (v := false) hb4)⟩ hS3 ?_
    refine l_nil rfl ?_
    refine then_n ?_
    refine c_true (b := true) (by kernel_rfl) rfl ?_
    refine wp_seq ?_
    refine c_reg ?_
    refine q_seg (S := (fun x_ => St w x_ [Res.box blk2 [Value.int .i64 a0, Value.int .i64 a1, Value.int .i64 a2] 25])) [(4, Value.int .i64 0)] [.no] True (by kernel_rfl) trivial hS3 ?_
    refine l_nil rfl ?_
    refine then_n ?_
    refine wp_ret ?_
    refine then_r ?_
    exact c_end (S := (fun x_ => St w x_ [Res.box blk2 [Value.int .i64 a0, Value.int .i64 a1, Value.int .i64 a2] 25])) (rs := [.tmp 4]) rfl [] (v := Value.int .i64 0) (C := True) (by kernel_rfl) trivial hS3 ((hS3.rv (congrArg (Value.int .i64) (by first | (rw [climit, if_pos (by simp [*])]; have := (mul_bd (c := a0) (k := b) (by omega) (by omega) (by omega) (by omega)); rw [cdiv, if_pos ⟨by omega, by omega, by omega, by omega⟩]; congr 1; omega) | (rw [climit, if_neg (by simp [*])])))))

theorem AdmitRequest_i_c (a0 : Int) (a1 : Int) (a2 : Int) (b : Int) (c : Int) (w : World) : Calls Try.prog 22 #[Value.agg #[Value.int .i64 a0, Value.int .i64 a1, Value.int .i64 a2], Value.int .i64 b, Value.int .i64 c] w (RetV w (Value.tuple #[Value.agg #[Value.int .i64 a0, Value.int .i64 ((admP a0 a1 a2 b c).1), Value.int .i64 ((admP a0 a1 a2 b c).2.1)], Value.bool ((admP a0 a1 a2 b c).2.2)])) := by
  refine calls_FA Try.func22 rfl (n := 38) rfl (l := [(0, Value.agg #[Value.int .i64 a0, Value.int .i64 a1, Value.int .i64 a2]), (1, Value.int .i64 b), (2, Value.int .i64 c)]) rfl (by simp) (fun g => ?_)
  have hS := St.init w
  refine wp_seq ?_
  refine c_reg ?_
  refine l_op rfl rfl (fun K hK => op_box (d := some 3) rfl rfl [Value.int .i64 a0, Value.int .i64 a1, Value.int .i64 a2] (by kernel_rfl) hS (fun blk2 w1 hS1 => hK _ _ ?_))
  clear hK K
  refine l_op rfl rfl (fun K hK => op_alloc (d := some 6) rfl rfl [Value.int .i64 0, Value.int .i64 0, Value.int .i64 0] (by kernel_rfl) hS1 (fun blk4 w3 hS3 => hK _ _ ?_))
  clear hK K
  refine q_seg (S := (fun x_ => St w x_ [Res.box blk4 [Value.int .i64 0, Value.int .i64 0, Value.int .i64 0] 25, Res.box blk2 [Value.int .i64 a0, Value.int .i64 a1, Value.int .i64 a2] 25])) [(7, Value.bool false)] [.no] True (by kernel_rfl) trivial hS3 ?_
  refine l_nil rfl ?_
  refine then_n ?_
  refine wp_seq ?_
  refine wp_seq ?_
  refine c_reg ?_
  refine q_seg (S := (fun x_ => St w x_ [Res.box blk4 [Value.int .i64 0, Value.int .i64 0, Value.int .i64 0] 25, Res.box blk2 [Value.int .i64 a0, Value.int .i64 a1, Value.int .i64 a2] 25])) [(8, Value.agg #[Value.int .i64 a0, Value.int .i64 a1, Value.int .i64 a2])] [.v (Value.agg #[Value.int .i64 a0, Value.int .i64 a1, Value.int .i64 a2])] ((LoadsAt Try.prog (fun x_ => St w x_ [Res.box blk4 [Value.int .i64 0, Value.int .i64 0, Value.int .i64 0] 25, Res.box blk2 [Value.int .i64 a0, Value.int .i64 a1, Value.int .i64 a2] 25]) 25 ⟨blk2, 0, none⟩ (Value.agg #[Value.int .i64 a0, Value.int .i64 a1, Value.int .i64 a2]))) (by kernel_rfl) (ld_boxN (i := 1) (k := 3) rfl rfl rfl (by kernel_rfl)) hS3 ?_
  refine l_op rfl rfl (fun K hK => op_callv (d := some 9) rfl rfl ⟨_, Try.func14, by kernel_rfl, by kernel_rfl⟩ (vs := [Value.agg #[Value.int .i64 a0, Value.int .i64 a1, Value.int .i64 a2]]) (by kernel_rfl) (v := Value.bool (vdoor a0 a1 a2)) (IsValidOverloadControl_i_c a0 a1 a2  _) hS3 (fun w5 hS5 => hK _ _ ?_))
  clear hK K
  refine q_seg (S := (fun x_ => St w x_ [Res.box blk4 [Value.int .i64 0, Value.int .i64 0, Value.int .i64 0] 25, Res.box blk2 [Value.int .i64 a0, Value.int .i64 a1, Value.int .i64 a2] 25])) [(11, Value.bool (!(vdoor a0 a1 a2))), (10, Value.bool (!(vdoor a0 a1 a2)))] [.no, .no] True (by kernel_rfl) trivial hS5 ?_
  rcases Bool.eq_false_or_eq_true (vdoor a0 a1 a2) with hb6 | hb6
  · skip
    obtain ⟨hb6v1, hb6v2, hb6v3, hb6v4, hb6v5, hb6v6⟩ := vdoor_bd hb6
    refine q_seg (S := (fun x_ => St w x_ [Res.box blk4 [Value.int .i64 0, Value.int .i64 0, Value.int .i64 0] 25, Res.box blk2 [Value.int .i64 a0, Value.int .i64 a1, Value.int .i64 a2] 25])) [(14, Value.int .i64 a2), (13, Value.pointer (some ⟨blk2, 0 + 2, none⟩)), (12, Value.int .i64 c)] [.no, .no, .v (Value.int .i64 a2)] (((!(vdoor a0 a1 a2)) = false) ∧ ((!(vdoor a0 a1 a2)) = false) ∧ ((!(vdoor a0 a1 a2)) = false) ∧ (LoadsAt Try.prog (fun x_ => St w x_ [Res.box blk4 [Value.int .i64 0, Value.int .i64 0, Value.int .i64 0] 25, Res.box blk2 [Value.int .i64 a0, Value.int .i64 a1, Value.int .i64 a2] 25]) 3 ⟨blk2, 0 + 2, none⟩ (Value.int .i64 a2))) (by kernel_rfl) ⟨(nb (v := true) hb6), (nb (v := true) hb6), (nb (v := true) hb6), (ld_box (i := 1) rfl rfl (by kernel_rfl))⟩ hS5 ?_
    refine l_opg rfl (b := (!(vdoor a0 a1 a2))) (want := false) (by kernel_rfl) (nb (v := true) hb6) (fun K hK => op_callv (d := some 15) rfl rfl ⟨_, Try.func36, by kernel_rfl, by kernel_rfl⟩ (vs := [Value.int .i64 c, Value.int .i64 a2, Value.int .i64 1000000000000]) (by kernel_rfl) (v := Value.bool (inR c a2 1000000000000)) (InRange_c c a2 1000000000000 _) hS5 (fun w7 hS7 => hK _ _ ?_))
    clear hK K
    refine q_seg (S := (fun x_ => St w x_ [Res.box blk4 [Value.int .i64 0, Value.int .i64 0, Value.int .i64 0] 25, Res.box blk2 [Value.int .i64 a0, Value.int .i64 a1, Value.int .i64 a2] 25])) [(17, Value.bool (!(inR c a2 1000000000000))), (16, Value.bool (!(inR c a2 1000000000000)))] [.no, .v (.bool false)] (((!(vdoor a0 a1 a2)) = false) ∧ ((!(vdoor a0 a1 a2)) = false)) (by kernel_rfl) ⟨(nb (v := true) hb6), (nb (v := true) hb6)⟩ hS7 ?_
    refine l_nil rfl ?_
    refine then_n ?_
    rcases Bool.eq_false_or_eq_true (inR c a2 1000000000000) with hb8 | hb8
    · skip
      obtain ⟨hb8p, hb8q⟩ := inR_iff.1 hb8
      refine c_false (b := (!(inR c a2 1000000000000))) (by kernel_rfl) (nb (v := true) hb8) ?_
      refine wp_skip ?_
      refine then_n ?_
      refine wp_seq ?_
      refine wp_seq ?_
      refine c_reg ?_
      refine q_seg (S := (fun x_ => St w x_ [Res.box blk4 [Value.int .i64 0, Value.int .i64 0, Value.int .i64 0] 25, Res.box blk2 [Value.int .i64 a0, Value.int .i64 a1, Value.int .i64 a2] 25])) [(22, Value.bool (decide (a2 < c))), (21, Value.int .i64 a2), (20, Value.pointer (some ⟨blk2, 0 + 2, none⟩)), (19, Value.int .i64 c)] [.no, .no, .v (Value.int .i64 a2), .no] ((LoadsAt Try.prog (fun x_ => St w x_ [Res.box blk4 [Value.int .i64 0, Value.int .i64 0, Value.int .i64 0] 25, Res.box blk2 [Value.int .i64 a0, Value.int .i64 a1, Value.int .i64 a2] 25]) 3 ⟨blk2, 0 + 2, none⟩ (Value.int .i64 a2))) (by kernel_rfl) (ld_box (i := 1) rfl rfl (by kernel_rfl)) hS7 ?_
      refine l_nil rfl ?_
      refine then_n ?_
      rcases Bool.eq_false_or_eq_true (decide (a2 < c)) with hb9 | hb9
      · skip
        have hb9p := of_decide_eq_true hb9
        refine c_true (b := (decide (a2 < c))) (by kernel_rfl) hb9 ?_
        refine wp_seq ?_
        refine c_reg ?_
        refine q_seg (S := (fun x_ => St w x_ [Res.box blk4 [Value.int .i64 0, Value.int .i64 0, Value.int .i64 0] 25, Res.box blk2 [Value.int .i64 a0, Value.int .i64 a1, Value.int .i64 a2] 25])) [(24, Value.pointer (some ⟨blk2, 0 + 2, none⟩)), (23, Value.int .i64 c)] [.no, .no] True (by kernel_rfl) trivial hS7 ?_
        refine l_op rfl rfl (fun K hK => op_store (d := none) rfl rfl (i := 1) (b := blk2) (off := 0 + 2) (cs := [Value.int .i64 a0, Value.int .i64 a1, Value.int .i64 a2]) (bt := 25) (by kernel_rfl) (by kernel_rfl) [Value.int .i64 c] (by kernel_rfl) (by kernel_rfl) (Nat.le_of_ble_eq_true (by kernel_rfl)) (by kernel_rfl) [Res.box blk4 [Value.int .i64 0, Value.int .i64 0, Value.int .i64 0] 25, Res.box blk2 [Value.int .i64 a0, Value.int .i64 a1, Value.int .i64 c] 25] (by kernel_rfl) hS7 (fun w10 hS10 => hK _ _ ?_))
        clear hK K
        refine l_nil rfl ?_
        refine then_n ?_
        refine c_reg ?_
        refine q_seg (S := (fun x_ => St w x_ [Res.box blk4 [Value.int .i64 0, Value.int .i64 0, Value.int .i64 0] 25, Res.box blk2 [Value.int .i64 a0, Value.int .i64 a1, Value.int .i64 c] 25])) [(25, Value.pointer (some ⟨blk2, 0 + 1, none⟩))] [.no] True (by kernel_rfl) trivial hS10 ?_
        refine l_op rfl rfl (fun K hK => op_store (d := none) rfl rfl (i := 1) (b := blk2) (off := 0 + 1) (cs := [Value.int .i64 a0, Value.int .i64 a1, Value.int .i64 c]) (bt := 25) (by kernel_rfl) (by kernel_rfl) [Value.int .i64 0] (by kernel_rfl) (by kernel_rfl) (Nat.le_of_ble_eq_true (by kernel_rfl)) (by kernel_rfl) [Res.box blk4 [Value.int .i64 0, Value.int .i64 0, Value.int .i64 0] 25, Res.box blk2 [Value.int .i64 a0, Value.int .i64 0, Value.int .i64 c] 25] (by kernel_rfl) hS10 (fun w11 hS11 => hK _ _ ?_))
        clear hK K
        refine l_nil rfl ?_
        refine then_n ?_
        refine wp_seq ?_
        refine wp_seq ?_
        refine c_drawn [] (by kernel_rfl) hS11 (fun w12 hS12 => ?_)
        refine t_seg (S := (fun x_ => St w x_ [Res.box blk4 [Value.int .i64 0, Value.int .i64 0, Value.int .i64 0] 25, Res.box blk2 [Value.int .i64 a0, Value.int .i64 0, Value.int .i64 c] 25])) [(0, .no), (2, .v (Value.agg #[Value.int .i64 a0, Value.int .i64 0, Value.int .i64 c])), (3, .no), (1, .v (Value.int .i64 0))] 2 #[true, true, true, true, false, false] [(27, Value.int .i64 0), (29, Value.int .i64 b), (28, Value.agg #[Value.int .i64 a0, Value.int .i64 0, Value.int .i64 c]), (26, Value.pointer (some ⟨blk2, 0 + 1, none⟩))] ((LoadsAt Try.prog (fun x_ => St w x_ [Res.box blk4 [Value.int .i64 0, Value.int .i64 0, Value.int .i64 0] 25, Res.box blk2 [Value.int .i64 a0, Value.int .i64 0, Value.int .i64 c] 25]) 25 ⟨blk2, 0, none⟩ (Value.agg #[Value.int .i64 a0, Value.int .i64 0, Value.int .i64 c])) ∧ (LoadsAt Try.prog (fun x_ => St w x_ [Res.box blk4 [Value.int .i64 0, Value.int .i64 0, Value.int .i64 0] 25, Res.box blk2 [Value.int .i64 a0, Value.int .i64 0, Value.int .i64 c] 25]) 3 ⟨blk2, 0 + 1, none⟩ (Value.int .i64 0))) (by kernel_rfl) (Qpanic.then (Qpanic.then Qpanic.bp)) rfl (by kernel_rfl) ⟨(ld_boxN (i := 1) (k := 3) rfl rfl rfl (by kernel_rfl)), (ld_box (i := 1) rfl rfl (by kernel_rfl))⟩ hS12 ?_
        refine a_op (i := 4) (fuel := 1) (listed' := #[true, true, true, true, true, false]) rfl rfl (by kernel_rfl) (by kernel_rfl) rfl (fun K hK => op_callv (d := some 30) rfl rfl ⟨_, Try.func16, by kernel_rfl, by kernel_rfl⟩ (vs := [Value.agg #[Value.int .i64 a0, Value.int .i64 0, Value.int .i64 c], Value.int .i64 b]) (by kernel_rfl) (v := Value.int .i64 (climit a0 (0 : Int) c b)) (ClassLimit_i_c a0 (0 : Int) c b  _) hS12 (fun w13 hS13 => hK _ _ (fun _ => hS13) ?_))
        clear hK K
        have hclq14 := climit_bd a0 (0 : Int) c b
        refine t_seg (S := (fun x_ => St w x_ [Res.box blk4 [Value.int .i64 0, Value.int .i64 0, Value.int .i64 0] 25, Res.box blk2 [Value.int .i64 a0, Value.int .i64 0, Value.int .i64 c] 25])) [(5, .no)] 0 #[true, true, true, true, true, true] [(31, Value.bool (decide ((climit a0 (0 : Int) c b) ≤ (0 : Int))))] True (by kernel_rfl) (Qpanic.then (Qpanic.then Qpanic.bp)) rfl (by kernel_rfl) trivial hS13 ?_
        refine a_done (by kernel_rfl) ?_
        refine then_n ?_
        rcases Bool.eq_false_or_eq_true (decide ((climit a0 (0 : Int) c b) ≤ (0 : Int))) with hb15 | hb15
        · skip
          have hb15p := of_decide_eq_true hb15
          refine c_true (b := (decide ((climit a0 (0 : Int) c b) ≤ (0 : Int)))) (by kernel_rfl) hb15 ?_
          refine wp_seq ?_
          refine c_reg ?_
          refine q_seg (S := (fun x_ => St w x_ [Res.box blk4 [Value.int .i64 0, Value.int .i64 0, Value.int .i64 0] 25, Res.box blk2 [Value.int .i64 a0, Value.int .i64 0, Value.int .i64 c] 25])) [(32, Value.agg #[Value.int .i64 a0, Value.int .i64 0, Value.int .i64 c])] [.v (Value.agg #[Value.int .i64 a0, Value.int .i64 0, Value.int .i64 c])] ((LoadsAt Try.prog (fun x_ => St w x_ [Res.box blk4 [Value.int .i64 0, Value.int .i64 0, Value.int .i64 0] 25, Res.box blk2 [Value.int .i64 a0, Value.int .i64 0, Value.int .i64 c] 25]) 25 ⟨blk2, 0, none⟩ (Value.agg #[Value.int .i64 a0, Value.int .i64 0, Value.int .i64 c]))) (by kernel_rfl) (ld_boxN (i := 1) (k := 3) rfl rfl rfl (by kernel_rfl)) hS13 ?_
          refine l_op rfl rfl (fun K hK => op_store (d := none) rfl rfl (i := 0) (b := blk4) (off := 0) (cs := [Value.int .i64 0, Value.int .i64 0, Value.int .i64 0]) (bt := 25) (by kernel_rfl) (by kernel_rfl) [Value.int .i64 a0, Value.int .i64 0, Value.int .i64 c] (by kernel_rfl) (by kernel_rfl) (Nat.le_of_ble_eq_true (by kernel_rfl)) (by kernel_rfl) [Res.box blk4 [Value.int .i64 a0, Value.int .i64 0, Value.int .i64 c] 25, Res.box blk2 [Value.int .i64 a0, Value.int .i64 0, Value.int .i64 c] 25] (by kernel_rfl) hS13 (fun w16 hS16 => hK _ _ ?_))
          clear hK K
          refine q_seg (S := (fun x_ => St w x_ [Res.box blk4 [Value.int .i64 a0, Value.int .i64 0, Value.int .i64 c] 25, Res.box blk2 [Value.int .i64 a0, Value.int .i64 0, Value.int .i64 c] 25])) [(7, Value.bool false)] [.no] True (by kernel_rfl) trivial hS16 ?_
          refine l_nil rfl ?_
          refine then_n ?_
          refine wp_ret ?_
          refine then_r ?_
          exact c_end (S := (fun x_ => St w x_ [Res.box blk4 [Value.int .i64 a0, Value.int .i64 0, Value.int .i64 c] 25, Res.box blk2 [Value.int .i64 a0, Value.int .i64 0, Value.int .i64 c] 25])) (rs := [.cell 6 25, .tmp 7]) rfl [Value.agg #[Value.int .i64 a0, Value.int .i64 0, Value.int .i64 c]] (v := Value.tuple #[Value.agg #[Value.int .i64 a0, Value.int .i64 0, Value.int .i64 c], Value.bool false]) (C := ((LoadsAt Try.prog (fun x_ => St w x_ [Res.box blk4 [Value.int .i64 a0, Value.int .i64 0, Value.int .i64 c] 25, Res.box blk2 [Value.int .i64 a0, Value.int .i64 0, Value.int .i64 c] 25]) 25 ⟨blk4, 0, none⟩ (Value.agg #[Value.int .i64 a0, Value.int .i64 0, Value.int .i64 c])))) (by kernel_rfl) (ld_boxN (i := 0) (k := 3) rfl rfl rfl (by kernel_rfl)) hS16 ((hS16.rv (by first | (simp [admP, *]; done) | (obtain rfl : c = a2 := (by omega); simp [admP, *]; done))))
        · skip
          have hb15p := of_decide_eq_false hb15
          refine c_false (b := (decide ((climit a0 (0 : Int) c b) ≤ (0 : Int)))) (by kernel_rfl) hb15 ?_
          refine wp_skip ?_
          refine then_n ?_
          refine wp_seq ?_
          refine c_reg ?_
          refine q_seg (S := (fun x_ => St w x_ [Res.box blk4 [Value.int .i64 0, Value.int .i64 0, Value.int .i64 0] 25, Res.box blk2 [Value.int .i64 a0, Value.int .i64 0, Value.int .i64 c] 25])) [(36, Value.pointer (some ⟨blk2, 0 + 1, none⟩)), (35, Value.int .i64 ((0 : Int) + (1 : Int))), (34, Value.int .i64 0), (33, Value.pointer (some ⟨blk2, 0 + 1, none⟩))] [.no, .v (Value.int .i64 0), .no, .no] ((LoadsAt Try.prog (fun x_ => St w x_ [Res.box blk4 [Value.int .i64 0, Value.int .i64 0, Value.int .i64 0] 25, Res.box blk2 [Value.int .i64 a0, Value.int .i64 0, Value.int .i64 c] 25]) 3 ⟨blk2, 0 + 1, none⟩ (Value.int .i64 0)) ∧ (InK .i64 ((0 : Int) + (1 : Int)))) (by kernel_rfl) ⟨(ld_box (i := 1) rfl rfl (by kernel_rfl)), (in64 (by omega) (by omega))⟩ hS13 ?_
          refine l_op rfl rfl (fun K hK => op_store (d := none) rfl rfl (i := 1) (b := blk2) (off := 0 + 1) (cs := [Value.int .i64 a0, Value.int .i64 0, Value.int .i64 c]) (bt := 25) (by kernel_rfl) (by kernel_rfl) [Value.int .i64 ((0 : Int) + (1 : Int))] (by kernel_rfl) (by kernel_rfl) (Nat.le_of_ble_eq_true (by kernel_rfl)) (by kernel_rfl) [Res.box blk4 [Value.int .i64 0, Value.int .i64 0, Value.int .i64 0] 25, Res.box blk2 [Value.int .i64 a0, Value.int .i64 ((0 : Int) + (1 : Int)), Value.int .i64 c] 25] (by kernel_rfl) hS13 (fun w17 hS17 => hK _ _ ?_))
          clear hK K
          refine l_nil rfl ?_
          refine then_n ?_
          refine wp_seq ?_
          refine c_reg ?_
          refine q_seg (S := (fun x_ => St w x_ [Res.box blk4 [Value.int .i64 0, Value.int .i64 0, Value.int .i64 0] 25, Res.box blk2 [Value.int .i64 a0, Value.int .i64 ((0 : Int) + (1 : Int)), Value.int .i64 c] 25])) [(37, Value.agg #[Value.int .i64 a0, Value.int .i64 ((0 : Int) + (1 : Int)), Value.int .i64 c])] [.v (Value.agg #[Value.int .i64 a0, Value.int .i64 ((0 : Int) + (1 : Int)), Value.int .i64 c])] ((LoadsAt Try.prog (fun x_ => St w x_ [Res.box blk4 [Value.int .i64 0, Value.int .i64 0, Value.int .i64 0] 25, Res.box blk2 [Value.int .i64 a0, Value.int .i64 ((0 : Int) + (1 : Int)), Value.int .i64 c] 25]) 25 ⟨blk2, 0, none⟩ (Value.agg #[Value.int .i64 a0, Value.int .i64 ((0 : Int) + (1 : Int)), Value.int .i64 c]))) (by kernel_rfl) (ld_boxN (i := 1) (k := 3) rfl rfl rfl (by kernel_rfl)) hS17 ?_
          refine l_op rfl rfl (fun K hK => op_store (d := none) rfl rfl (i := 0) (b := blk4) (off := 0) (cs := [Value.int .i64 0, Value.int .i64 0, Value.int .i64 0]) (bt := 25) (by kernel_rfl) (by kernel_rfl) [Value.int .i64 a0, Value.int .i64 ((0 : Int) + (1 : Int)), Value.int .i64 c] (by kernel_rfl) (by kernel_rfl) (Nat.le_of_ble_eq_true (by kernel_rfl)) (by kernel_rfl) [Res.box blk4 [Value.int .i64 a0, Value.int .i64 ((0 : Int) + (1 : Int)), Value.int .i64 c] 25, Res.box blk2 [Value.int .i64 a0, Value.int .i64 ((0 : Int) + (1 : Int)), Value.int .i64 c] 25] (by kernel_rfl) hS17 (fun w18 hS18 => hK _ _ ?_))
          clear hK K
          refine q_seg (S := (fun x_ => St w x_ [Res.box blk4 [Value.int .i64 a0, Value.int .i64 ((0 : Int) + (1 : Int)), Value.int .i64 c] 25, Res.box blk2 [Value.int .i64 a0, Value.int .i64 ((0 : Int) + (1 : Int)), Value.int .i64 c] 25])) [(7, Value.bool true)] [.no] True (by kernel_rfl) trivial hS18 ?_
          refine l_nil rfl ?_
          refine then_n ?_
          refine wp_ret ?_
          exact c_end (S := (fun x_ => St w x_ [Res.box blk4 [Value.int .i64 a0, Value.int .i64 ((0 : Int) + (1 : Int)), Value.int .i64 c] 25, Res.box blk2 [Value.int .i64 a0, Value.int .i64 ((0 : Int) + (1 : Int)), Value.int .i64 c] 25])) (rs := [.cell 6 25, .tmp 7]) rfl [Value.agg #[Value.int .i64 a0, Value.int .i64 ((0 : Int) + (1 : Int)), Value.int .i64 c]] (v := Value.tuple #[Value.agg #[Value.int .i64 a0, Value.int .i64 ((0 : Int) + (1 : Int)), Value.int .i64 c], Value.bool true]) (C := ((LoadsAt Try.prog (fun x_ => St w x_ [Res.box blk4 [Value.int .i64 a0, Value.int .i64 ((0 : Int) + (1 : Int)), Value.int .i64 c] 25, Res.box blk2 [Value.int .i64 a0, Value.int .i64 ((0 : Int) + (1 : Int)), Value.int .i64 c] 25]) 25 ⟨blk4, 0, none⟩ (Value.agg #[Value.int .i64 a0, Value.int .i64 ((0 : Int) + (1 : Int)), Value.int .i64 c])))) (by kernel_rfl) (ld_boxN (i := 0) (k := 3) rfl rfl rfl (by kernel_rfl)) hS18 ((hS18.rv (by first | (simp [admP, *]; done) | (obtain rfl : c = a2 := (by omega); simp [admP, *]; done))))
      · skip
        have hb9p := of_decide_eq_false hb9
        refine c_false (b := (decide (a2 < c))) (by kernel_rfl) hb9 ?_
        refine wp_skip ?_
        refine then_n ?_
        refine wp_seq ?_
        refine wp_seq ?_
        refine c_drawn [] (by kernel_rfl) hS7 (fun w19 hS19 => ?_)
        refine t_seg (S := (fun x_ => St w x_ [Res.box blk4 [Value.int .i64 0, Value.int .i64 0, Value.int .i64 0] 25, Res.box blk2 [Value.int .i64 a0, Value.int .i64 a1, Value.int .i64 a2] 25])) [(0, .no), (2, .v (Value.agg #[Value.int .i64 a0, Value.int .i64 a1, Value.int .i64 a2])), (3, .no), (1, .v (Value.int .i64 a1))] 2 #[true, true, true, true, false, false] [(27, Value.int .i64 a1), (29, Value.int .i64 b), (28, Value.agg #[Value.int .i64 a0, Value.int .i64 a1, Value.int .i64 a2]), (26, Value.pointer (some ⟨blk2, 0 + 1, none⟩))] ((LoadsAt Try.prog (fun x_ => St w x_ [Res.box blk4 [Value.int .i64 0, Value.int .i64 0, Value.int .i64 0] 25, Res.box blk2 [Value.int .i64 a0, Value.int .i64 a1, Value.int .i64 a2] 25]) 25 ⟨blk2, 0, none⟩ (Value.agg #[Value.int .i64 a0, Value.int .i64 a1, Value.int .i64 a2])) ∧ (LoadsAt Try.prog (fun x_ => St w x_ [Res.box blk4 [Value.int .i64 0, Value.int .i64 0, Value.int .i64 0] 25, Res.box blk2 [Value.int .i64 a0, Value.int .i64 a1, Value.int .i64 a2] 25]) 3 ⟨blk2, 0 + 1, none⟩ (Value.int .i64 a1))) (by kernel_rfl) (Qpanic.then (Qpanic.then Qpanic.bp)) rfl (by kernel_rfl) ⟨(ld_boxN (i := 1) (k := 3) rfl rfl rfl (by kernel_rfl)), (ld_box (i := 1) rfl rfl (by kernel_rfl))⟩ hS19 ?_
        refine a_op (i := 4) (fuel := 1) (listed' := #[true, true, true, true, true, false]) rfl rfl (by kernel_rfl) (by kernel_rfl) rfl (fun K hK => op_callv (d := some 30) rfl rfl ⟨_, Try.func16, by kernel_rfl, by kernel_rfl⟩ (vs := [Value.agg #[Value.int .i64 a0, Value.int .i64 a1, Value.int .i64 a2], Value.int .i64 b]) (by kernel_rfl) (v := Value.int .i64 (climit a0 a1 a2 b)) (ClassLimit_i_c a0 a1 a2 b  _) hS19 (fun w20 hS20 => hK _ _ (fun _ => hS20) ?_))
        clear hK K
        have hclq21 := climit_bd a0 a1 a2 b
        refine t_seg (S := (fun x_ => St w x_ [Res.box blk4 [Value.int .i64 0, Value.int .i64 0, Value.int .i64 0] 25, Res.box blk2 [Value.int .i64 a0, Value.int .i64 a1, Value.int .i64 a2] 25])) [(5, .no)] 0 #[true, true, true, true, true, true] [(31, Value.bool (decide ((climit a0 a1 a2 b) ≤ a1)))] True (by kernel_rfl) (Qpanic.then (Qpanic.then Qpanic.bp)) rfl (by kernel_rfl) trivial hS20 ?_
        refine a_done (by kernel_rfl) ?_
        refine then_n ?_
        rcases Bool.eq_false_or_eq_true (decide ((climit a0 a1 a2 b) ≤ a1)) with hb22 | hb22
        · skip
          have hb22p := of_decide_eq_true hb22
          refine c_true (b := (decide ((climit a0 a1 a2 b) ≤ a1))) (by kernel_rfl) hb22 ?_
          refine wp_seq ?_
          refine c_reg ?_
          refine q_seg (S := (fun x_ => St w x_ [Res.box blk4 [Value.int .i64 0, Value.int .i64 0, Value.int .i64 0] 25, Res.box blk2 [Value.int .i64 a0, Value.int .i64 a1, Value.int .i64 a2] 25])) [(32, Value.agg #[Value.int .i64 a0, Value.int .i64 a1, Value.int .i64 a2])] [.v (Value.agg #[Value.int .i64 a0, Value.int .i64 a1, Value.int .i64 a2])] ((LoadsAt Try.prog (fun x_ => St w x_ [Res.box blk4 [Value.int .i64 0, Value.int .i64 0, Value.int .i64 0] 25, Res.box blk2 [Value.int .i64 a0, Value.int .i64 a1, Value.int .i64 a2] 25]) 25 ⟨blk2, 0, none⟩ (Value.agg #[Value.int .i64 a0, Value.int .i64 a1, Value.int .i64 a2]))) (by kernel_rfl) (ld_boxN (i := 1) (k := 3) rfl rfl rfl (by kernel_rfl)) hS20 ?_
          refine l_op rfl rfl (fun K hK => op_store (d := none) rfl rfl (i := 0) (b := blk4) (off := 0) (cs := [Value.int .i64 0, Value.int .i64 0, Value.int .i64 0]) (bt := 25) (by kernel_rfl) (by kernel_rfl) [Value.int .i64 a0, Value.int .i64 a1, Value.int .i64 a2] (by kernel_rfl) (by kernel_rfl) (Nat.le_of_ble_eq_true (by kernel_rfl)) (by kernel_rfl) [Res.box blk4 [Value.int .i64 a0, Value.int .i64 a1, Value.int .i64 a2] 25, Res.box blk2 [Value.int .i64 a0, Value.int .i64 a1, Value.int .i64 a2] 25] (by kernel_rfl) hS20 (fun w23 hS23 => hK _ _ ?_))
          clear hK K
          refine q_seg (S := (fun x_ => St w x_ [Res.box blk4 [Value.int .i64 a0, Value.int .i64 a1, Value.int .i64 a2] 25, Res.box blk2 [Value.int .i64 a0, Value.int .i64 a1, Value.int .i64 a2] 25])) [(7, Value.bool false)] [.no] True (by kernel_rfl) trivial hS23 ?_
          refine l_nil rfl ?_
          refine then_n ?_
          refine wp_ret ?_
          refine then_r ?_
          exact c_end (S := (fun x_ => St w x_ [Res.box blk4 [Value.int .i64 a0, Value.int .i64 a1, Value.int .i64 a2] 25, Res.box blk2 [Value.int .i64 a0, Value.int .i64 a1, Value.int .i64 a2] 25])) (rs := [.cell 6 25, .tmp 7]) rfl [Value.agg #[Value.int .i64 a0, Value.int .i64 a1, Value.int .i64 a2]] (v := Value.tuple #[Value.agg #[Value.int .i64 a0, Value.int .i64 a1, Value.int .i64 a2], Value.bool false]) (C := ((LoadsAt Try.prog (fun x_ => St w x_ [Res.box blk4 [Value.int .i64 a0, Value.int .i64 a1, Value.int .i64 a2] 25, Res.box blk2 [Value.int .i64 a0, Value.int .i64 a1, Value.int .i64 a2] 25]) 25 ⟨blk4, 0, none⟩ (Value.agg #[Value.int .i64 a0, Value.int .i64 a1, Value.int .i64 a2])))) (by kernel_rfl) (ld_boxN (i := 0) (k := 3) rfl rfl rfl (by kernel_rfl)) hS23 ((hS23.rv (by first | (simp [admP, *]; done) | (obtain rfl : c = a2 := (by omega); simp [admP, *]; done))))
        · skip
          have hb22p := of_decide_eq_false hb22
          refine c_false (b := (decide ((climit a0 a1 a2 b) ≤ a1))) (by kernel_rfl) hb22 ?_
          refine wp_skip ?_
          refine then_n ?_
          refine wp_seq ?_
          refine c_reg ?_
          refine q_seg (S := (fun x_ => St w x_ [Res.box blk4 [Value.int .i64 0, Value.int .i64 0, Value.int .i64 0] 25, Res.box blk2 [Value.int .i64 a0, Value.int .i64 a1, Value.int .i64 a2] 25])) [(36, Value.pointer (some ⟨blk2, 0 + 1, none⟩)), (35, Value.int .i64 (a1 + (1 : Int))), (34, Value.int .i64 a1), (33, Value.pointer (some ⟨blk2, 0 + 1, none⟩))] [.no, .v (Value.int .i64 a1), .no, .no] ((LoadsAt Try.prog (fun x_ => St w x_ [Res.box blk4 [Value.int .i64 0, Value.int .i64 0, Value.int .i64 0] 25, Res.box blk2 [Value.int .i64 a0, Value.int .i64 a1, Value.int .i64 a2] 25]) 3 ⟨blk2, 0 + 1, none⟩ (Value.int .i64 a1)) ∧ (InK .i64 (a1 + (1 : Int)))) (by kernel_rfl) ⟨(ld_box (i := 1) rfl rfl (by kernel_rfl)), (in64 (by omega) (by omega))⟩ hS20 ?_
          refine l_op rfl rfl (fun K hK => op_store (d := none) rfl rfl (i := 1) (b := blk2) (off := 0 + 1) (cs := [Value.int .i64 a0, Value.int .i64 a1, Value.int .i64 a2]) (bt := 25) (by kernel_rfl) (by kernel_rfl) [Value.int .i64 (a1 + (1 : Int))] (by kernel_rfl) (by kernel_rfl) (Nat.le_of_ble_eq_true (by kernel_rfl)) (by kernel_rfl) [Res.box blk4 [Value.int .i64 0, Value.int .i64 0, Value.int .i64 0] 25, Res.box blk2 [Value.int .i64 a0, Value.int .i64 (a1 + (1 : Int)), Value.int .i64 a2] 25] (by kernel_rfl) hS20 (fun w24 hS24 => hK _ _ ?_))
          clear hK K
          refine l_nil rfl ?_
          refine then_n ?_
          refine wp_seq ?_
          refine c_reg ?_
          refine q_seg (S := (fun x_ => St w x_ [Res.box blk4 [Value.int .i64 0, Value.int .i64 0, Value.int .i64 0] 25, Res.box blk2 [Value.int .i64 a0, Value.int .i64 (a1 + (1 : Int)), Value.int .i64 a2] 25])) [(37, Value.agg #[Value.int .i64 a0, Value.int .i64 (a1 + (1 : Int)), Value.int .i64 a2])] [.v (Value.agg #[Value.int .i64 a0, Value.int .i64 (a1 + (1 : Int)), Value.int .i64 a2])] ((LoadsAt Try.prog (fun x_ => St w x_ [Res.box blk4 [Value.int .i64 0, Value.int .i64 0, Value.int .i64 0] 25, Res.box blk2 [Value.int .i64 a0, Value.int .i64 (a1 + (1 : Int)), Value.int .i64 a2] 25]) 25 ⟨blk2, 0, none⟩ (Value.agg #[Value.int .i64 a0, Value.int .i64 (a1 + (1 : Int)), Value.int .i64 a2]))) (by kernel_rfl) (ld_boxN (i := 1) (k := 3) rfl rfl rfl (by kernel_rfl)) hS24 ?_
          refine l_op rfl rfl (fun K hK => op_store (d := none) rfl rfl (i := 0) (b := blk4) (off := 0) (cs := [Value.int .i64 0, Value.int .i64 0, Value.int .i64 0]) (bt := 25) (by kernel_rfl) (by kernel_rfl) [Value.int .i64 a0, Value.int .i64 (a1 + (1 : Int)), Value.int .i64 a2] (by kernel_rfl) (by kernel_rfl) (Nat.le_of_ble_eq_true (by kernel_rfl)) (by kernel_rfl) [Res.box blk4 [Value.int .i64 a0, Value.int .i64 (a1 + (1 : Int)), Value.int .i64 a2] 25, Res.box blk2 [Value.int .i64 a0, Value.int .i64 (a1 + (1 : Int)), Value.int .i64 a2] 25] (by kernel_rfl) hS24 (fun w25 hS25 => hK _ _ ?_))
          clear hK K
          refine q_seg (S := (fun x_ => St w x_ [Res.box blk4 [Value.int .i64 a0, Value.int .i64 (a1 + (1 : Int)), Value.int .i64 a2] 25, Res.box blk2 [Value.int .i64 a0, Value.int .i64 (a1 + (1 : Int)), Value.int .i64 a2] 25])) [(7, Value.bool true)] [.no] True (by kernel_rfl) trivial hS25 ?_
          refine l_nil rfl ?_
          refine then_n ?_
          refine wp_ret ?_
          exact c_end (S := (fun x_ => St w x_ [Res.box blk4 [Value.int .i64 a0, Value.int .i64 (a1 + (1 : Int)), Value.int .i64 a2] 25, Res.box blk2 [Value.int .i64 a0, Value.int .i64 (a1 + (1 : Int)), Value.int .i64 a2] 25])) (rs := [.cell 6 25, .tmp 7]) rfl [Value.agg #[Value.int .i64 a0, Value.int .i64 (a1 + (1 : Int)), Value.int .i64 a2]] (v := Value.tuple #[Value.agg #[Value.int .i64 a0, Value.int .i64 (a1 + (1 : Int)), Value.int .i64 a2], Value.bool true]) (C := ((LoadsAt Try.prog (fun x_ => St w x_ [Res.box blk4 [Value.int .i64 a0, Value.int .i64 (a1 + (1 : Int)), Value.int .i64 a2] 25, Res.box blk2 [Value.int .i64 a0, Value.int .i64 (a1 + (1 : Int)), Value.int .i64 a2] 25]) 25 ⟨blk4, 0, none⟩ (Value.agg #[Value.int .i64 a0, Value.int .i64 (a1 + (1 : Int)), Value.int .i64 a2])))) (by kernel_rfl) (ld_boxN (i := 0) (k := 3) rfl rfl rfl (by kernel_rfl)) hS25 ((hS25.rv (by first | (simp [admP, *]; done) | (obtain rfl : c = a2 := (by omega); simp [admP, *]; done))))
    · skip
      have hb8p := inR_neg hb8
      refine c_true (b := (!(inR c a2 1000000000000))) (by kernel_rfl) (nb (v := false) hb8) ?_
      refine wp_seq ?_
      refine c_reg ?_
      refine q_seg (S := (fun x_ => St w x_ [Res.box blk4 [Value.int .i64 0, Value.int .i64 0, Value.int .i64 0] 25, Res.box blk2 [Value.int .i64 a0, Value.int .i64 a1, Value.int .i64 a2] 25])) [(18, Value.agg #[Value.int .i64 a0, Value.int .i64 a1, Value.int .i64 a2])] [.v (Value.agg #[Value.int .i64 a0, Value.int .i64 a1, Value.int .i64 a2])] ((LoadsAt Try.prog (fun x_ => St w x_ [Res.box blk4 [Value.int .i64 0, Value.int .i64 0, Value.int .i64 0] 25, Res.box blk2 [Value.int .i64 a0, Value.int .i64 a1, Value.int .i64 a2] 25]) 25 ⟨blk2, 0, none⟩ (Value.agg #[Value.int .i64 a0, Value.int .i64 a1, Value.int .i64 a2]))) (by kernel_rfl) (ld_boxN (i := 1) (k := 3) rfl rfl rfl (by kernel_rfl)) hS7 ?_
      refine l_op rfl rfl (fun K hK => op_store (d := none) rfl rfl (i := 0) (b := blk4) (off := 0) (cs := [Value.int .i64 0, Value.int .i64 0, Value.int .i64 0]) (bt := 25) (by kernel_rfl) (by kernel_rfl) [Value.int .i64 a0, Value.int .i64 a1, Value.int .i64 a2] (by kernel_rfl) (by kernel_rfl) (Nat.le_of_ble_eq_true (by kernel_rfl)) (by kernel_rfl) [Res.box blk4 [Value.int .i64 a0, Value.int .i64 a1, Value.int .i64 a2] 25, Res.box blk2 [Value.int .i64 a0, Value.int .i64 a1, Value.int .i64 a2] 25] (by kernel_rfl) hS7 (fun w26 hS26 => hK _ _ ?_))
      clear hK K
      refine q_seg (S := (fun x_ => St w x_ [Res.box blk4 [Value.int .i64 a0, Value.int .i64 a1, Value.int .i64 a2] 25, Res.box blk2 [Value.int .i64 a0, Value.int .i64 a1, Value.int .i64 a2] 25])) [(7, Value.bool false)] [.no] True (by kernel_rfl) trivial hS26 ?_
      refine l_nil rfl ?_
      refine then_n ?_
      refine wp_ret ?_
      refine then_r ?_
      exact c_end (S := (fun x_ => St w x_ [Res.box blk4 [Value.int .i64 a0, Value.int .i64 a1, Value.int .i64 a2] 25, Res.box blk2 [Value.int .i64 a0, Value.int .i64 a1, Value.int .i64 a2] 25])) (rs := [.cell 6 25, .tmp 7]) rfl [Value.agg #[Value.int .i64 a0, Value.int .i64 a1, Value.int .i64 a2]] (v := Value.tuple #[Value.agg #[Value.int .i64 a0, Value.int .i64 a1, Value.int .i64 a2], Value.bool false]) (C := ((LoadsAt Try.prog (fun x_ => St w x_ [Res.box blk4 [Value.int .i64 a0, Value.int .i64 a1, Value.int .i64 a2] 25, Res.box blk2 [Value.int .i64 a0, Value.int .i64 a1, Value.int .i64 a2] 25]) 25 ⟨blk4, 0, none⟩ (Value.agg #[Value.int .i64 a0, Value.int .i64 a1, Value.int .i64 a2])))) (by kernel_rfl) (ld_boxN (i := 0) (k := 3) rfl rfl rfl (by kernel_rfl)) hS26 ((hS26.rv (by first | (simp [admP, *]; done) | (obtain rfl : c = a2 := (by omega); simp [admP, *]; done))))
  · skip
    refine q_seg (S := (fun x_ => St w x_ [Res.box blk4 [Value.int .i64 0, Value.int .i64 0, Value.int .i64 0] 25, Res.box blk2 [Value.int .i64 a0, Value.int .i64 a1, Value.int .i64 a2] 25])) [(17, Value.bool true), (16, undef), (15, undef), (14, undef), (13, undef), (12, undef)] [.skip, .skip, .skip, .skip, .skip, .v (.bool true)] (((!(vdoor a0 a1 a2)) = !false) ∧ ((!(vdoor a0 a1 a2)) = !false) ∧ ((!(vdoor a0 a1 a2)) = !false) ∧ ((!(vdoor a0 a1 a2)) = !false) ∧ ((!(vdoor a0 a1 a2)) = !false) ∧ ((!(vdoor a0 a1 a2)) = true)) (by kernel_rfl) ⟨(nb (v := false) hb6), (nb (v := false) hb6), (nb (v := false) hb6), (nb (v := false) hb6), (nb (v := false) hb6), (nb (v := false) hb6)⟩ hS5 ?_
    refine l_nil rfl ?_
    refine then_n ?_
    refine c_true (b := true) (by kernel_rfl) rfl ?_
    refine wp_seq ?_
    refine c_reg ?_
    refine q_seg (S := (fun x_ => St w x_ [Res.box blk4 [Value.int .i64 0, Value.int .i64 0, Value.int .i64 0] 25, Res.box blk2 [Value.int .i64 a0, Value.int .i64 a1, Value.int .i64 a2] 25])) [(18, Value.agg #[Value.int .i64 a0, Value.int .i64 a1, Value.int .i64 a2])] [.v (Value.agg #[Value.int .i64 a0, Value.int .i64 a1, Value.int .i64 a2])] ((LoadsAt Try.prog (fun x_ => St w x_ [Res.box blk4 [Value.int .i64 0, Value.int .i64 0, Value.int .i64 0] 25, Res.box blk2 [Value.int .i64 a0, Value.int .i64 a1, Value.int .i64 a2] 25]) 25 ⟨blk2, 0, none⟩ (Value.agg #[Value.int .i64 a0, Value.int .i64 a1, Value.int .i64 a2]))) (by kernel_rfl) (ld_boxN (i := 1) (k := 3) rfl rfl rfl (by kernel_rfl)) hS5 ?_
    refine l_op rfl rfl (fun K hK => op_store (d := none) rfl rfl (i := 0) (b := blk4) (off := 0) (cs := [Value.int .i64 0, Value.int .i64 0, Value.int .i64 0]) (bt := 25) (by kernel_rfl) (by kernel_rfl) [Value.int .i64 a0, Value.int .i64 a1, Value.int .i64 a2] (by kernel_rfl) (by kernel_rfl) (Nat.le_of_ble_eq_true (by kernel_rfl)) (by kernel_rfl) [Res.box blk4 [Value.int .i64 a0, Value.int .i64 a1, Value.int .i64 a2] 25, Res.box blk2 [Value.int .i64 a0, Value.int .i64 a1, Value.int .i64 a2] 25] (by kernel_rfl) hS5 (fun w27 hS27 => hK _ _ ?_))
    clear hK K
    refine q_seg (S := (fun x_ => St w x_ [Res.box blk4 [Value.int .i64 a0, Value.int .i64 a1, Value.int .i64 a2] 25, Res.box blk2 [Value.int .i64 a0, Value.int .i64 a1, Value.int .i64 a2] 25])) [(7, Value.bool false)] [.no] True (by kernel_rfl) trivial hS27 ?_
    refine l_nil rfl ?_
    refine then_n ?_
    refine wp_ret ?_
    refine then_r ?_
    exact c_end (S := (fun x_ => St w x_ [Res.box blk4 [Value.int .i64 a0, Value.int .i64 a1, Value.int .i64 a2] 25, Res.box blk2 [Value.int .i64 a0, Value.int .i64 a1, Value.int .i64 a2] 25])) (rs := [.cell 6 25, .tmp 7]) rfl [Value.agg #[Value.int .i64 a0, Value.int .i64 a1, Value.int .i64 a2]] (v := Value.tuple #[Value.agg #[Value.int .i64 a0, Value.int .i64 a1, Value.int .i64 a2], Value.bool false]) (C := ((LoadsAt Try.prog (fun x_ => St w x_ [Res.box blk4 [Value.int .i64 a0, Value.int .i64 a1, Value.int .i64 a2] 25, Res.box blk2 [Value.int .i64 a0, Value.int .i64 a1, Value.int .i64 a2] 25]) 25 ⟨blk4, 0, none⟩ (Value.agg #[Value.int .i64 a0, Value.int .i64 a1, Value.int .i64 a2])))) (by kernel_rfl) (ld_boxN (i := 0) (k := 3) rfl rfl rfl (by kernel_rfl)) hS27 ((hS27.rv (by first | (simp [admP, *]; done) | (obtain rfl : c = a2 := (by omega); simp [admP, *]; done))))

theorem AdmitRequest_s_c (a0 : Int) (a1 : Int) (a2 : Int) (b : Int) (c : Int) (w : World) : Calls Try.prog 21 #[Value.agg #[Value.int .i64 a0, Value.int .i64 a1, Value.int .i64 a2], Value.int .i64 b, Value.int .i64 c] w (RetV w (Value.tuple #[Value.agg #[Value.int .i64 a0, Value.int .i64 ((admP a0 a1 a2 b c).1), Value.int .i64 ((admP a0 a1 a2 b c).2.1)], Value.bool ((admP a0 a1 a2 b c).2.2)])) := by
  refine calls_FA Try.func21 rfl (n := 40) rfl (l := [(0, Value.agg #[Value.int .i64 a0, Value.int .i64 a1, Value.int .i64 a2]), (1, Value.int .i64 b), (2, Value.int .i64 c)]) rfl (by simp) (fun g => ?_)
  have hS := St.init w
  refine wp_seq ?_
  refine c_reg ?_
  refine l_op rfl rfl (fun K hK => op_box (d := some 3) rfl rfl [Value.int .i64 a0, Value.int .i64 a1, Value.int .i64 a2] (by kernel_rfl) hS (fun blk2 w1 hS1 => hK _ _ ?_))
  clear hK K
  refine l_op rfl rfl (fun K hK => op_alloc (d := some 6) rfl rfl [Value.int .i64 0, Value.int .i64 0, Value.int .i64 0] (by kernel_rfl) hS1 (fun blk4 w3 hS3 => hK _ _ ?_))
  clear hK K
  refine q_seg (S := (fun x_ => St w x_ [Res.box blk4 [Value.int .i64 0, Value.int .i64 0, Value.int .i64 0] 25, Res.box blk2 [Value.int .i64 a0, Value.int .i64 a1, Value.int .i64 a2] 25])) [(7, Value.bool false)] [.no] True (by kernel_rfl) trivial hS3 ?_
  refine l_nil rfl ?_
  refine then_n ?_
  refine wp_seq ?_
  refine wp_seq ?_
  refine c_reg ?_
  refine q_seg (S := (fun x_ => St w x_ [Res.box blk4 [Value.int .i64 0, Value.int .i64 0, Value.int .i64 0] 25, Res.box blk2 [Value.int .i64 a0, Value.int .i64 a1, Value.int .i64 a2] 25])) [(9, Value.agg #[Value.int .i64 a0, Value.int .i64 a1, Value.int .i64 a2])] [.v (Value.agg #[Value.int .i64 a0, Value.int .i64 a1, Value.int .i64 a2])] ((LoadsAt Try.prog (fun x_ => St w x_ [Res.box blk4 [Value.int .i64 0, Value.int .i64 0, Value.int .i64 0] 25, Res.box blk2 [Value.int .i64 a0, Value.int .i64 a1, Value.int .i64 a2] 25]) 25 ⟨blk2, 0, none⟩ (Value.agg #[Value.int .i64 a0, Value.int .i64 a1, Value.int .i64 a2]))) (by kernel_rfl) (ld_boxN (i := 1) (k := 3) rfl rfl rfl (by kernel_rfl)) hS3 ?_
  refine l_op rfl rfl (fun K hK => op_callv (d := some 10) rfl rfl ⟨_, Try.func12, by kernel_rfl, by kernel_rfl⟩ (vs := [Value.agg #[Value.int .i64 a0, Value.int .i64 a1, Value.int .i64 a2]]) (by kernel_rfl) (v := Value.bool (vdoor a0 a1 a2)) (IsValidOverloadControl_s_c a0 a1 a2  _) hS3 (fun w5 hS5 => hK _ _ ?_))
  clear hK K
  refine q_seg (S := (fun x_ => St w x_ [Res.box blk4 [Value.int .i64 0, Value.int .i64 0, Value.int .i64 0] 25, Res.box blk2 [Value.int .i64 a0, Value.int .i64 a1, Value.int .i64 a2] 25])) [(12, Value.bool (!(vdoor a0 a1 a2))), (11, Value.bool (!(vdoor a0 a1 a2)))] [.no, .no] True (by kernel_rfl) trivial hS5 ?_
  rcases Bool.eq_false_or_eq_true (vdoor a0 a1 a2) with hb6 | hb6
  · skip
    obtain ⟨hb6v1, hb6v2, hb6v3, hb6v4, hb6v5, hb6v6⟩ := vdoor_bd hb6
    refine q_seg (S := (fun x_ => St w x_ [Res.box blk4 [Value.int .i64 0, Value.int .i64 0, Value.int .i64 0] 25, Res.box blk2 [Value.int .i64 a0, Value.int .i64 a1, Value.int .i64 a2] 25])) [(15, Value.int .i64 a2), (14, Value.pointer (some ⟨blk2, 0 + 2, none⟩)), (13, Value.int .i64 c)] [.no, .no, .v (Value.int .i64 a2)] (((!(vdoor a0 a1 a2)) = false) ∧ ((!(vdoor a0 a1 a2)) = false) ∧ ((!(vdoor a0 a1 a2)) = false) ∧ (LoadsAt Try.prog (fun x_ => St w x_ [Res.box blk4 [Value.int .i64 0, Value.int .i64 0, Value.int .i64 0] 25, Res.box blk2 [Value.int .i64 a0, Value.int .i64 a1, Value.int .i64 a2] 25]) 3 ⟨blk2, 0 + 2, none⟩ (Value.int .i64 a2))) (by kernel_rfl) ⟨(nb (v := true) hb6), (nb (v := true) hb6), (nb (v := true) hb6), (ld_box (i := 1) rfl rfl (by kernel_rfl))⟩ hS5 ?_
    refine l_opg rfl (b := (!(vdoor a0 a1 a2))) (want := false) (by kernel_rfl) (nb (v := true) hb6) (fun K hK => op_callv (d := some 16) rfl rfl ⟨_, Try.func35, by kernel_rfl, by kernel_rfl⟩ (vs := [Value.int .i64 c, Value.int .i64 a2, Value.int .i64 1000000000000]) (by kernel_rfl) (v := Value.bool (inR c a2 1000000000000)) (l1In_c c a2 1000000000000 _) hS5 (fun w7 hS7 => hK _ _ ?_))
    clear hK K
    refine q_seg (S := (fun x_ => St w x_ [Res.box blk4 [Value.int .i64 0, Value.int .i64 0, Value.int .i64 0] 25, Res.box blk2 [Value.int .i64 a0, Value.int .i64 a1, Value.int .i64 a2] 25])) [(18, Value.bool (!(inR c a2 1000000000000))), (17, Value.bool (!(inR c a2 1000000000000)))] [.no, .v (.bool false)] (((!(vdoor a0 a1 a2)) = false) ∧ ((!(vdoor a0 a1 a2)) = false)) (by kernel_rfl) ⟨(nb (v := true) hb6), (nb (v := true) hb6)⟩ hS7 ?_
    refine l_nil rfl ?_
    refine then_n ?_
    rcases Bool.eq_false_or_eq_true (inR c a2 1000000000000) with hb8 | hb8
    · skip
      obtain ⟨hb8p, hb8q⟩ := inR_iff.1 hb8
      refine c_false (b := (!(inR c a2 1000000000000))) (by kernel_rfl) (nb (v := true) hb8) ?_
      refine wp_skip ?_
      refine then_n ?_
      refine wp_seq ?_
      refine c_reg ?_
      refine q_seg (S := (fun x_ => St w x_ [Res.box blk4 [Value.int .i64 0, Value.int .i64 0, Value.int .i64 0] 25, Res.box blk2 [Value.int .i64 a0, Value.int .i64 a1, Value.int .i64 a2] 25])) [(20, Value.agg #[Value.int .i64 a0, Value.int .i64 a1, Value.int .i64 a2])] [.v (Value.agg #[Value.int .i64 a0, Value.int .i64 a1, Value.int .i64 a2])] ((LoadsAt Try.prog (fun x_ => St w x_ [Res.box blk4 [Value.int .i64 0, Value.int .i64 0, Value.int .i64 0] 25, Res.box blk2 [Value.int .i64 a0, Value.int .i64 a1, Value.int .i64 a2] 25]) 25 ⟨blk2, 0, none⟩ (Value.agg #[Value.int .i64 a0, Value.int .i64 a1, Value.int .i64 a2]))) (by kernel_rfl) (ld_boxN (i := 1) (k := 3) rfl rfl rfl (by kernel_rfl)) hS7 ?_
      refine l_op rfl rfl (fun K hK => op_alloc (d := some 8) rfl rfl [Value.int .i64 0, Value.int .i64 0, Value.int .i64 0] (by kernel_rfl) hS7 (fun blk10 w9 hS9 => hK _ _ ?_))
      clear hK K
      refine l_op rfl rfl (fun K hK => op_store (d := none) rfl rfl (i := 0) (b := blk10) (off := 0) (cs := [Value.int .i64 0, Value.int .i64 0, Value.int .i64 0]) (bt := 25) (by kernel_rfl) (by kernel_rfl) [Value.int .i64 a0, Value.int .i64 a1, Value.int .i64 a2] (by kernel_rfl) (by kernel_rfl) (Nat.le_of_ble_eq_true (by kernel_rfl)) (by kernel_rfl) [Res.box blk10 [Value.int .i64 a0, Value.int .i64 a1, Value.int .i64 a2] 25, Res.box blk4 [Value.int .i64 0, Value.int .i64 0, Value.int .i64 0] 25, Res.box blk2 [Value.int .i64 a0, Value.int .i64 a1, Value.int .i64 a2] 25] (by kernel_rfl) hS9 (fun w11 hS11 => hK _ _ ?_))
      clear hK K
      refine l_nil rfl ?_
      refine then_n ?_
      refine wp_seq ?_
      refine wp_seq ?_
      refine c_reg ?_
      refine q_seg (S := (fun x_ => St w x_ [Res.box blk10 [Value.int .i64 a0, Value.int .i64 a1, Value.int .i64 a2] 25, Res.box blk4 [Value.int .i64 0, Value.int .i64 0, Value.int .i64 0] 25, Res.box blk2 [Value.int .i64 a0, Value.int .i64 a1, Value.int .i64 a2] 25])) [(24, Value.bool (decide (a2 < c))), (23, Value.int .i64 a2), (22, Value.pointer (some ⟨blk2, 0 + 2, none⟩)), (21, Value.int .i64 c)] [.no, .no, .v (Value.int .i64 a2), .no] ((LoadsAt Try.prog (fun x_ => St w x_ [Res.box blk10 [Value.int .i64 a0, Value.int .i64 a1, Value.int .i64 a2] 25, Res.box blk4 [Value.int .i64 0, Value.int .i64 0, Value.int .i64 0] 25, Res.box blk2 [Value.int .i64 a0, Value.int .i64 a1, Value.int .i64 a2] 25]) 3 ⟨blk2, 0 + 2, none⟩ (Value.int .i64 a2))) (by kernel_rfl) (ld_box (i := 2) rfl rfl (by kernel_rfl)) hS11 ?_
      refine l_nil rfl ?_
      refine then_n ?_
      rcases Bool.eq_false_or_eq_true (decide (a2 < c)) with hb12 | hb12
      · skip
        have hb12p := of_decide_eq_true hb12
        refine c_true (b := (decide (a2 < c))) (by kernel_rfl) hb12 ?_
        refine wp_seq ?_
        refine c_reg ?_
        refine q_seg (S := (fun x_ => St w x_ [Res.box blk10 [Value.int .i64 a0, Value.int .i64 a1, Value.int .i64 a2] 25, Res.box blk4 [Value.int .i64 0, Value.int .i64 0, Value.int .i64 0] 25, Res.box blk2 [Value.int .i64 a0, Value.int .i64 a1, Value.int .i64 a2] 25])) [(25, Value.pointer (some ⟨blk10, 0 + 1, none⟩))] [.no] True (by kernel_rfl) trivial hS11 ?_
        refine l_op rfl rfl (fun K hK => op_store (d := none) rfl rfl (i := 0) (b := blk10) (off := 0 + 1) (cs := [Value.int .i64 a0, Value.int .i64 a1, Value.int .i64 a2]) (bt := 25) (by kernel_rfl) (by kernel_rfl) [Value.int .i64 0] (by kernel_rfl) (by kernel_rfl) (Nat.le_of_ble_eq_true (by kernel_rfl)) (by kernel_rfl) [Res.box blk10 [Value.int .i64 a0, Value.int .i64 0, Value.int .i64 a2] 25, Res.box blk4 [Value.int .i64 0, Value.int .i64 0, Value.int .i64 0] 25, Res.box blk2 [Value.int .i64 a0, Value.int .i64 a1, Value.int .i64 a2] 25] (by kernel_rfl) hS11 (fun w13 hS13 => hK _ _ ?_))
        clear hK K
        refine l_nil rfl ?_
        refine then_n ?_
        refine c_reg ?_
        refine q_seg (S := (fun x_ => St w x_ [Res.box blk10 [Value.int .i64 a0, Value.int .i64 0, Value.int .i64 a2] 25, Res.box blk4 [Value.int .i64 0, Value.int .i64 0, Value.int .i64 0] 25, Res.box blk2 [Value.int .i64 a0, Value.int .i64 a1, Value.int .i64 a2] 25])) [(27, Value.pointer (some ⟨blk10, 0 + 2, none⟩)), (26, Value.int .i64 c)] [.no, .no] True (by kernel_rfl) trivial hS13 ?_
        refine l_op rfl rfl (fun K hK => op_store (d := none) rfl rfl (i := 0) (b := blk10) (off := 0 + 2) (cs := [Value.int .i64 a0, Value.int .i64 0, Value.int .i64 a2]) (bt := 25) (by kernel_rfl) (by kernel_rfl) [Value.int .i64 c] (by kernel_rfl) (by kernel_rfl) (Nat.le_of_ble_eq_true (by kernel_rfl)) (by kernel_rfl) [Res.box blk10 [Value.int .i64 a0, Value.int .i64 0, Value.int .i64 c] 25, Res.box blk4 [Value.int .i64 0, Value.int .i64 0, Value.int .i64 0] 25, Res.box blk2 [Value.int .i64 a0, Value.int .i64 a1, Value.int .i64 a2] 25] (by kernel_rfl) hS13 (fun w14 hS14 => hK _ _ ?_))
        clear hK K
        refine l_nil rfl ?_
        refine then_n ?_
        refine wp_seq ?_
        refine wp_seq ?_
        refine c_drawn [] (by kernel_rfl) hS14 (fun w15 hS15 => ?_)
        refine t_seg (S := (fun x_ => St w x_ [Res.box blk10 [Value.int .i64 a0, Value.int .i64 0, Value.int .i64 c] 25, Res.box blk4 [Value.int .i64 0, Value.int .i64 0, Value.int .i64 0] 25, Res.box blk2 [Value.int .i64 a0, Value.int .i64 a1, Value.int .i64 a2] 25])) [(0, .no), (2, .v (Value.agg #[Value.int .i64 a0, Value.int .i64 0, Value.int .i64 c])), (3, .no), (1, .v (Value.int .i64 0))] 2 #[true, true, true, true, false, false] [(29, Value.int .i64 0), (31, Value.int .i64 b), (30, Value.agg #[Value.int .i64 a0, Value.int .i64 0, Value.int .i64 c]), (28, Value.pointer (some ⟨blk10, 0 + 1, none⟩))] ((LoadsAt Try.prog (fun x_ => St w x_ [Res.box blk10 [Value.int .i64 a0, Value.int .i64 0, Value.int .i64 c] 25, Res.box blk4 [Value.int .i64 0, Value.int .i64 0, Value.int .i64 0] 25, Res.box blk2 [Value.int .i64 a0, Value.int .i64 a1, Value.int .i64 a2] 25]) 25 ⟨blk10, 0, none⟩ (Value.agg #[Value.int .i64 a0, Value.int .i64 0, Value.int .i64 c])) ∧ (LoadsAt Try.prog (fun x_ => St w x_ [Res.box blk10 [Value.int .i64 a0, Value.int .i64 0, Value.int .i64 c] 25, Res.box blk4 [Value.int .i64 0, Value.int .i64 0, Value.int .i64 0] 25, Res.box blk2 [Value.int .i64 a0, Value.int .i64 a1, Value.int .i64 a2] 25]) 3 ⟨blk10, 0 + 1, none⟩ (Value.int .i64 0))) (by kernel_rfl) (Qpanic.then (Qpanic.then Qpanic.bp)) rfl (by kernel_rfl) ⟨(ld_boxN (i := 0) (k := 3) rfl rfl rfl (by kernel_rfl)), (ld_box (i := 0) rfl rfl (by kernel_rfl))⟩ hS15 ?_
        refine a_op (i := 4) (fuel := 1) (listed' := #[true, true, true, true, true, false]) rfl rfl (by kernel_rfl) (by kernel_rfl) rfl (fun K hK => op_callv (d := some 32) rfl rfl ⟨_, Try.func15, by kernel_rfl, by kernel_rfl⟩ (vs := [Value.agg #[Value.int .i64 a0, Value.int .i64 0, Value.int .i64 c], Value.int .i64 b]) (by kernel_rfl) (v := Value.int .i64 (climit a0 (0 : Int) c b)) (ClassLimit_s_c a0 (0 : Int) c b  _) hS15 (fun w16 hS16 => hK _ _ (fun _ => hS16) ?_))
        clear hK K
        have hclq17 := climit_bd a0 (0 : Int) c b
        refine t_seg (S := (fun x_ => St w x_ [Res.box blk10 [Value.int .i64 a0, Value.int .i64 0, Value.int .i64 c] 25, Res.box blk4 [Value.int .i64 0, Value.int .i64 0, Value.int .i64 0] 25, Res.box blk2 [Value.int .i64 a0, Value.int .i64 a1, Value.int .i64 a2] 25])) [(5, .no)] 0 #[true, true, true, true, true, true] [(33, Value.bool (decide ((climit a0 (0 : Int) c b) ≤ (0 : Int))))] True (by kernel_rfl) (Qpanic.then (Qpanic.then Qpanic.bp)) rfl (by kernel_rfl) trivial hS16 ?_
        refine a_done (by kernel_rfl) ?_
        refine then_n ?_
        rcases Bool.eq_false_or_eq_true (decide ((climit a0 (0 : Int) c b) ≤ (0 : Int))) with hb18 | hb18
        · skip
          have hb18p := of_decide_eq_true hb18
          refine c_true (b := (decide ((climit a0 (0 : Int) c b) ≤ (0 : Int)))) (by kernel_rfl) hb18 ?_
          refine wp_seq ?_
          refine c_reg ?_
          refine q_seg (S := (fun x_ => St w x_ [Res.box blk10 [Value.int .i64 a0, Value.int .i64 0, Value.int .i64 c] 25, Res.box blk4 [Value.int .i64 0, Value.int .i64 0, Value.int .i64 0] 25, Res.box blk2 [Value.int .i64 a0, Value.int .i64 a1, Value.int .i64 a2] 25])) [(34, Value.agg #[Value.int .i64 a0, Value.int .i64 0, Value.int .i64 c])] [.v (Value.agg #[Value.int .i64 a0, Value.int .i64 0, Value.int .i64 c])] ((LoadsAt Try.prog (fun x_ => St w x_ [Res.box blk10 [Value.int .i64 a0, Value.int .i64 0, Value.int .i64 c] 25, Res.box blk4 [Value.int .i64 0, Value.int .i64 0, Value.int .i64 0] 25, Res.box blk2 [Value.int .i64 a0, Value.int .i64 a1, Value.int .i64 a2] 25]) 25 ⟨blk10, 0, none⟩ (Value.agg #[Value.int .i64 a0, Value.int .i64 0, Value.int .i64 c]))) (by kernel_rfl) (ld_boxN (i := 0) (k := 3) rfl rfl rfl (by kernel_rfl)) hS16 ?_
          refine l_op rfl rfl (fun K hK => op_store (d := none) rfl rfl (i := 1) (b := blk4) (off := 0) (cs := [Value.int .i64 0, Value.int .i64 0, Value.int .i64 0]) (bt := 25) (by kernel_rfl) (by kernel_rfl) [Value.int .i64 a0, Value.int .i64 0, Value.int .i64 c] (by kernel_rfl) (by kernel_rfl) (Nat.le_of_ble_eq_true (by kernel_rfl)) (by kernel_rfl) [Res.box blk10 [Value.int .i64 a0, Value.int .i64 0, Value.int .i64 c] 25, Res.box blk4 [Value.int .i64 a0, Value.int .i64 0, Value.int .i64 c] 25, Res.box blk2 [Value.int .i64 a0, Value.int .i64 a1, Value.int .i64 a2] 25] (by kernel_rfl) hS16 (fun w19 hS19 => hK _ _ ?_))
          clear hK K
          refine q_seg (S := (fun x_ => St w x_ [Res.box blk10 [Value.int .i64 a0, Value.int .i64 0, Value.int .i64 c] 25, Res.box blk4 [Value.int .i64 a0, Value.int .i64 0, Value.int .i64 c] 25, Res.box blk2 [Value.int .i64 a0, Value.int .i64 a1, Value.int .i64 a2] 25])) [(7, Value.bool false)] [.no] True (by kernel_rfl) trivial hS19 ?_
          refine l_nil rfl ?_
          refine then_n ?_
          refine wp_ret ?_
          refine then_r ?_
          exact c_end (S := (fun x_ => St w x_ [Res.box blk10 [Value.int .i64 a0, Value.int .i64 0, Value.int .i64 c] 25, Res.box blk4 [Value.int .i64 a0, Value.int .i64 0, Value.int .i64 c] 25, Res.box blk2 [Value.int .i64 a0, Value.int .i64 a1, Value.int .i64 a2] 25])) (rs := [.cell 6 25, .tmp 7]) rfl [Value.agg #[Value.int .i64 a0, Value.int .i64 0, Value.int .i64 c]] (v := Value.tuple #[Value.agg #[Value.int .i64 a0, Value.int .i64 0, Value.int .i64 c], Value.bool false]) (C := ((LoadsAt Try.prog (fun x_ => St w x_ [Res.box blk10 [Value.int .i64 a0, Value.int .i64 0, Value.int .i64 c] 25, Res.box blk4 [Value.int .i64 a0, Value.int .i64 0, Value.int .i64 c] 25, Res.box blk2 [Value.int .i64 a0, Value.int .i64 a1, Value.int .i64 a2] 25]) 25 ⟨blk4, 0, none⟩ (Value.agg #[Value.int .i64 a0, Value.int .i64 0, Value.int .i64 c])))) (by kernel_rfl) (ld_boxN (i := 1) (k := 3) rfl rfl rfl (by kernel_rfl)) hS19 ((hS19.rv (by first | (simp [admP, *]; done) | (obtain rfl : c = a2 := (by omega); simp [admP, *]; done))))
        · skip
          have hb18p := of_decide_eq_false hb18
          refine c_false (b := (decide ((climit a0 (0 : Int) c b) ≤ (0 : Int)))) (by kernel_rfl) hb18 ?_
          refine wp_skip ?_
          refine then_n ?_
          refine wp_seq ?_
          refine c_reg ?_
          refine q_seg (S := (fun x_ => St w x_ [Res.box blk10 [Value.int .i64 a0, Value.int .i64 0, Value.int .i64 c] 25, Res.box blk4 [Value.int .i64 0, Value.int .i64 0, Value.int .i64 0] 25, Res.box blk2 [Value.int .i64 a0, Value.int .i64 a1, Value.int .i64 a2] 25])) [(38, Value.pointer (some ⟨blk10, 0 + 1, none⟩)), (37, Value.int .i64 ((0 : Int) + (1 : Int))), (36, Value.int .i64 0), (35, Value.pointer (some ⟨blk10, 0 + 1, none⟩))] [.no, .v (Value.int .i64 0), .no, .no] ((LoadsAt Try.prog (fun x_ => St w x_ [Res.box blk10 [Value.int .i64 a0, Value.int .i64 0, Value.int .i64 c] 25, Res.box blk4 [Value.int .i64 0, Value.int .i64 0, Value.int .i64 0] 25, Res.box blk2 [Value.int .i64 a0, Value.int .i64 a1, Value.int .i64 a2] 25]) 3 ⟨blk10, 0 + 1, none⟩ (Value.int .i64 0)) ∧ (InK .i64 ((0 : Int) + (1 : Int)))) (by kernel_rfl) ⟨(ld_box (i := 0) rfl rfl (by kernel_rfl)), (in64 (by omega) (by omega))⟩ hS16 ?_
          refine l_op rfl rfl (fun K hK => op_store (d := none) rfl rfl (i := 0) (b := blk10) (off := 0 + 1) (cs := [Value.int .i64 a0, Value.int .i64 0, Value.int .i64 c]) (bt := 25) (by kernel_rfl) (by kernel_rfl) [Value.int .i64 ((0 : Int) + (1 : Int))] (by kernel_rfl) (by kernel_rfl) (Nat.le_of_ble_eq_true (by kernel_rfl)) (by kernel_rfl) [Res.box blk10 [Value.int .i64 a0, Value.int .i64 ((0 : Int) + (1 : Int)), Value.int .i64 c] 25, Res.box blk4 [Value.int .i64 0, Value.int .i64 0, Value.int .i64 0] 25, Res.box blk2 [Value.int .i64 a0, Value.int .i64 a1, Value.int .i64 a2] 25] (by kernel_rfl) hS16 (fun w20 hS20 => hK _ _ ?_))
          clear hK K
          refine l_nil rfl ?_
          refine then_n ?_
          refine wp_seq ?_
          refine c_reg ?_
          refine q_seg (S := (fun x_ => St w x_ [Res.box blk10 [Value.int .i64 a0, Value.int .i64 ((0 : Int) + (1 : Int)), Value.int .i64 c] 25, Res.box blk4 [Value.int .i64 0, Value.int .i64 0, Value.int .i64 0] 25, Res.box blk2 [Value.int .i64 a0, Value.int .i64 a1, Value.int .i64 a2] 25])) [(39, Value.agg #[Value.int .i64 a0, Value.int .i64 ((0 : Int) + (1 : Int)), Value.int .i64 c])] [.v (Value.agg #[Value.int .i64 a0, Value.int .i64 ((0 : Int) + (1 : Int)), Value.int .i64 c])] ((LoadsAt Try.prog (fun x_ => St w x_ [Res.box blk10 [Value.int .i64 a0, Value.int .i64 ((0 : Int) + (1 : Int)), Value.int .i64 c] 25, Res.box blk4 [Value.int .i64 0, Value.int .i64 0, Value.int .i64 0] 25, Res.box blk2 [Value.int .i64 a0, Value.int .i64 a1, Value.int .i64 a2] 25]) 25 ⟨blk10, 0, none⟩ (Value.agg #[Value.int .i64 a0, Value.int .i64 ((0 : Int) + (1 : Int)), Value.int .i64 c]))) (by kernel_rfl) (ld_boxN (i := 0) (k := 3) rfl rfl rfl (by kernel_rfl)) hS20 ?_
          refine l_op rfl rfl (fun K hK => op_store (d := none) rfl rfl (i := 1) (b := blk4) (off := 0) (cs := [Value.int .i64 0, Value.int .i64 0, Value.int .i64 0]) (bt := 25) (by kernel_rfl) (by kernel_rfl) [Value.int .i64 a0, Value.int .i64 ((0 : Int) + (1 : Int)), Value.int .i64 c] (by kernel_rfl) (by kernel_rfl) (Nat.le_of_ble_eq_true (by kernel_rfl)) (by kernel_rfl) [Res.box blk10 [Value.int .i64 a0, Value.int .i64 ((0 : Int) + (1 : Int)), Value.int .i64 c] 25, Res.box blk4 [Value.int .i64 a0, Value.int .i64 ((0 : Int) + (1 : Int)), Value.int .i64 c] 25, Res.box blk2 [Value.int .i64 a0, Value.int .i64 a1, Value.int .i64 a2] 25] (by kernel_rfl) hS20 (fun w21 hS21 => hK _ _ ?_))
          clear hK K
          refine q_seg (S := (fun x_ => St w x_ [Res.box blk10 [Value.int .i64 a0, Value.int .i64 ((0 : Int) + (1 : Int)), Value.int .i64 c] 25, Res.box blk4 [Value.int .i64 a0, Value.int .i64 ((0 : Int) + (1 : Int)), Value.int .i64 c] 25, Res.box blk2 [Value.int .i64 a0, Value.int .i64 a1, Value.int .i64 a2] 25])) [(7, Value.bool true)] [.no] True (by kernel_rfl) trivial hS21 ?_
          refine l_nil rfl ?_
          refine then_n ?_
          refine wp_ret ?_
          exact c_end (S := (fun x_ => St w x_ [Res.box blk10 [Value.int .i64 a0, Value.int .i64 ((0 : Int) + (1 : Int)), Value.int .i64 c] 25, Res.box blk4 [Value.int .i64 a0, Value.int .i64 ((0 : Int) + (1 : Int)), Value.int .i64 c] 25, Res.box blk2 [Value.int .i64 a0, Value.int .i64 a1, Value.int .i64 a2] 25])) (rs := [.cell 6 25, .tmp 7]) rfl [Value.agg #[Value.int .i64 a0, Value.int .i64 ((0 : Int) + (1 : Int)), Value.int .i64 c]] (v := Value.tuple #[Value.agg #[Value.int .i64 a0, Value.int .i64 ((0 : Int) + (1 : Int)), Value.int .i64 c], Value.bool true]) (C := ((LoadsAt Try.prog (fun x_ => St w x_ [Res.box blk10 [Value.int .i64 a0, Value.int .i64 ((0 : Int) + (1 : Int)), Value.int .i64 c] 25, Res.box blk4 [Value.int .i64 a0, Value.int .i64 ((0 : Int) + (1 : Int)), Value.int .i64 c] 25, Res.box blk2 [Value.int .i64 a0, Value.int .i64 a1, Value.int .i64 a2] 25]) 25 ⟨blk4, 0, none⟩ (Value.agg #[Value.int .i64 a0, Value.int .i64 ((0 : Int) + (1 : Int)), Value.int .i64 c])))) (by kernel_rfl) (ld_boxN (i := 1) (k := 3) rfl rfl rfl (by kernel_rfl)) hS21 ((hS21.rv (by first | (simp [admP, *]; done) | (obtain rfl : c = a2 := (by omega); simp [admP, *]; done))))
      · skip
        have hb12p := of_decide_eq_false hb12
        refine c_false (b := (decide (a2 < c))) (by kernel_rfl) hb12 ?_
        refine wp_skip ?_
        refine then_n ?_
        refine wp_seq ?_
        refine wp_seq ?_
        refine c_drawn [] (by kernel_rfl) hS11 (fun w22 hS22 => ?_)
        refine t_seg (S := (fun x_ => St w x_ [Res.box blk10 [Value.int .i64 a0, Value.int .i64 a1, Value.int .i64 a2] 25, Res.box blk4 [Value.int .i64 0, Value.int .i64 0, Value.int .i64 0] 25, Res.box blk2 [Value.int .i64 a0, Value.int .i64 a1, Value.int .i64 a2] 25])) [(0, .no), (2, .v (Value.agg #[Value.int .i64 a0, Value.int .i64 a1, Value.int .i64 a2])), (3, .no), (1, .v (Value.int .i64 a1))] 2 #[true, true, true, true, false, false] [(29, Value.int .i64 a1), (31, Value.int .i64 b), (30, Value.agg #[Value.int .i64 a0, Value.int .i64 a1, Value.int .i64 a2]), (28, Value.pointer (some ⟨blk10, 0 + 1, none⟩))] ((LoadsAt Try.prog (fun x_ => St w x_ [Res.box blk10 [Value.int .i64 a0, Value.int .i64 a1, Value.int .i64 a2] 25, Res.box blk4 [Value.int .i64 0, Value.int .i64 0, Value.int .i64 0] 25, Res.box blk2 [Value.int .i64 a0, Value.int .i64 a1, Value.int .i64 a2] 25]) 25 ⟨blk10, 0, none⟩ (Value.agg #[Value.int .i64 a0, Value.int .i64 a1, Value.int .i64 a2])) ∧ (LoadsAt Try.prog (fun x_ => St w x_ [Res.box blk10 [Value.int .i64 a0, Value.int .i64 a1, Value.int .i64 a2] 25, Res.box blk4 [Value.int .i64 0, Value.int .i64 0, Value.int .i64 0] 25, Res.box blk2 [Value.int .i64 a0, Value.int .i64 a1, Value.int .i64 a2] 25]) 3 ⟨blk10, 0 + 1, none⟩ (Value.int .i64 a1))) (by kernel_rfl) (Qpanic.then (Qpanic.then Qpanic.bp)) rfl (by kernel_rfl) ⟨(ld_boxN (i := 0) (k := 3) rfl rfl rfl (by kernel_rfl)), (ld_box (i := 0) rfl rfl (by kernel_rfl))⟩ hS22 ?_
        refine a_op (i := 4) (fuel := 1) (listed' := #[true, true, true, true, true, false]) rfl rfl (by kernel_rfl) (by kernel_rfl) rfl (fun K hK => op_callv (d := some 32) rfl rfl ⟨_, Try.func15, by kernel_rfl, by kernel_rfl⟩ (vs := [Value.agg #[Value.int .i64 a0, Value.int .i64 a1, Value.int .i64 a2], Value.int .i64 b]) (by kernel_rfl) (v := Value.int .i64 (climit a0 a1 a2 b)) (ClassLimit_s_c a0 a1 a2 b  _) hS22 (fun w23 hS23 => hK _ _ (fun _ => hS23) ?_))
        clear hK K
        have hclq24 := climit_bd a0 a1 a2 b
        refine t_seg (S := (fun x_ => St w x_ [Res.box blk10 [Value.int .i64 a0, Value.int .i64 a1, Value.int .i64 a2] 25, Res.box blk4 [Value.int .i64 0, Value.int .i64 0, Value.int .i64 0] 25, Res.box blk2 [Value.int .i64 a0, Value.int .i64 a1, Value.int .i64 a2] 25])) [(5, .no)] 0 #[true, true, true, true, true, true] [(33, Value.bool (decide ((climit a0 a1 a2 b) ≤ a1)))] True (by kernel_rfl) (Qpanic.then (Qpanic.then Qpanic.bp)) rfl (by kernel_rfl) trivial hS23 ?_
        refine a_done (by kernel_rfl) ?_
        refine then_n ?_
        rcases Bool.eq_false_or_eq_true (decide ((climit a0 a1 a2 b) ≤ a1)) with hb25 | hb25
        · skip
          have hb25p := of_decide_eq_true hb25
          refine c_true (b := (decide ((climit a0 a1 a2 b) ≤ a1))) (by kernel_rfl) hb25 ?_
          refine wp_seq ?_
          refine c_reg ?_
          refine q_seg (S := (fun x_ => St w x_ [Res.box blk10 [Value.int .i64 a0, Value.int .i64 a1, Value.int .i64 a2] 25, Res.box blk4 [Value.int .i64 0, Value.int .i64 0, Value.int .i64 0] 25, Res.box blk2 [Value.int .i64 a0, Value.int .i64 a1, Value.int .i64 a2] 25])) [(34, Value.agg #[Value.int .i64 a0, Value.int .i64 a1, Value.int .i64 a2])] [.v (Value.agg #[Value.int .i64 a0, Value.int .i64 a1, Value.int .i64 a2])] ((LoadsAt Try.prog (fun x_ => St w x_ [Res.box blk10 [Value.int .i64 a0, Value.int .i64 a1, Value.int .i64 a2] 25, Res.box blk4 [Value.int .i64 0, Value.int .i64 0, Value.int .i64 0] 25, Res.box blk2 [Value.int .i64 a0, Value.int .i64 a1, Value.int .i64 a2] 25]) 25 ⟨blk10, 0, none⟩ (Value.agg #[Value.int .i64 a0, Value.int .i64 a1, Value.int .i64 a2]))) (by kernel_rfl) (ld_boxN (i := 0) (k := 3) rfl rfl rfl (by kernel_rfl)) hS23 ?_
          refine l_op rfl rfl (fun K hK => op_store (d := none) rfl rfl (i := 1) (b := blk4) (off := 0) (cs := [Value.int .i64 0, Value.int .i64 0, Value.int .i64 0]) (bt := 25) (by kernel_rfl) (by kernel_rfl) [Value.int .i64 a0, Value.int .i64 a1, Value.int .i64 a2] (by kernel_rfl) (by kernel_rfl) (Nat.le_of_ble_eq_true (by kernel_rfl)) (by kernel_rfl) [Res.box blk10 [Value.int .i64 a0, Value.int .i64 a1, Value.int .i64 a2] 25, Res.box blk4 [Value.int .i64 a0, Value.int .i64 a1, Value.int .i64 a2] 25, Res.box blk2 [Value.int .i64 a0, Value.int .i64 a1, Value.int .i64 a2] 25] (by kernel_rfl) hS23 (fun w26 hS26 => hK _ _ ?_))
          clear hK K
          refine q_seg (S := (fun x_ => St w x_ [Res.box blk10 [Value.int .i64 a0, Value.int .i64 a1, Value.int .i64 a2] 25, Res.box blk4 [Value.int .i64 a0, Value.int .i64 a1, Value.int .i64 a2] 25, Res.box blk2 [Value.int .i64 a0, Value.int .i64 a1, Value.int .i64 a2] 25])) [(7, Value.bool false)] [.no] True (by kernel_rfl) trivial hS26 ?_
          refine l_nil rfl ?_
          refine then_n ?_
          refine wp_ret ?_
          refine then_r ?_
          exact c_end (S := (fun x_ => St w x_ [Res.box blk10 [Value.int .i64 a0, Value.int .i64 a1, Value.int .i64 a2] 25, Res.box blk4 [Value.int .i64 a0, Value.int .i64 a1, Value.int .i64 a2] 25, Res.box blk2 [Value.int .i64 a0, Value.int .i64 a1, Value.int .i64 a2] 25])) (rs := [.cell 6 25, .tmp 7]) rfl [Value.agg #[Value.int .i64 a0, Value.int .i64 a1, Value.int .i64 a2]] (v := Value.tuple #[Value.agg #[Value.int .i64 a0, Value.int .i64 a1, Value.int .i64 a2], Value.bool false]) (C := ((LoadsAt Try.prog (fun x_ => St w x_ [Res.box blk10 [Value.int .i64 a0, Value.int .i64 a1, Value.int .i64 a2] 25, Res.box blk4 [Value.int .i64 a0, Value.int .i64 a1, Value.int .i64 a2] 25, Res.box blk2 [Value.int .i64 a0, Value.int .i64 a1, Value.int .i64 a2] 25]) 25 ⟨blk4, 0, none⟩ (Value.agg #[Value.int .i64 a0, Value.int .i64 a1, Value.int .i64 a2])))) (by kernel_rfl) (ld_boxN (i := 1) (k := 3) rfl rfl rfl (by kernel_rfl)) hS26 ((hS26.rv (by first | (simp [admP, *]; done) | (obtain rfl : c = a2 := (by omega); simp [admP, *]; done))))
        · skip
          have hb25p := of_decide_eq_false hb25
          refine c_false (b := (decide ((climit a0 a1 a2 b) ≤ a1))) (by kernel_rfl) hb25 ?_
          refine wp_skip ?_
          refine then_n ?_
          refine wp_seq ?_
          refine c_reg ?_
          refine q_seg (S := (fun x_ => St w x_ [Res.box blk10 [Value.int .i64 a0, Value.int .i64 a1, Value.int .i64 a2] 25, Res.box blk4 [Value.int .i64 0, Value.int .i64 0, Value.int .i64 0] 25, Res.box blk2 [Value.int .i64 a0, Value.int .i64 a1, Value.int .i64 a2] 25])) [(38, Value.pointer (some ⟨blk10, 0 + 1, none⟩)), (37, Value.int .i64 (a1 + (1 : Int))), (36, Value.int .i64 a1), (35, Value.pointer (some ⟨blk10, 0 + 1, none⟩))] [.no, .v (Value.int .i64 a1), .no, .no] ((LoadsAt Try.prog (fun x_ => St w x_ [Res.box blk10 [Value.int .i64 a0, Value.int .i64 a1, Value.int .i64 a2] 25, Res.box blk4 [Value.int .i64 0, Value.int .i64 0, Value.int .i64 0] 25, Res.box blk2 [Value.int .i64 a0, Value.int .i64 a1, Value.int .i64 a2] 25]) 3 ⟨blk10, 0 + 1, none⟩ (Value.int .i64 a1)) ∧ (InK .i64 (a1 + (1 : Int)))) (by kernel_rfl) ⟨(ld_box (i := 0) rfl rfl (by kernel_rfl)), (in64 (by omega) (by omega))⟩ hS23 ?_
          refine l_op rfl rfl (fun K hK => op_store (d := none) rfl rfl (i := 0) (b := blk10) (off := 0 + 1) (cs := [Value.int .i64 a0, Value.int .i64 a1, Value.int .i64 a2]) (bt := 25) (by kernel_rfl) (by kernel_rfl) [Value.int .i64 (a1 + (1 : Int))] (by kernel_rfl) (by kernel_rfl) (Nat.le_of_ble_eq_true (by kernel_rfl)) (by kernel_rfl) [Res.box blk10 [Value.int .i64 a0, Value.int .i64 (a1 + (1 : Int)), Value.int .i64 a2] 25, Res.box blk4 [Value.int .i64 0, Value.int .i64 0, Value.int .i64 0] 25, Res.box blk2 [Value.int .i64 a0, Value.int .i64 a1, Value.int .i64 a2] 25] (by kernel_rfl) hS23 (fun w27 hS27 => hK _ _ ?_))
          clear hK K
          refine l_nil rfl ?_
          refine then_n ?_
          refine wp_seq ?_
          refine c_reg ?_
          refine q_seg (S := (fun x_ => St w x_ [Res.box blk10 [Value.int .i64 a0, Value.int .i64 (a1 + (1 : Int)), Value.int .i64 a2] 25, Res.box blk4 [Value.int .i64 0, Value.int .i64 0, Value.int .i64 0] 25, Res.box blk2 [Value.int .i64 a0, Value.int .i64 a1, Value.int .i64 a2] 25])) [(39, Value.agg #[Value.int .i64 a0, Value.int .i64 (a1 + (1 : Int)), Value.int .i64 a2])] [.v (Value.agg #[Value.int .i64 a0, Value.int .i64 (a1 + (1 : Int)), Value.int .i64 a2])] ((LoadsAt Try.prog (fun x_ => St w x_ [Res.box blk10 [Value.int .i64 a0, Value.int .i64 (a1 + (1 : Int)), Value.int .i64 a2] 25, Res.box blk4 [Value.int .i64 0, Value.int .i64 0, Value.int .i64 0] 25, Res.box blk2 [Value.int .i64 a0, Value.int .i64 a1, Value.int .i64 a2] 25]) 25 ⟨blk10, 0, none⟩ (Value.agg #[Value.int .i64 a0, Value.int .i64 (a1 + (1 : Int)), Value.int .i64 a2]))) (by kernel_rfl) (ld_boxN (i := 0) (k := 3) rfl rfl rfl (by kernel_rfl)) hS27 ?_
          refine l_op rfl rfl (fun K hK => op_store (d := none) rfl rfl (i := 1) (b := blk4) (off := 0) (cs := [Value.int .i64 0, Value.int .i64 0, Value.int .i64 0]) (bt := 25) (by kernel_rfl) (by kernel_rfl) [Value.int .i64 a0, Value.int .i64 (a1 + (1 : Int)), Value.int .i64 a2] (by kernel_rfl) (by kernel_rfl) (Nat.le_of_ble_eq_true (by kernel_rfl)) (by kernel_rfl) [Res.box blk10 [Value.int .i64 a0, Value.int .i64 (a1 + (1 : Int)), Value.int .i64 a2] 25, Res.box blk4 [Value.int .i64 a0, Value.int .i64 (a1 + (1 : Int)), Value.int .i64 a2] 25, Res.box blk2 [Value.int .i64 a0, Value.int .i64 a1, Value.int .i64 a2] 25] (by kernel_rfl) hS27 (fun w28 hS28 => hK _ _ ?_))
          clear hK K
          refine q_seg (S := (fun x_ => St w x_ [Res.box blk10 [Value.int .i64 a0, Value.int .i64 (a1 + (1 : Int)), Value.int .i64 a2] 25, Res.box blk4 [Value.int .i64 a0, Value.int .i64 (a1 + (1 : Int)), Value.int .i64 a2] 25, Res.box blk2 [Value.int .i64 a0, Value.int .i64 a1, Value.int .i64 a2] 25])) [(7, Value.bool true)] [.no] True (by kernel_rfl) trivial hS28 ?_
          refine l_nil rfl ?_
          refine then_n ?_
          refine wp_ret ?_
          exact c_end (S := (fun x_ => St w x_ [Res.box blk10 [Value.int .i64 a0, Value.int .i64 (a1 + (1 : Int)), Value.int .i64 a2] 25, Res.box blk4 [Value.int .i64 a0, Value.int .i64 (a1 + (1 : Int)), Value.int .i64 a2] 25, Res.box blk2 [Value.int .i64 a0, Value.int .i64 a1, Value.int .i64 a2] 25])) (rs := [.cell 6 25, .tmp 7]) rfl [Value.agg #[Value.int .i64 a0, Value.int .i64 (a1 + (1 : Int)), Value.int .i64 a2]] (v := Value.tuple #[Value.agg #[Value.int .i64 a0, Value.int .i64 (a1 + (1 : Int)), Value.int .i64 a2], Value.bool true]) (C := ((LoadsAt Try.prog (fun x_ => St w x_ [Res.box blk10 [Value.int .i64 a0, Value.int .i64 (a1 + (1 : Int)), Value.int .i64 a2] 25, Res.box blk4 [Value.int .i64 a0, Value.int .i64 (a1 + (1 : Int)), Value.int .i64 a2] 25, Res.box blk2 [Value.int .i64 a0, Value.int .i64 a1, Value.int .i64 a2] 25]) 25 ⟨blk4, 0, none⟩ (Value.agg #[Value.int .i64 a0, Value.int .i64 (a1 + (1 : Int)), Value.int .i64 a2])))) (by kernel_rfl) (ld_boxN (i := 1) (k := 3) rfl rfl rfl (by kernel_rfl)) hS28 ((hS28.rv (by first | (simp [admP, *]; done) | (obtain rfl : c = a2 := (by omega); simp [admP, *]; done))))
    · skip
      have hb8p := inR_neg hb8
      refine c_true (b := (!(inR c a2 1000000000000))) (by kernel_rfl) (nb (v := false) hb8) ?_
      refine wp_seq ?_
      refine c_reg ?_
      refine q_seg (S := (fun x_ => St w x_ [Res.box blk4 [Value.int .i64 0, Value.int .i64 0, Value.int .i64 0] 25, Res.box blk2 [Value.int .i64 a0, Value.int .i64 a1, Value.int .i64 a2] 25])) [(19, Value.agg #[Value.int .i64 a0, Value.int .i64 a1, Value.int .i64 a2])] [.v (Value.agg #[Value.int .i64 a0, Value.int .i64 a1, Value.int .i64 a2])] ((LoadsAt Try.prog (fun x_ => St w x_ [Res.box blk4 [Value.int .i64 0, Value.int .i64 0, Value.int .i64 0] 25, Res.box blk2 [Value.int .i64 a0, Value.int .i64 a1, Value.int .i64 a2] 25]) 25 ⟨blk2, 0, none⟩ (Value.agg #[Value.int .i64 a0, Value.int .i64 a1, Value.int .i64 a2]))) (by kernel_rfl) (ld_boxN (i := 1) (k := 3) rfl rfl rfl (by kernel_rfl)) hS7 ?_
      refine l_op rfl rfl (fun K hK => op_store (d := none) rfl rfl (i := 0) (b := blk4) (off := 0) (cs := [Value.int .i64 0, Value.int .i64 0, Value.int .i64 0]) (bt := 25) (by kernel_rfl) (by kernel_rfl) [Value.int .i64 a0, Value.int .i64 a1, Value.int .i64 a2] (by kernel_rfl) (by kernel_rfl) (Nat.le_of_ble_eq_true (by kernel_rfl)) (by kernel_rfl) [Res.box blk4 [Value.int .i64 a0, Value.int .i64 a1, Value.int .i64 a2] 25, Res.box blk2 [Value.int .i64 a0, Value.int .i64 a1, Value.int .i64 a2] 25] (by kernel_rfl) hS7 (fun w29 hS29 => hK _ _ ?_))
      clear hK K
      refine q_seg (S := (fun x_ => St w x_ [Res.box blk4 [Value.int .i64 a0, Value.int .i64 a1, Value.int .i64 a2] 25, Res.box blk2 [Value.int .i64 a0, Value.int .i64 a1, Value.int .i64 a2] 25])) [(7, Value.bool false)] [.no] True (by kernel_rfl) trivial hS29 ?_
      refine l_nil rfl ?_
      refine then_n ?_
      refine wp_ret ?_
      refine then_r ?_
      exact c_end (S := (fun x_ => St w x_ [Res.box blk4 [Value.int .i64 a0, Value.int .i64 a1, Value.int .i64 a2] 25, Res.box blk2 [Value.int .i64 a0, Value.int .i64 a1, Value.int .i64 a2] 25])) (rs := [.cell 6 25, .tmp 7]) rfl [Value.agg #[Value.int .i64 a0, Value.int .i64 a1, Value.int .i64 a2]] (v := Value.tuple #[Value.agg #[Value.int .i64 a0, Value.int .i64 a1, Value.int .i64 a2], Value.bool false]) (C := ((LoadsAt Try.prog (fun x_ => St w x_ [Res.box blk4 [Value.int .i64 a0, Value.int .i64 a1, Value.int .i64 a2] 25, Res.box blk2 [Value.int .i64 a0, Value.int .i64 a1, Value.int .i64 a2] 25]) 25 ⟨blk4, 0, none⟩ (Value.agg #[Value.int .i64 a0, Value.int .i64 a1, Value.int .i64 a2])))) (by kernel_rfl) (ld_boxN (i := 0) (k := 3) rfl rfl rfl (by kernel_rfl)) hS29 ((hS29.rv (by first | (simp [admP, *]; done) | (obtain rfl : c = a2 := (by omega); simp [admP, *]; done))))
  · skip
    refine q_seg (S := (fun x_ => St w x_ [Res.box blk4 [Value.int .i64 0, Value.int .i64 0, Value.int .i64 0] 25, Res.box blk2 [Value.int .i64 a0, Value.int .i64 a1, Value.int .i64 a2] 25])) [(18, Value.bool true), (17, undef), (16, undef), (15, undef), (14, undef), (13, undef)] [.skip, .skip, .skip, .skip, .skip, .v (.bool true)] (((!(vdoor a0 a1 a2)) = !false) ∧ ((!(vdoor a0 a1 a2)) = !false) ∧ ((!(vdoor a0 a1 a2)) = !false) ∧ ((!(vdoor a0 a1 a2)) = !false) ∧ ((!(vdoor a0 a1 a2)) = !false) ∧ ((!(vdoor a0 a1 a2)) = true)) (by kernel_rfl) ⟨(nb (v := false) hb6), (nb (v := false) hb6), (nb (v := false) hb6), (nb (v := false) hb6), (nb (v := false) hb6), (nb (v := false) hb6)⟩ hS5 ?_
    refine l_nil rfl ?_
    refine then_n ?_
    refine c_true (b := true) (by kernel_rfl) rfl ?_
    refine wp_seq ?_
    refine c_reg ?_
    refine q_seg (S := (fun x_ => St w x_ [Res.box blk4 [Value.int .i64 0, Value.int .i64 0, Value.int .i64 0] 25, Res.box blk2 [Value.int .i64 a0, Value.int .i64 a1, Value.int .i64 a2] 25])) [(19, Value.agg #[Value.int .i64 a0, Value.int .i64 a1, Value.int .i64 a2])] [.v (Value.agg #[Value.int .i64 a0, Value.int .i64 a1, Value.int .i64 a2])] ((LoadsAt Try.prog (fun x_ => St w x_ [Res.box blk4 [Value.int .i64 0, Value.int .i64 0, Value.int .i64 0] 25, Res.box blk2 [Value.int .i64 a0, Value.int .i64 a1, Value.int .i64 a2] 25]) 25 ⟨blk2, 0, none⟩ (Value.agg #[Value.int .i64 a0, Value.int .i64 a1, Value.int .i64 a2]))) (by kernel_rfl) (ld_boxN (i := 1) (k := 3) rfl rfl rfl (by kernel_rfl)) hS5 ?_
    refine l_op rfl rfl (fun K hK => op_store (d := none) rfl rfl (i := 0) (b := blk4) (off := 0) (cs := [Value.int .i64 0, Value.int .i64 0, Value.int .i64 0]) (bt := 25) (by kernel_rfl) (by kernel_rfl) [Value.int .i64 a0, Value.int .i64 a1, Value.int .i64 a2] (by kernel_rfl) (by kernel_rfl) (Nat.le_of_ble_eq_true (by kernel_rfl)) (by kernel_rfl) [Res.box blk4 [Value.int .i64 a0, Value.int .i64 a1, Value.int .i64 a2] 25, Res.box blk2 [Value.int .i64 a0, Value.int .i64 a1, Value.int .i64 a2] 25] (by kernel_rfl) hS5 (fun w30 hS30 => hK _ _ ?_))
    clear hK K
    refine q_seg (S := (fun x_ => St w x_ [Res.box blk4 [Value.int .i64 a0, Value.int .i64 a1, Value.int .i64 a2] 25, Res.box blk2 [Value.int .i64 a0, Value.int .i64 a1, Value.int .i64 a2] 25])) [(7, Value.bool false)] [.no] True (by kernel_rfl) trivial hS30 ?_
    refine l_nil rfl ?_
    refine then_n ?_
    refine wp_ret ?_
    refine then_r ?_
    exact c_end (S := (fun x_ => St w x_ [Res.box blk4 [Value.int .i64 a0, Value.int .i64 a1, Value.int .i64 a2] 25, Res.box blk2 [Value.int .i64 a0, Value.int .i64 a1, Value.int .i64 a2] 25])) (rs := [.cell 6 25, .tmp 7]) rfl [Value.agg #[Value.int .i64 a0, Value.int .i64 a1, Value.int .i64 a2]] (v := Value.tuple #[Value.agg #[Value.int .i64 a0, Value.int .i64 a1, Value.int .i64 a2], Value.bool false]) (C := ((LoadsAt Try.prog (fun x_ => St w x_ [Res.box blk4 [Value.int .i64 a0, Value.int .i64 a1, Value.int .i64 a2] 25, Res.box blk2 [Value.int .i64 a0, Value.int .i64 a1, Value.int .i64 a2] 25]) 25 ⟨blk4, 0, none⟩ (Value.agg #[Value.int .i64 a0, Value.int .i64 a1, Value.int .i64 a2])))) (by kernel_rfl) (ld_boxN (i := 0) (k := 3) rfl rfl rfl (by kernel_rfl)) hS30 ((hS30.rv (by first | (simp [admP, *]; done) | (obtain rfl : c = a2 := (by omega); simp [admP, *]; done))))
theorem AdmitBatch_i_c (c a t now : Int) (A : Option Addr) (n cp : Nat) (zs : List Int) (w : World) (hc : I64 c) (ha : I64 a) (ht : I64 t) (hnow : I64 now) (hz : ∀ z ∈ zs, I64 z) (hn : n ≤ 1048576) (hr : Rd w w.heap.size A n (zs.map (Value.int .i64))) : Calls Try.prog 27 #[.agg #[.int .i64 c, .int .i64 a, .int .i64 t], .slice A n cp, .int .i64 now] w (RetV w (.tuple #[.agg #[.int .i64 c, .int .i64 (batch c now zs (a, t)).1, .int .i64 (batch c now zs (a, t)).2], .int .i64 ((batchN c now zs (a, t) : Nat) : Int)])) := by
  obtain ⟨hnow1, hnow2⟩ := hnow
  refine calls_FA Try.func27 rfl (n := 33) rfl (l := [(0, Value.agg #[Value.int .i64 c, Value.int .i64 a, Value.int .i64 t]), (1, Value.slice A n cp), (2, Value.int .i64 now)]) rfl (by simp) (fun g => ?_)
  have hS := St.init w
  refine wp_seq ?_
  refine c_reg ?_
  refine l_op rfl rfl (fun K hK => op_box (d := some 3) rfl rfl [Value.int .i64 c, Value.int .i64 a, Value.int .i64 t] (by kernel_rfl) hS (fun blk2 w1 hS1 => hK _ _ ?_))
  clear hK K
  refine l_op rfl rfl (fun K hK => op_alloc (d := some 6) rfl rfl [Value.int .i64 0, Value.int .i64 0, Value.int .i64 0] (by kernel_rfl) hS1 (fun blk4 w3 hS3 => hK _ _ ?_))
  clear hK K
  refine q_seg (S := (fun x_ => St w x_ [Res.box blk4 [Value.int .i64 0, Value.int .i64 0, Value.int .i64 0] 25, Res.box blk2 [Value.int .i64 c, Value.int .i64 a, Value.int .i64 t] 25])) [(7, Value.int .i64 0)] [.no] True (by kernel_rfl) trivial hS3 ?_
  refine l_nil rfl ?_
  refine then_n ?_
  refine wp_seq ?_
  refine c_reg ?_
  refine q_seg (S := (fun x_ => St w x_ [Res.box blk4 [Value.int .i64 0, Value.int .i64 0, Value.int .i64 0] 25, Res.box blk2 [Value.int .i64 c, Value.int .i64 a, Value.int .i64 t] 25])) [(8, Value.int .i64 0)] [.no] True (by kernel_rfl) trivial hS3 ?_
  refine l_nil rfl ?_
  refine then_n ?_
  refine wp_seq ?_
  refine wp_seq ?_
  refine c_reg ?_
  refine q_seg (S := (fun x_ => St w x_ [Res.box blk4 [Value.int .i64 0, Value.int .i64 0, Value.int .i64 0] 25, Res.box blk2 [Value.int .i64 c, Value.int .i64 a, Value.int .i64 t] 25])) [(15, Value.int .i64 0), (14, Value.int .i64 ((n : Nat) : Int)), (13, Value.slice A n cp)] [.no, .no, .no] True (by kernel_rfl) trivial hS3 ?_
  refine l_nil rfl ?_
  refine then_n ?_
  refine wp_block ?_
  refine c_loop (X := Nat) (fun (k : Nat) => [(3, Value.pointer (some ⟨blk2, 0, none⟩)), (6, Value.pointer (some ⟨blk4, 0, none⟩)), (2, Value.int .i64 now), (8, Value.int .i64 ((batchN c now (zs.take k) (a, t) : Nat) : Int)), (13, Value.slice A n cp), (14, Value.int .i64 ((n : Nat) : Int)), (15, Value.int .i64 ((k : Nat) : Int))]) (fun (k : Nat) (wr : World) => (k ≤ n) ∧ St w wr [Res.box blk4 [Value.int .i64 0, Value.int .i64 0, Value.int .i64 0] 25, Res.box blk2 [Value.int .i64 c, Value.int .i64 ((batch c now (zs.take k) (a, t)).1), Value.int .i64 ((batch c now (zs.take k) (a, t)).2)] 25]) (fun (k : Nat) => n - k) 0 ?_ ?_ ?_
  · exact (agree_cons (by kernel_rfl) (agree_cons (by kernel_rfl) (agree_cons (by kernel_rfl) (agree_cons (by kernel_rfl) (agree_cons (by kernel_rfl) (agree_cons (by kernel_rfl) (agree_cons (by kernel_rfl) agree_nil)))))))
  · exact ⟨Nat.zero_le _, hS3⟩
  rintro k g6 w5 ⟨hkn, hS5⟩
  have hbN := batchN_le c now (zs.take k) (a, t)
  have hbl := List.length_take_le k zs
  refine wp_seq ?_
  refine c_reg ?_
  refine q_seg (S := (fun x_ => St w x_ [Res.box blk4 [Value.int .i64 0, Value.int .i64 0, Value.int .i64 0] 25, Res.box blk2 [Value.int .i64 c, Value.int .i64 ((batch c now (zs.take k) (a, t)).1), Value.int .i64 ((batch c now (zs.take k) (a, t)).2)] 25])) [(16, Value.bool (decide (((k : Nat) : Int) < ((n : Nat) : Int))))] [.no] True (by kernel_rfl) trivial hS5 ?_
  refine l_nil rfl ?_
  refine then_n ?_
  refine wp_seq ?_
  rcases Bool.eq_false_or_eq_true (decide (((k : Nat) : Int) < ((n : Nat) : Int))) with hb7 | hb7
  · skip
    have hb7p := of_decide_eq_true hb7
    obtain ⟨b, off, rfl, hbB, hcl⟩ := hr.2 (by omega)
    obtain ⟨z, hzk, hzm⟩ := get_of_lt (l := zs) (k := k) (by have := hr.len; omega)
    obtain ⟨hz1, hz2⟩ := hz _ hzm
    refine c_true (b := (decide (((k : Nat) : Int) < ((n : Nat) : Int)))) (by kernel_rfl) hb7 ?_
    refine wp_skip ?_
    refine then_n ?_
    refine wp_seq ?_
    refine wp_block ?_
    refine wp_seq ?_
    refine c_reg ?_
    refine q_seg (S := (fun x_ => St w x_ [Res.box blk4 [Value.int .i64 0, Value.int .i64 0, Value.int .i64 0] 25, Res.box blk2 [Value.int .i64 c, Value.int .i64 ((batch c now (zs.take k) (a, t)).1), Value.int .i64 ((batch c now (zs.take k) (a, t)).2)] 25])) [(10, Value.int .i64 z), (18, Value.int .i64 z), (17, Value.pointer (some ⟨b, off + Int.toNat ((k : Nat) : Int) * 1, none⟩))] [.no, .v (Value.int .i64 z), .no] (((0 : Int) ≤ ((k : Nat) : Int)) ∧ (((k : Nat) : Int) < ((n : Nat) : Int)) ∧ (LoadsAt Try.prog (fun x_ => St w x_ [Res.box blk4 [Value.int .i64 0, Value.int .i64 0, Value.int .i64 0] 25, Res.box blk2 [Value.int .i64 c, Value.int .i64 ((batch c now (zs.take k) (a, t)).1), Value.int .i64 ((batch c now (zs.take k) (a, t)).2)] 25]) 3 ⟨b, off + Int.toNat ((k : Nat) : Int) * 1, none⟩ (Value.int .i64 z))) (by kernel_rfl) ⟨(by omega), (by omega), (ld_low (hcl _ _ (by simp [hzk])) (by kernel_rfl))⟩ hS5 ?_
    refine l_nil rfl ?_
    refine then_n ?_
    refine wp_seq ?_
    refine c_reg ?_
    refine q_seg (S := (fun x_ => St w x_ [Res.box blk4 [Value.int .i64 0, Value.int .i64 0, Value.int .i64 0] 25, Res.box blk2 [Value.int .i64 c, Value.int .i64 ((batch c now (zs.take k) (a, t)).1), Value.int .i64 ((batch c now (zs.take k) (a, t)).2)] 25])) [(22, Value.int .i64 now), (21, Value.int .i64 z), (20, Value.agg #[Value.int .i64 c, Value.int .i64 ((batch c now (zs.take k) (a, t)).1), Value.int .i64 ((batch c now (zs.take k) (a, t)).2)])] [.v (Value.agg #[Value.int .i64 c, Value.int .i64 ((batch c now (zs.take k) (a, t)).1), Value.int .i64 ((batch c now (zs.take k) (a, t)).2)]), .no, .no] ((LoadsAt Try.prog (fun x_ => St w x_ [Res.box blk4 [Value.int .i64 0, Value.int .i64 0, Value.int .i64 0] 25, Res.box blk2 [Value.int .i64 c, Value.int .i64 ((batch c now (zs.take k) (a, t)).1), Value.int .i64 ((batch c now (zs.take k) (a, t)).2)] 25]) 25 ⟨blk2, 0, none⟩ (Value.agg #[Value.int .i64 c, Value.int .i64 ((batch c now (zs.take k) (a, t)).1), Value.int .i64 ((batch c now (zs.take k) (a, t)).2)]))) (by kernel_rfl) (ld_boxN (i := 1) (k := 3) rfl rfl rfl (by kernel_rfl)) hS5 ?_
    refine l_op rfl rfl (fun K hK => op_callv (d := some 23) rfl rfl ⟨_, Try.func22, by kernel_rfl, by kernel_rfl⟩ (vs := [Value.agg #[Value.int .i64 c, Value.int .i64 ((batch c now (zs.take k) (a, t)).1), Value.int .i64 ((batch c now (zs.take k) (a, t)).2)], Value.int .i64 z, Value.int .i64 now]) (by kernel_rfl) (v := Value.tuple #[Value.agg #[Value.int .i64 c, Value.int .i64 ((admP c ((batch c now (zs.take k) (a, t)).1) ((batch c now (zs.take k) (a, t)).2) z now).1), Value.int .i64 ((admP c ((batch c now (zs.take k) (a, t)).1) ((batch c now (zs.take k) (a, t)).2) z now).2.1)], Value.bool ((admP c ((batch c now (zs.take k) (a, t)).1) ((batch c now (zs.take k) (a, t)).2) z now).2.2)]) (AdmitRequest_i_c c ((batch c now (zs.take k) (a, t)).1) ((batch c now (zs.take k) (a, t)).2) z now  _) hS5 (fun w8 hS8 => hK _ _ ?_))
    clear hK K
    refine q_seg (S := (fun x_ => St w x_ [Res.box blk4 [Value.int .i64 0, Value.int .i64 0, Value.int .i64 0] 25, Res.box blk2 [Value.int .i64 c, Value.int .i64 ((batch c now (zs.take k) (a, t)).1), Value.int .i64 ((batch c now (zs.take k) (a, t)).2)] 25])) [(25, Value.bool ((admP c ((batch c now (zs.take k) (a, t)).1) ((batch c now (zs.take k) (a, t)).2) z now).2.2)), (24, Value.agg #[Value.int .i64 c, Value.int .i64 ((admP c ((batch c now (zs.take k) (a, t)).1) ((batch c now (zs.take k) (a, t)).2) z now).1), Value.int .i64 ((admP c ((batch c now (zs.take k) (a, t)).1) ((batch c now (zs.take k) (a, t)).2) z now).2.1)]), (19, Value.tuple #[Value.agg #[Value.int .i64 c, Value.int .i64 ((admP c ((batch c now (zs.take k) (a, t)).1) ((batch c now (zs.take k) (a, t)).2) z now).1), Value.int .i64 ((admP c ((batch c now (zs.take k) (a, t)).1) ((batch c now (zs.take k) (a, t)).2) z now).2.1)], Value.bool ((admP c ((batch c now (zs.take k) (a, t)).1) ((batch c now (zs.take k) (a, t)).2) z now).2.2)])] [.no, .no, .no] True (by kernel_rfl) trivial hS8 ?_
    refine l_op rfl rfl (fun K hK => op_alloc (d := some 11) rfl rfl [Value.int .i64 0, Value.int .i64 0, Value.int .i64 0] (by kernel_rfl) hS8 (fun blk10 w9 hS9 => hK _ _ ?_))
    clear hK K
    refine l_op rfl rfl (fun K hK => op_store (d := none) rfl rfl (i := 0) (b := blk10) (off := 0) (cs := [Value.int .i64 0, Value.int .i64 0, Value.int .i64 0]) (bt := 25) (by kernel_rfl) (by kernel_rfl) [Value.int .i64 c, Value.int .i64 ((admP c ((batch c now (zs.take k) (a, t)).1) ((batch c now (zs.take k) (a, t)).2) z now).1), Value.int .i64 ((admP c ((batch c now (zs.take k) (a, t)).1) ((batch c now (zs.take k) (a, t)).2) z now).2.1)] (by kernel_rfl) (by kernel_rfl) (Nat.le_of_ble_eq_true (by kernel_rfl)) (by kernel_rfl) [Res.box blk10 [Value.int .i64 c, Value.int .i64 ((admP c ((batch c now (zs.take k) (a, t)).1) ((batch c now (zs.take k) (a, t)).2) z now).1), Value.int .i64 ((admP c ((batch c now (zs.take k) (a, t)).1) ((batch c now (zs.take k) (a, t)).2) z now).2.1)] 25, Res.box blk4 [Value.int .i64 0, Value.int .i64 0, Value.int .i64 0] 25, Res.box blk2 [Value.int .i64 c, Value.int .i64 ((batch c now (zs.take k) (a, t)).1), Value.int .i64 ((batch c now (zs.take k) (a, t)).2)] 25] (by kernel_rfl) hS9 (fun w11 hS11 => hK _ _ ?_))
    clear hK K
    refine q_seg (S := (fun x_ => St w x_ [Res.box blk10 [Value.int .i64 c, Value.int .i64 ((admP c ((batch c now (zs.take k) (a, t)).1) ((batch c now (zs.take k) (a, t)).2) z now).1), Value.int .i64 ((admP c ((batch c now (zs.take k) (a, t)).1) ((batch c now (zs.take k) (a, t)).2) z now).2.1)] 25, Res.box blk4 [Value.int .i64 0, Value.int .i64 0, Value.int .i64 0] 25, Res.box blk2 [Value.int .i64 c, Value.int .i64 ((batch c now (zs.take k) (a, t)).1), Value.int .i64 ((batch c now (zs.take k) (a, t)).2)] 25])) [(12, Value.bool ((admP c ((batch c now (zs.take k) (a, t)).1) ((batch c now (zs.take k) (a, t)).2) z now).2.2))] [.no] True (by kernel_rfl) trivial hS11 ?_
    refine l_nil rfl ?_
    refine then_n ?_
    refine wp_seq ?_
    refine c_reg ?_
    refine q_seg (S := (fun x_ => St w x_ [Res.box blk10 [Value.int .i64 c, Value.int .i64 ((admP c ((batch c now (zs.take k) (a, t)).1) ((batch c now (zs.take k) (a, t)).2) z now).1), Value.int .i64 ((admP c ((batch c now (zs.take k) (a, t)).1) ((batch c now (zs.take k) (a, t)).2) z now).2.1)] 25, Res.box blk4 [Value.int .i64 0, Value.int .i64 0, Value.int .i64 0] 25, Res.box blk2 [Value.int .i64 c, Value.int .i64 ((batch c now (zs.take k) (a, t)).1), Value.int .i64 ((batch c now (zs.take k) (a, t)).2)] 25])) [(26, Value.agg #[Value.int .i64 c, Value.int .i64 ((admP c ((batch c now (zs.take k) (a, t)).1) ((batch c now (zs.take k) (a, t)).2) z now).1), Value.int .i64 ((admP c ((batch c now (zs.take k) (a, t)).1) ((batch c now (zs.take k) (a, t)).2) z now).2.1)])] [.v (Value.agg #[Value.int .i64 c, Value.int .i64 ((admP c ((batch c now (zs.take k) (a, t)).1) ((batch c now (zs.take k) (a, t)).2) z now).1), Value.int .i64 ((admP c ((batch c now (zs.take k) (a, t)).1) ((batch c now (zs.take k) (a, t)).2) z now).2.1)])] ((LoadsAt Try.prog (fun x_ => St w x_ [Res.box blk10 [Value.int .i64 c, Value.int .i64 ((admP c ((batch c now (zs.take k) (a, t)).1) ((batch c now (zs.take k) (a, t)).2) z now).1), Value.int .i64 ((admP c ((batch c now (zs.take k) (a, t)).1) ((batch c now (zs.take k) (a, t)).2) z now).2.1)] 25, Res.box blk4 [Value.int .i64 0, Value.int .i64 0, Value.int .i64 0] 25, Res.box blk2 [Value.int .i64 c, Value.int .i64 ((batch c now (zs.take k) (a, t)).1), Value.int .i64 ((batch c now (zs.take k) (a, t)).2)] 25]) 25 ⟨blk10, 0, none⟩ (Value.agg #[Value.int .i64 c, Value.int .i64 ((admP c ((batch c now (zs.take k) (a, t)).1) ((batch c now (zs.take k) (a, t)).2) z now).1), Value.int .i64 ((admP c ((batch c now (zs.take k) (a, t)).1) ((batch c now (zs.take k) (a, t)).2) z now).2.1)]))) (by kernel_rfl) (ld_boxN (i := 0) (k := 3) rfl rfl rfl (by kernel_rfl)) hS11 ?_
    refine l_op rfl rfl (fun K hK => op_store (d := none) rfl rfl (i := 2) (b := blk2) (off := 0) (cs := [Value.int .i64 c, Value.int .i64 ((batch c now (zs.take k) (a, t)).1), Value.int .i64 ((batch c now (zs.take k) (a, t)).2)]) (bt := 25) (by kernel_rfl) (by kernel_rfl) [Value.int .i64 c, Value.int .i64 ((admP c ((batch c now (zs.take k) (a, t)).1) ((batch c now (zs.take k) (a, t)).2) z now).1), Value.int .i64 ((admP c ((batch c now (zs.take k) (a, t)).1) ((batch c now (zs.take k) (a, t)).2) z now).2.1)] (by kernel_rfl) (by kernel_rfl) (Nat.le_of_ble_eq_true (by kernel_rfl)) (by kernel_rfl) [Res.box blk10 [Value.int .i64 c, Value.int .i64 ((admP c ((batch c now (zs.take k) (a, t)).1) ((batch c now (zs.take k) (a, t)).2) z now).1), Value.int .i64 ((admP c ((batch c now (zs.take k) (a, t)).1) ((batch c now (zs.take k) (a, t)).2) z now).2.1)] 25, Res.box blk4 [Value.int .i64 0, Value.int .i64 0, Value.int .i64 0] 25, Res.box blk2 [Value.int .i64 c, Value.int .i64 ((admP c ((batch c now (zs.take k) (a, t)).1) ((batch c now (zs.take k) (a, t)).2) z now).1), Value.int .i64 ((admP c ((batch c now (zs.take k) (a, t)).1) ((batch c now (zs.take k) (a, t)).2) z now).2.1)] 25] (by kernel_rfl) hS11 (fun w12 hS12 => hK _ _ ?_))
    clear hK K
    refine l_nil rfl ?_
    refine then_n ?_
    refine wp_seq ?_
    refine c_reg ?_
    refine q_seg (S := (fun x_ => St w x_ [Res.box blk10 [Value.int .i64 c, Value.int .i64 ((admP c ((batch c now (zs.take k) (a, t)).1) ((batch c now (zs.take k) (a, t)).2) z now).1), Value.int .i64 ((admP c ((batch c now (zs.take k) (a, t)).1) ((batch c now (zs.take k) (a, t)).2) z now).2.1)] 25, Res.box blk4 [Value.int .i64 0, Value.int .i64 0, Value.int .i64 0] 25, Res.box blk2 [Value.int .i64 c, Value.int .i64 ((admP c ((batch c now (zs.take k) (a, t)).1) ((batch c now (zs.take k) (a, t)).2) z now).1), Value.int .i64 ((admP c ((batch c now (zs.take k) (a, t)).1) ((batch c now (zs.take k) (a, t)).2) z now).2.1)] 25])) [(27, Value.bool ((admP c ((batch c now (zs.take k) (a, t)).1) ((batch c now (zs.take k) (a, t)).2) z now).2.2))] [.no] True (by kernel_rfl) trivial hS12 ?_
    refine l_nil rfl ?_
    refine then_n ?_
    rcases Bool.eq_false_or_eq_true ((admP c ((batch c now (zs.take k) (a, t)).1) ((batch c now (zs.take k) (a, t)).2) z now).2.2) with hb13 | hb13
    · skip
      refine c_true (b := ((admP c ((batch c now (zs.take k) (a, t)).1) ((batch c now (zs.take k) (a, t)).2) z now).2.2)) (by kernel_rfl) hb13 ?_
      refine c_reg ?_
      refine q_seg (S := (fun x_ => St w x_ [Res.box blk10 [Value.int .i64 c, Value.int .i64 ((admP c ((batch c now (zs.take k) (a, t)).1) ((batch c now (zs.take k) (a, t)).2) z now).1), Value.int .i64 ((admP c ((batch c now (zs.take k) (a, t)).1) ((batch c now (zs.take k) (a, t)).2) z now).2.1)] 25, Res.box blk4 [Value.int .i64 0, Value.int .i64 0, Value.int .i64 0] 25, Res.box blk2 [Value.int .i64 c, Value.int .i64 ((admP c ((batch c now (zs.take k) (a, t)).1) ((batch c now (zs.take k) (a, t)).2) z now).1), Value.int .i64 ((admP c ((batch c now (zs.take k) (a, t)).1) ((batch c now (zs.take k) (a, t)).2) z now).2.1)] 25])) [(8, Value.int .i64 (((batchN c now (zs.take k) (a, t) : Nat) : Int) + (1 : Int))), (29, Value.int .i64 (((batchN c now (zs.take k) (a, t) : Nat) : Int) + (1 : Int))), (28, Value.int .i64 ((batchN c now (zs.take k) (a, t) : Nat) : Int))] [.no, .no, .no] ((InK .i64 (((batchN c now (zs.take k) (a, t) : Nat) : Int) + (1 : Int)))) (by kernel_rfl) (in64 (by omega) (by omega)) hS12 ?_
      refine l_nil rfl ?_
      refine blk_n ?_
      refine then_n ?_
      refine c_reg ?_
      refine q_seg (S := (fun x_ => St w x_ [Res.box blk10 [Value.int .i64 c, Value.int .i64 ((admP c ((batch c now (zs.take k) (a, t)).1) ((batch c now (zs.take k) (a, t)).2) z now).1), Value.int .i64 ((admP c ((batch c now (zs.take k) (a, t)).1) ((batch c now (zs.take k) (a, t)).2) z now).2.1)] 25, Res.box blk4 [Value.int .i64 0, Value.int .i64 0, Value.int .i64 0] 25, Res.box blk2 [Value.int .i64 c, Value.int .i64 ((admP c ((batch c now (zs.take k) (a, t)).1) ((batch c now (zs.take k) (a, t)).2) z now).1), Value.int .i64 ((admP c ((batch c now (zs.take k) (a, t)).1) ((batch c now (zs.take k) (a, t)).2) z now).2.1)] 25])) [(15, Value.int .i64 (((k : Nat) : Int) + (1 : Int))), (30, Value.int .i64 (((k : Nat) : Int) + (1 : Int)))] [.no, .no] ((InK .i64 (((k : Nat) : Int) + (1 : Int)))) (by kernel_rfl) (in64 (by omega) (by omega)) hS12 ?_
      refine l_nil rfl ?_
      refine then_n ?_
      have hSe := hS12.drop
      refine round_end (k + 1) ?_ ?_ ?_
      · exact (agree_cons (by kernel_rfl) (agree_cons (by kernel_rfl) (agree_cons (by kernel_rfl) (agree_eq (v0 := Value.int .i64 (((batchN c now (zs.take k) (a, t) : Nat) : Int) + (1 : Int))) (by kernel_rfl) (congrArg (Value.int .i64) (by rw [take_get hzk, batchN_snoc, hb13]; simp)) (agree_cons (by kernel_rfl) (agree_cons (by kernel_rfl) (agree_cons (by kernel_rfl) agree_nil)))))))
      · exact ⟨(by omega), (hSe.eqv (by rw [take_get hzk, batch_snoc]))⟩
      · exact (by first | omega | (dsimp only; omega))
    · skip
      refine c_false (b := ((admP c ((batch c now (zs.take k) (a, t)).1) ((batch c now (zs.take k) (a, t)).2) z now).2.2)) (by kernel_rfl) hb13 ?_
      refine wp_skip ?_
      refine blk_n ?_
      refine then_n ?_
      refine c_reg ?_
      refine q_seg (S := (fun x_ => St w x_ [Res.box blk10 [Value.int .i64 c, Value.int .i64 ((admP c ((batch c now (zs.take k) (a, t)).1) ((batch c now (zs.take k) (a, t)).2) z now).1), Value.int .i64 ((admP c ((batch c now (zs.take k) (a, t)).1) ((batch c now (zs.take k) (a, t)).2) z now).2.1)] 25, Res.box blk4 [Value.int .i64 0, Value.int .i64 0, Value.int .i64 0] 25, Res.box blk2 [Value.int .i64 c, Value.int .i64 ((admP c ((batch c now (zs.take k) (a, t)).1) ((batch c now (zs.take k) (a, t)).2) z now).1), Value.int .i64 ((admP c ((batch c now (zs.take k) (a, t)).1) ((batch c now (zs.take k) (a, t)).2) z now).2.1)] 25])) [(15, Value.int .i64 (((k : Nat) : Int) + (1 : Int))), (30, Value.int .i64 (((k : Nat) : Int) + (1 : Int)))] [.no, .no] ((InK .i64 (((k : Nat) : Int) + (1 : Int)))) (by kernel_rfl) (in64 (by omega) (by omega)) hS12 ?_
      refine l_nil rfl ?_
      refine then_n ?_
      have hSe := hS12.drop
      refine round_end (k + 1) ?_ ?_ ?_
      · exact (agree_cons (by kernel_rfl) (agree_cons (by kernel_rfl) (agree_cons (by kernel_rfl) (agree_eq (v0 := Value.int .i64 ((batchN c now (zs.take k) (a, t) : Nat) : Int)) (by kernel_rfl) (congrArg (Value.int .i64) (by rw [take_get hzk, batchN_snoc, hb13]; simp)) (agree_cons (by kernel_rfl) (agree_cons (by kernel_rfl) (agree_cons (by kernel_rfl) agree_nil)))))))
      · exact ⟨(by omega), (hSe.eqv (by rw [take_get hzk, batch_snoc]))⟩
      · exact (by first | omega | (dsimp only; omega))
  · skip
    have hb7p := of_decide_eq_false hb7
    refine c_false (b := (decide (((k : Nat) : Int) < ((n : Nat) : Int)))) (by kernel_rfl) hb7 ?_
    refine wp_exit ?_
    refine then_x ?_
    refine then_x ?_
    refine blk_hit ?_
    refine then_n ?_
    refine wp_seq ?_
    refine c_reg ?_
    refine q_seg (S := (fun x_ => St w x_ [Res.box blk4 [Value.int .i64 0, Value.int .i64 0, Value.int .i64 0] 25, Res.box blk2 [Value.int .i64 c, Value.int .i64 ((batch c now (zs.take k) (a, t)).1), Value.int .i64 ((batch c now (zs.take k) (a, t)).2)] 25])) [(32, Value.int .i64 ((batchN c now (zs.take k) (a, t) : Nat) : Int)), (31, Value.agg #[Value.int .i64 c, Value.int .i64 ((batch c now (zs.take k) (a, t)).1), Value.int .i64 ((batch c now (zs.take k) (a, t)).2)])] [.v (Value.agg #[Value.int .i64 c, Value.int .i64 ((batch c now (zs.take k) (a, t)).1), Value.int .i64 ((batch c now (zs.take k) (a, t)).2)]), .no] ((LoadsAt Try.prog (fun x_ => St w x_ [Res.box blk4 [Value.int .i64 0, Value.int .i64 0, Value.int .i64 0] 25, Res.box blk2 [Value.int .i64 c, Value.int .i64 ((batch c now (zs.take k) (a, t)).1), Value.int .i64 ((batch c now (zs.take k) (a, t)).2)] 25]) 25 ⟨blk2, 0, none⟩ (Value.agg #[Value.int .i64 c, Value.int .i64 ((batch c now (zs.take k) (a, t)).1), Value.int .i64 ((batch c now (zs.take k) (a, t)).2)]))) (by kernel_rfl) (ld_boxN (i := 1) (k := 3) rfl rfl rfl (by kernel_rfl)) hS5 ?_
    refine l_op rfl rfl (fun K hK => op_store (d := none) rfl rfl (i := 0) (b := blk4) (off := 0) (cs := [Value.int .i64 0, Value.int .i64 0, Value.int .i64 0]) (bt := 25) (by kernel_rfl) (by kernel_rfl) [Value.int .i64 c, Value.int .i64 ((batch c now (zs.take k) (a, t)).1), Value.int .i64 ((batch c now (zs.take k) (a, t)).2)] (by kernel_rfl) (by kernel_rfl) (Nat.le_of_ble_eq_true (by kernel_rfl)) (by kernel_rfl) [Res.box blk4 [Value.int .i64 c, Value.int .i64 ((batch c now (zs.take k) (a, t)).1), Value.int .i64 ((batch c now (zs.take k) (a, t)).2)] 25, Res.box blk2 [Value.int .i64 c, Value.int .i64 ((batch c now (zs.take k) (a, t)).1), Value.int .i64 ((batch c now (zs.take k) (a, t)).2)] 25] (by kernel_rfl) hS5 (fun w14 hS14 => hK _ _ ?_))
    clear hK K
    refine q_seg (S := (fun x_ => St w x_ [Res.box blk4 [Value.int .i64 c, Value.int .i64 ((batch c now (zs.take k) (a, t)).1), Value.int .i64 ((batch c now (zs.take k) (a, t)).2)] 25, Res.box blk2 [Value.int .i64 c, Value.int .i64 ((batch c now (zs.take k) (a, t)).1), Value.int .i64 ((batch c now (zs.take k) (a, t)).2)] 25])) [(7, Value.int .i64 ((batchN c now (zs.take k) (a, t) : Nat) : Int))] [.no] True (by kernel_rfl) trivial hS14 ?_
    refine l_nil rfl ?_
    refine then_n ?_
    refine wp_ret ?_
    have hkn2 : zs.take k = zs := take_all (by have := hr.len; omega)
    exact c_end (S := (fun x_ => St w x_ [Res.box blk4 [Value.int .i64 c, Value.int .i64 ((batch c now (zs.take k) (a, t)).1), Value.int .i64 ((batch c now (zs.take k) (a, t)).2)] 25, Res.box blk2 [Value.int .i64 c, Value.int .i64 ((batch c now (zs.take k) (a, t)).1), Value.int .i64 ((batch c now (zs.take k) (a, t)).2)] 25])) (rs := [.cell 6 25, .tmp 7]) rfl [Value.agg #[Value.int .i64 c, Value.int .i64 ((batch c now (zs.take k) (a, t)).1), Value.int .i64 ((batch c now (zs.take k) (a, t)).2)]] (v := Value.tuple #[Value.agg #[Value.int .i64 c, Value.int .i64 ((batch c now (zs.take k) (a, t)).1), Value.int .i64 ((batch c now (zs.take k) (a, t)).2)], Value.int .i64 ((batchN c now (zs.take k) (a, t) : Nat) : Int)]) (C := ((LoadsAt Try.prog (fun x_ => St w x_ [Res.box blk4 [Value.int .i64 c, Value.int .i64 ((batch c now (zs.take k) (a, t)).1), Value.int .i64 ((batch c now (zs.take k) (a, t)).2)] 25, Res.box blk2 [Value.int .i64 c, Value.int .i64 ((batch c now (zs.take k) (a, t)).1), Value.int .i64 ((batch c now (zs.take k) (a, t)).2)] 25]) 25 ⟨blk4, 0, none⟩ (Value.agg #[Value.int .i64 c, Value.int .i64 ((batch c now (zs.take k) (a, t)).1), Value.int .i64 ((batch c now (zs.take k) (a, t)).2)])))) (by kernel_rfl) (ld_boxN (i := 0) (k := 3) rfl rfl rfl (by kernel_rfl)) hS14 (hS14.rv (by rw [hkn2]))
theorem AdmitBatch_s_c (c a t now : Int) (A : Option Addr) (n cp : Nat) (zs : List Int) (w : World) (hc : I64 c) (ha : I64 a) (ht : I64 t) (hnow : I64 now) (hz : ∀ z ∈ zs, I64 z) (hn : n ≤ 1048576) (hr : Rd w w.heap.size A n (zs.map (Value.int .i64))) : Calls Try.prog 29 #[.agg #[.int .i64 c, .int .i64 a, .int .i64 t], .slice A n cp, .int .i64 now] w (RetV w (.tuple #[.agg #[.int .i64 c, .int .i64 (batch c now zs (a, t)).1, .int .i64 (batch c now zs (a, t)).2], .int .i64 ((batchN c now zs (a, t) : Nat) : Int)])) := by
  obtain ⟨hnow1, hnow2⟩ := hnow
  refine calls_FA Try.func29 rfl (n := 34) rfl (l := [(0, Value.agg #[Value.int .i64 c, Value.int .i64 a, Value.int .i64 t]), (1, Value.slice A n cp), (2, Value.int .i64 now)]) rfl (by simp) (fun g => ?_)
  have hS := St.init w
  refine wp_seq ?_
  refine c_reg ?_
  refine l_op rfl rfl (fun K hK => op_box (d := some 3) rfl rfl [Value.int .i64 c, Value.int .i64 a, Value.int .i64 t] (by kernel_rfl) hS (fun blk2 w1 hS1 => hK _ _ ?_))
  clear hK K
  refine l_op rfl rfl (fun K hK => op_alloc (d := some 6) rfl rfl [Value.int .i64 0, Value.int .i64 0, Value.int .i64 0] (by kernel_rfl) hS1 (fun blk4 w3 hS3 => hK _ _ ?_))
  clear hK K
  refine q_seg (S := (fun x_ => St w x_ [Res.box blk4 [Value.int .i64 0, Value.int .i64 0, Value.int .i64 0] 25, Res.box blk2 [Value.int .i64 c, Value.int .i64 a, Value.int .i64 t] 25])) [(7, Value.int .i64 0)] [.no] True (by kernel_rfl) trivial hS3 ?_
  refine l_nil rfl ?_
  refine then_n ?_
  refine wp_seq ?_
  refine c_reg ?_
  refine q_seg (S := (fun x_ => St w x_ [Res.box blk4 [Value.int .i64 0, Value.int .i64 0, Value.int .i64 0] 25, Res.box blk2 [Value.int .i64 c, Value.int .i64 a, Value.int .i64 t] 25])) [(8, Value.int .i64 0)] [.no] True (by kernel_rfl) trivial hS3 ?_
  refine l_nil rfl ?_
  refine then_n ?_
  refine wp_seq ?_
  refine wp_seq ?_
  refine c_reg ?_
  refine q_seg (S := (fun x_ => St w x_ [Res.box blk4 [Value.int .i64 0, Value.int .i64 0, Value.int .i64 0] 25, Res.box blk2 [Value.int .i64 c, Value.int .i64 a, Value.int .i64 t] 25])) [(9, Value.int .i64 0)] [.no] True (by kernel_rfl) trivial hS3 ?_
  refine l_nil rfl ?_
  refine then_n ?_
  refine wp_block ?_
  refine c_loop (X := Nat) (fun (k : Nat) => [(3, Value.pointer (some ⟨blk2, 0, none⟩)), (6, Value.pointer (some ⟨blk4, 0, none⟩)), (2, Value.int .i64 now), (8, Value.int .i64 ((batchN c now (zs.take k) (a, t) : Nat) : Int)), (1, Value.slice A n cp), (9, Value.int .i64 ((k : Nat) : Int))]) (fun (k : Nat) (wr : World) => (k ≤ n) ∧ St w wr [Res.box blk4 [Value.int .i64 0, Value.int .i64 0, Value.int .i64 0] 25, Res.box blk2 [Value.int .i64 c, Value.int .i64 ((batch c now (zs.take k) (a, t)).1), Value.int .i64 ((batch c now (zs.take k) (a, t)).2)] 25]) (fun (k : Nat) => n - k) 0 ?_ ?_ ?_
  · exact (agree_cons (by kernel_rfl) (agree_cons (by kernel_rfl) (agree_cons (by kernel_rfl) (agree_cons (by kernel_rfl) (agree_cons (by kernel_rfl) (agree_cons (by kernel_rfl) agree_nil))))))
  · exact ⟨Nat.zero_le _, hS3⟩
  rintro k g6 w5 ⟨hkn, hS5⟩
  have hbN := batchN_le c now (zs.take k) (a, t)
  have hbl := List.length_take_le k zs
  refine wp_seq ?_
  refine wp_seq ?_
  refine c_reg ?_
  refine q_seg (S := (fun x_ => St w x_ [Res.box blk4 [Value.int .i64 0, Value.int .i64 0, Value.int .i64 0] 25, Res.box blk2 [Value.int .i64 c, Value.int .i64 ((batch c now (zs.take k) (a, t)).1), Value.int .i64 ((batch c now (zs.take k) (a, t)).2)] 25])) [(15, Value.bool (decide (((k : Nat) : Int) < ((n : Nat) : Int)))), (14, Value.int .i64 ((n : Nat) : Int)), (13, Value.slice A n cp), (12, Value.int .i64 ((k : Nat) : Int))] [.no, .no, .no, .no] True (by kernel_rfl) trivial hS5 ?_
  refine l_nil rfl ?_
  refine then_n ?_
  rcases Bool.eq_false_or_eq_true (decide (((k : Nat) : Int) < ((n : Nat) : Int))) with hb7 | hb7
  · skip
    have hb7p := of_decide_eq_true hb7
    obtain ⟨b, off, rfl, hbB, hcl⟩ := hr.2 (by omega)
    obtain ⟨z, hzk, hzm⟩ := get_of_lt (l := zs) (k := k) (by have := hr.len; omega)
    obtain ⟨hz1, hz2⟩ := hz _ hzm
    refine c_true (b := (decide (((k : Nat) : Int) < ((n : Nat) : Int)))) (by kernel_rfl) hb7 ?_
    refine wp_skip ?_
    refine then_n ?_
    refine wp_seq ?_
    refine wp_block ?_
    refine wp_seq ?_
    refine c_cut (fun a_ w_ => ∃ (bkc111 : Nat) (g_ : Nat → Value), a_ = FA 34 [(1, Value.slice (some ⟨b, off, none⟩) n cp), (2, Value.int .i64 now), (3, Value.pointer (some ⟨blk2, 0, none⟩)), (6, Value.pointer (some ⟨blk4, 0, none⟩)), (8, Value.int .i64 ((batchN c now (zs.take k) (a, t) : Nat) : Int)), (9, Value.int .i64 ((k : Nat) : Int)), (10, Value.pointer (some ⟨bkc111, 0, none⟩)), (11, Value.bool ((admP c ((batch c now (zs.take k) (a, t)).1) ((batch c now (zs.take k) (a, t)).2) z now).2.2)), (12, Value.int .i64 ((k : Nat) : Int)), (13, Value.slice (some ⟨b, off, none⟩) n cp), (14, Value.int .i64 ((n : Nat) : Int)), (15, Value.bool (decide (((k : Nat) : Int) < ((n : Nat) : Int)))), (18, Value.tuple #[Value.agg #[Value.int .i64 c, Value.int .i64 ((admP c ((batch c now (zs.take k) (a, t)).1) ((batch c now (zs.take k) (a, t)).2) z now).1), Value.int .i64 ((admP c ((batch c now (zs.take k) (a, t)).1) ((batch c now (zs.take k) (a, t)).2) z now).2.1)], Value.bool ((admP c ((batch c now (zs.take k) (a, t)).1) ((batch c now (zs.take k) (a, t)).2) z now).2.2)]), (19, Value.agg #[Value.int .i64 c, Value.int .i64 ((batch c now (zs.take k) (a, t)).1), Value.int .i64 ((batch c now (zs.take k) (a, t)).2)]), (20, Value.slice (some ⟨b, off, none⟩) n cp), (21, Value.int .i64 ((k : Nat) : Int)), (22, Value.pointer (some ⟨b, off + Int.toNat ((k : Nat) : Int) * 1, none⟩)), (23, Value.int .i64 z), (24, Value.int .i64 now), (25, Value.tuple #[Value.agg #[Value.int .i64 c, Value.int .i64 ((admP c ((batch c now (zs.take k) (a, t)).1) ((batch c now (zs.take k) (a, t)).2) z now).1), Value.int .i64 ((admP c ((batch c now (zs.take k) (a, t)).1) ((batch c now (zs.take k) (a, t)).2) z now).2.1)], Value.bool ((admP c ((batch c now (zs.take k) (a, t)).1) ((batch c now (zs.take k) (a, t)).2) z now).2.2)]), (26, Value.agg #[Value.int .i64 c, Value.int .i64 ((admP c ((batch c now (zs.take k) (a, t)).1) ((batch c now (zs.take k) (a, t)).2) z now).1), Value.int .i64 ((admP c ((batch c now (zs.take k) (a, t)).1) ((batch c now (zs.take k) (a, t)).2) z now).2.1)]), (27, Value.bool ((admP c ((batch c now (zs.take k) (a, t)).1) ((batch c now (zs.take k) (a, t)).2) z now).2.2))] g_ ∧ St w w_ [Res.box bkc111 [Value.int .i64 c, Value.int .i64 ((admP c ((batch c now (zs.take k) (a, t)).1) ((batch c now (zs.take k) (a, t)).2) z now).1), Value.int .i64 ((admP c ((batch c now (zs.take k) (a, t)).1) ((batch c now (zs.take k) (a, t)).2) z now).2.1)] 25, Res.box blk4 [Value.int .i64 0, Value.int .i64 0, Value.int .i64 0] 25, Res.box blk2 [Value.int .i64 c, Value.int .i64 ((batch c now (zs.take k) (a, t)).1), Value.int .i64 ((batch c now (zs.take k) (a, t)).2)] 25]) ?_ ?_
    · skip
      refine c_drawn [] (by kernel_rfl) hS5 (fun w8 hS8 => ?_)
      refine t_seg (S := (fun x_ => St w x_ [Res.box blk4 [Value.int .i64 0, Value.int .i64 0, Value.int .i64 0] 25, Res.box blk2 [Value.int .i64 c, Value.int .i64 ((batch c now (zs.take k) (a, t)).1), Value.int .i64 ((batch c now (zs.take k) (a, t)).2)] 25])) [(0, .v (Value.agg #[Value.int .i64 c, Value.int .i64 ((batch c now (zs.take k) (a, t)).1), Value.int .i64 ((batch c now (zs.take k) (a, t)).2)])), (1, .no), (2, .no), (5, .no), (3, .no), (4, .v (Value.int .i64 z))] 7 #[true, true, true, true, true, true, false, false, false, false, false, false, false] [(23, Value.int .i64 z), (22, Value.pointer (some ⟨b, off + Int.toNat ((k : Nat) : Int) * 1, none⟩)), (24, Value.int .i64 now), (21, Value.int .i64 ((k : Nat) : Int)), (20, Value.slice (some ⟨b, off, none⟩) n cp), (19, Value.agg #[Value.int .i64 c, Value.int .i64 ((batch c now (zs.take k) (a, t)).1), Value.int .i64 ((batch c now (zs.take k) (a, t)).2)])] ((LoadsAt Try.prog (fun x_ => St w x_ [Res.box blk4 [Value.int .i64 0, Value.int .i64 0, Value.int .i64 0] 25, Res.box blk2 [Value.int .i64 c, Value.int .i64 ((batch c now (zs.take k) (a, t)).1), Value.int .i64 ((batch c now (zs.take k) (a, t)).2)] 25]) 25 ⟨blk2, 0, none⟩ (Value.agg #[Value.int .i64 c, Value.int .i64 ((batch c now (zs.take k) (a, t)).1), Value.int .i64 ((batch c now (zs.take k) (a, t)).2)])) ∧ ((0 : Int) ≤ ((k : Nat) : Int)) ∧ (((k : Nat) : Int) < ((n : Nat) : Int)) ∧ (LoadsAt Try.prog (fun x_ => St w x_ [Res.box blk4 [Value.int .i64 0, Value.int .i64 0, Value.int .i64 0] 25, Res.box blk2 [Value.int .i64 c, Value.int .i64 ((batch c now (zs.take k) (a, t)).1), Value.int .i64 ((batch c now (zs.take k) (a, t)).2)] 25]) 3 ⟨b, off + Int.toNat ((k : Nat) : Int) * 1, none⟩ (Value.int .i64 z))) (by kernel_rfl) (Qpanic.then (Qpanic.then (Qpanic.block (Qpanic.then (Qpanic.then (Qpanic.block (Qpanic.then Qpanic.bp))))))) rfl (by kernel_rfl) ⟨(ld_boxN (i := 1) (k := 3) rfl rfl rfl (by kernel_rfl)), (by omega), (by omega), (ld_low (hcl _ _ (by simp [hzk])) (by kernel_rfl))⟩ hS8 ?_
      refine a_op2 (i := 6) (j := 10) (fuel := 6) (li := #[true, true, true, true, true, true, true, false, false, false, false, false, false]) (lj := #[true, true, true, true, true, true, false, false, false, false, true, false, false]) rfl rfl rfl (by kernel_rfl) (by kernel_rfl) (by kernel_rfl) rfl rfl ?_ ?_
      · intro K hK
        refine op_callv (d := some 25) rfl rfl ⟨_, Try.func21, by kernel_rfl, by kernel_rfl⟩ (vs := [Value.agg #[Value.int .i64 c, Value.int .i64 ((batch c now (zs.take k) (a, t)).1), Value.int .i64 ((batch c now (zs.take k) (a, t)).2)], Value.int .i64 z, Value.int .i64 now]) (by kernel_rfl) (v := Value.tuple #[Value.agg #[Value.int .i64 c, Value.int .i64 ((admP c ((batch c now (zs.take k) (a, t)).1) ((batch c now (zs.take k) (a, t)).2) z now).1), Value.int .i64 ((admP c ((batch c now (zs.take k) (a, t)).1) ((batch c now (zs.take k) (a, t)).2) z now).2.1)], Value.bool ((admP c ((batch c now (zs.take k) (a, t)).1) ((batch c now (zs.take k) (a, t)).2) z now).2.2)]) (AdmitRequest_s_c c ((batch c now (zs.take k) (a, t)).1) ((batch c now (zs.take k) (a, t)).2) z now  _) hS8 (fun w9 hS9 => (hK _ _ (fun _ => hS9) ?_))
        clear hK K
        refine t_seg (S := (fun x_ => St w x_ [Res.box blk4 [Value.int .i64 0, Value.int .i64 0, Value.int .i64 0] 25, Res.box blk2 [Value.int .i64 c, Value.int .i64 ((batch c now (zs.take k) (a, t)).1), Value.int .i64 ((batch c now (zs.take k) (a, t)).2)] 25])) [(7, .no), (8, .no), (9, .no)] 3 #[true, true, true, true, true, true, true, true, true, true, false, false, false] [(27, Value.bool ((admP c ((batch c now (zs.take k) (a, t)).1) ((batch c now (zs.take k) (a, t)).2) z now).2.2)), (26, Value.agg #[Value.int .i64 c, Value.int .i64 ((admP c ((batch c now (zs.take k) (a, t)).1) ((batch c now (zs.take k) (a, t)).2) z now).1), Value.int .i64 ((admP c ((batch c now (zs.take k) (a, t)).1) ((batch c now (zs.take k) (a, t)).2) z now).2.1)]), (18, Value.tuple #[Value.agg #[Value.int .i64 c, Value.int .i64 ((admP c ((batch c now (zs.take k) (a, t)).1) ((batch c now (zs.take k) (a, t)).2) z now).1), Value.int .i64 ((admP c ((batch c now (zs.take k) (a, t)).1) ((batch c now (zs.take k) (a, t)).2) z now).2.1)], Value.bool ((admP c ((batch c now (zs.take k) (a, t)).1) ((batch c now (zs.take k) (a, t)).2) z now).2.2)])] True (by kernel_rfl) (Qpanic.then (Qpanic.then (Qpanic.block (Qpanic.then (Qpanic.then (Qpanic.block (Qpanic.then Qpanic.bp))))))) rfl (by kernel_rfl) trivial hS9 ?_
        refine a_op (i := 10) (fuel := 2) (listed' := #[true, true, true, true, true, true, true, true, true, true, true, false, false]) rfl rfl (by kernel_rfl) (by kernel_rfl) rfl (fun K hK => op_alloc (d := some 10) rfl rfl [Value.int .i64 0, Value.int .i64 0, Value.int .i64 0] (by kernel_rfl) hS9 (fun blk11 w10 hS10 => hK _ _ (fun _ => hS10.drop) ?_))
        clear hK K
        refine a_op (i := 11) (fuel := 1) (listed' := #[true, true, true, true, true, true, true, true, true, true, true, true, false]) rfl rfl (by kernel_rfl) (by kernel_rfl) rfl (fun K hK => op_store (d := none) rfl rfl (i := 0) (b := blk11) (off := 0) (cs := [Value.int .i64 0, Value.int .i64 0, Value.int .i64 0]) (bt := 25) (by kernel_rfl) (by kernel_rfl) [Value.int .i64 c, Value.int .i64 ((admP c ((batch c now (zs.take k) (a, t)).1) ((batch c now (zs.take k) (a, t)).2) z now).1), Value.int .i64 ((admP c ((batch c now (zs.take k) (a, t)).1) ((batch c now (zs.take k) (a, t)).2) z now).2.1)] (by kernel_rfl) (by kernel_rfl) (Nat.le_of_ble_eq_true (by kernel_rfl)) (by kernel_rfl) [Res.box blk11 [Value.int .i64 c, Value.int .i64 ((admP c ((batch c now (zs.take k) (a, t)).1) ((batch c now (zs.take k) (a, t)).2) z now).1), Value.int .i64 ((admP c ((batch c now (zs.take k) (a, t)).1) ((batch c now (zs.take k) (a, t)).2) z now).2.1)] 25, Res.box blk4 [Value.int .i64 0, Value.int .i64 0, Value.int .i64 0] 25, Res.box blk2 [Value.int .i64 c, Value.int .i64 ((batch c now (zs.take k) (a, t)).1), Value.int .i64 ((batch c now (zs.take k) (a, t)).2)] 25] (by kernel_rfl) hS10 (fun w12 hS12 => hK _ _ (fun _ => hS12.drop) ?_))
        clear hK K
        refine t_seg (S := (fun x_ => St w x_ [Res.box blk4 [Value.int .i64 0, Value.int .i64 0, Value.int .i64 0] 25, Res.box blk2 [Value.int .i64 c, Value.int .i64 ((batch c now (zs.take k) (a, t)).1), Value.int .i64 ((batch c now (zs.take k) (a, t)).2)] 25])) [(12, .no)] 0 #[true, true, true, true, true, true, true, true, true, true, true, true, true] [(11, Value.bool ((admP c ((batch c now (zs.take k) (a, t)).1) ((batch c now (zs.take k) (a, t)).2) z now).2.2))] True (by kernel_rfl) (Qpanic.then (Qpanic.then (Qpanic.block (Qpanic.then (Qpanic.then (Qpanic.block (Qpanic.then Qpanic.bp))))))) rfl (by kernel_rfl) trivial (hS12.drop) ?_
        refine a_done (by kernel_rfl) ?_
        refine then_n ?_
        exact ⟨blk11, _, FA_reset _ (agree_cons (by kernel_rfl) (agree_cons (by kernel_rfl) (agree_cons (by kernel_rfl) (agree_cons (by kernel_rfl) (agree_cons (by kernel_rfl) (agree_cons (by kernel_rfl) (agree_cons (by kernel_rfl) (agree_cons (by kernel_rfl) (agree_cons (by kernel_rfl) (agree_cons (by kernel_rfl) (agree_cons (by kernel_rfl) (agree_cons (by kernel_rfl) (agree_cons (by kernel_rfl) (agree_cons (by kernel_rfl) (agree_cons (by kernel_rfl) (agree_cons (by kernel_rfl) (agree_cons (by kernel_rfl) (agree_cons (by kernel_rfl) (agree_cons (by kernel_rfl) (agree_cons (by kernel_rfl) (agree_cons (by kernel_rfl) (agree_cons (by kernel_rfl) agree_nil)))))))))))))))))))))), hS12⟩
      · intro K hK
        refine op_alloc (d := some 10) rfl rfl [Value.int .i64 0, Value.int .i64 0, Value.int .i64 0] (by kernel_rfl) hS8 (fun blk14 w13 hS13 => (hK _ _ (fun _ => hS13.drop) ?_))
        clear hK K
        refine a_op (i := 6) (fuel := 5) (listed' := #[true, true, true, true, true, true, true, false, false, false, true, false, false]) rfl rfl (by kernel_rfl) (by kernel_rfl) rfl (fun K hK => op_callv (d := some 25) rfl rfl ⟨_, Try.func21, by kernel_rfl, by kernel_rfl⟩ (vs := [Value.agg #[Value.int .i64 c, Value.int .i64 ((batch c now (zs.take k) (a, t)).1), Value.int .i64 ((batch c now (zs.take k) (a, t)).2)], Value.int .i64 z, Value.int .i64 now]) (by kernel_rfl) (v := Value.tuple #[Value.agg #[Value.int .i64 c, Value.int .i64 ((admP c ((batch c now (zs.take k) (a, t)).1) ((batch c now (zs.take k) (a, t)).2) z now).1), Value.int .i64 ((admP c ((batch c now (zs.take k) (a, t)).1) ((batch c now (zs.take k) (a, t)).2) z now).2.1)], Value.bool ((admP c ((batch c now (zs.take k) (a, t)).1) ((batch c now (zs.take k) (a, t)).2) z now).2.2)]) (AdmitRequest_s_c c ((batch c now (zs.take k) (a, t)).1) ((batch c now (zs.take k) (a, t)).2) z now  _) hS13 (fun w15 hS15 => hK _ _ (fun _ => hS15.drop) ?_))
        clear hK K
        refine t_seg (S := (fun x_ => St w x_ [Res.box blk4 [Value.int .i64 0, Value.int .i64 0, Value.int .i64 0] 25, Res.box blk2 [Value.int .i64 c, Value.int .i64 ((batch c now (zs.take k) (a, t)).1), Value.int .i64 ((batch c now (zs.take k) (a, t)).2)] 25])) [(7, .no), (8, .no), (9, .no)] 2 #[true, true, true, true, true, true, true, true, true, true, true, false, false] [(27, Value.bool ((admP c ((batch c now (zs.take k) (a, t)).1) ((batch c now (zs.take k) (a, t)).2) z now).2.2)), (26, Value.agg #[Value.int .i64 c, Value.int .i64 ((admP c ((batch c now (zs.take k) (a, t)).1) ((batch c now (zs.take k) (a, t)).2) z now).1), Value.int .i64 ((admP c ((batch c now (zs.take k) (a, t)).1) ((batch c now (zs.take k) (a, t)).2) z now).2.1)]), (18, Value.tuple #[Value.agg #[Value.int .i64 c, Value.int .i64 ((admP c ((batch c now (zs.take k) (a, t)).1) ((batch c now (zs.take k) (a, t)).2) z now).1), Value.int .i64 ((admP c ((batch c now (zs.take k) (a, t)).1) ((batch c now (zs.take k) (a, t)).2) z now).2.1)], Value.bool ((admP c ((batch c now (zs.take k) (a, t)).1) ((batch c now (zs.take k) (a, t)).2) z now).2.2)])] True (by kernel_rfl) (Qpanic.then (Qpanic.then (Qpanic.block (Qpanic.then (Qpanic.then (Qpanic.block (Qpanic.then Qpanic.bp))))))) rfl (by kernel_rfl) trivial (hS15.drop) ?_
        refine a_op (i := 11) (fuel := 1) (listed' := #[true, true, true, true, true, true, true, true, true, true, true, true, false]) rfl rfl (by kernel_rfl) (by kernel_rfl) rfl (fun K hK => op_store (d := none) rfl rfl (i := 0) (b := blk14) (off := 0) (cs := [Value.int .i64 0, Value.int .i64 0, Value.int .i64 0]) (bt := 25) (by kernel_rfl) (by kernel_rfl) [Value.int .i64 c, Value.int .i64 ((admP c ((batch c now (zs.take k) (a, t)).1) ((batch c now (zs.take k) (a, t)).2) z now).1), Value.int .i64 ((admP c ((batch c now (zs.take k) (a, t)).1) ((batch c now (zs.take k) (a, t)).2) z now).2.1)] (by kernel_rfl) (by kernel_rfl) (Nat.le_of_ble_eq_true (by kernel_rfl)) (by kernel_rfl) [Res.box blk14 [Value.int .i64 c, Value.int .i64 ((admP c ((batch c now (zs.take k) (a, t)).1) ((batch c now (zs.take k) (a, t)).2) z now).1), Value.int .i64 ((admP c ((batch c now (zs.take k) (a, t)).1) ((batch c now (zs.take k) (a, t)).2) z now).2.1)] 25, Res.box blk4 [Value.int .i64 0, Value.int .i64 0, Value.int .i64 0] 25, Res.box blk2 [Value.int .i64 c, Value.int .i64 ((batch c now (zs.take k) (a, t)).1), Value.int .i64 ((batch c now (zs.take k) (a, t)).2)] 25] (by kernel_rfl) hS15 (fun w16 hS16 => hK _ _ (fun _ => hS16.drop) ?_))
        clear hK K
        refine t_seg (S := (fun x_ => St w x_ [Res.box blk4 [Value.int .i64 0, Value.int .i64 0, Value.int .i64 0] 25, Res.box blk2 [Value.int .i64 c, Value.int .i64 ((batch c now (zs.take k) (a, t)).1), Value.int .i64 ((batch c now (zs.take k) (a, t)).2)] 25])) [(12, .no)] 0 #[true, true, true, true, true, true, true, true, true, true, true, true, true] [(11, Value.bool ((admP c ((batch c now (zs.take k) (a, t)).1) ((batch c now (zs.take k) (a, t)).2) z now).2.2))] True (by kernel_rfl) (Qpanic.then (Qpanic.then (Qpanic.block (Qpanic.then (Qpanic.then (Qpanic.block (Qpanic.then Qpanic.bp))))))) rfl (by kernel_rfl) trivial (hS16.drop) ?_
        refine a_done (by kernel_rfl) ?_
        refine then_n ?_
        exact ⟨blk14, _, FA_reset _ (agree_cons (by kernel_rfl) (agree_cons (by kernel_rfl) (agree_cons (by kernel_rfl) (agree_cons (by kernel_rfl) (agree_cons (by kernel_rfl) (agree_cons (by kernel_rfl) (agree_cons (by kernel_rfl) (agree_cons (by kernel_rfl) (agree_cons (by kernel_rfl) (agree_cons (by kernel_rfl) (agree_cons (by kernel_rfl) (agree_cons (by kernel_rfl) (agree_cons (by kernel_rfl) (agree_cons (by kernel_rfl) (agree_cons (by kernel_rfl) (agree_cons (by kernel_rfl) (agree_cons (by kernel_rfl) (agree_cons (by kernel_rfl) (agree_cons (by kernel_rfl) (agree_cons (by kernel_rfl) (agree_cons (by kernel_rfl) (agree_cons (by kernel_rfl) agree_nil)))))))))))))))))))))), hS16⟩
    · skip
      rintro _ w17 ⟨bkc111, g18, rfl, hS17⟩
      refine then_n ?_
      refine wp_seq ?_
      refine c_reg ?_
      refine q_seg (S := (fun x_ => St w x_ [Res.box bkc111 [Value.int .i64 c, Value.int .i64 ((admP c ((batch c now (zs.take k) (a, t)).1) ((batch c now (zs.take k) (a, t)).2) z now).1), Value.int .i64 ((admP c ((batch c now (zs.take k) (a, t)).1) ((batch c now (zs.take k) (a, t)).2) z now).2.1)] 25, Res.box blk4 [Value.int .i64 0, Value.int .i64 0, Value.int .i64 0] 25, Res.box blk2 [Value.int .i64 c, Value.int .i64 ((batch c now (zs.take k) (a, t)).1), Value.int .i64 ((batch c now (zs.take k) (a, t)).2)] 25])) [(28, Value.agg #[Value.int .i64 c, Value.int .i64 ((admP c ((batch c now (zs.take k) (a, t)).1) ((batch c now (zs.take k) (a, t)).2) z now).1), Value.int .i64 ((admP c ((batch c now (zs.take k) (a, t)).1) ((batch c now (zs.take k) (a, t)).2) z now).2.1)])] [.v (Value.agg #[Value.int .i64 c, Value.int .i64 ((admP c ((batch c now (zs.take k) (a, t)).1) ((batch c now (zs.take k) (a, t)).2) z now).1), Value.int .i64 ((admP c ((batch c now (zs.take k) (a, t)).1) ((batch c now (zs.take k) (a, t)).2) z now).2.1)])] ((LoadsAt Try.prog (fun x_ => St w x_ [Res.box bkc111 [Value.int .i64 c, Value.int .i64 ((admP c ((batch c now (zs.take k) (a, t)).1) ((batch c now (zs.take k) (a, t)).2) z now).1), Value.int .i64 ((admP c ((batch c now (zs.take k) (a, t)).1) ((batch c now (zs.take k) (a, t)).2) z now).2.1)] 25, Res.box blk4 [Value.int .i64 0, Value.int .i64 0, Value.int .i64 0] 25, Res.box blk2 [Value.int .i64 c, Value.int .i64 ((batch c now (zs.take k) (a, t)).1), Value.int .i64 ((batch c now (zs.take k) (a, t)).2)] 25]) 25 ⟨bkc111, 0, none⟩ (Value.agg #[Value.int .i64 c, Value.int .i64 ((admP c ((batch c now (zs.take k) (a, t)).1) ((batch c now (zs.take k) (a, t)).2) z now).1), Value.int .i64 ((admP c ((batch c now (zs.take k) (a, t)).1) ((batch c now (zs.take k) (a, t)).2) z now).2.1)]))) (by kernel_rfl) (ld_boxN (i := 0) (k := 3) rfl rfl rfl (by kernel_rfl)) hS17 ?_
      refine l_op rfl rfl (fun K hK => op_store (d := none) rfl rfl (i := 2) (b := blk2) (off := 0) (cs := [Value.int .i64 c, Value.int .i64 ((batch c now (zs.take k) (a, t)).1), Value.int .i64 ((batch c now (zs.take k) (a, t)).2)]) (bt := 25) (by kernel_rfl) (by kernel_rfl) [Value.int .i64 c, Value.int .i64 ((admP c ((batch c now (zs.take k) (a, t)).1) ((batch c now (zs.take k) (a, t)).2) z now).1), Value.int .i64 ((admP c ((batch c now (zs.take k) (a, t)).1) ((batch c now (zs.take k) (a, t)).2) z now).2.1)] (by kernel_rfl) (by kernel_rfl) (Nat.le_of_ble_eq_true (by kernel_rfl)) (by kernel_rfl) [Res.box bkc111 [Value.int .i64 c, Value.int .i64 ((admP c ((batch c now (zs.take k) (a, t)).1) ((batch c now (zs.take k) (a, t)).2) z now).1), Value.int .i64 ((admP c ((batch c now (zs.take k) (a, t)).1) ((batch c now (zs.take k) (a, t)).2) z now).2.1)] 25, Res.box blk4 [Value.int .i64 0, Value.int .i64 0, Value.int .i64 0] 25, Res.box blk2 [Value.int .i64 c, Value.int .i64 ((admP c ((batch c now (zs.take k) (a, t)).1) ((batch c now (zs.take k) (a, t)).2) z now).1), Value.int .i64 ((admP c ((batch c now (zs.take k) (a, t)).1) ((batch c now (zs.take k) (a, t)).2) z now).2.1)] 25] (by kernel_rfl) hS17 (fun w19 hS19 => hK _ _ ?_))
      clear hK K
      refine l_nil rfl ?_
      refine then_n ?_
      refine wp_seq ?_
      refine c_reg ?_
      refine q_seg (S := (fun x_ => St w x_ [Res.box bkc111 [Value.int .i64 c, Value.int .i64 ((admP c ((batch c now (zs.take k) (a, t)).1) ((batch c now (zs.take k) (a, t)).2) z now).1), Value.int .i64 ((admP c ((batch c now (zs.take k) (a, t)).1) ((batch c now (zs.take k) (a, t)).2) z now).2.1)] 25, Res.box blk4 [Value.int .i64 0, Value.int .i64 0, Value.int .i64 0] 25, Res.box blk2 [Value.int .i64 c, Value.int .i64 ((admP c ((batch c now (zs.take k) (a, t)).1) ((batch c now (zs.take k) (a, t)).2) z now).1), Value.int .i64 ((admP c ((batch c now (zs.take k) (a, t)).1) ((batch c now (zs.take k) (a, t)).2) z now).2.1)] 25])) [(29, Value.bool ((admP c ((batch c now (zs.take k) (a, t)).1) ((batch c now (zs.take k) (a, t)).2) z now).2.2))] [.no] True (by kernel_rfl) trivial hS19 ?_
      refine l_nil rfl ?_
      refine then_n ?_
      rcases Bool.eq_false_or_eq_true ((admP c ((batch c now (zs.take k) (a, t)).1) ((batch c now (zs.take k) (a, t)).2) z now).2.2) with hb20 | hb20
      · skip
        refine c_true (b := ((admP c ((batch c now (zs.take k) (a, t)).1) ((batch c now (zs.take k) (a, t)).2) z now).2.2)) (by kernel_rfl) hb20 ?_
        refine c_reg ?_
        refine q_seg (S := (fun x_ => St w x_ [Res.box bkc111 [Value.int .i64 c, Value.int .i64 ((admP c ((batch c now (zs.take k) (a, t)).1) ((batch c now (zs.take k) (a, t)).2) z now).1), Value.int .i64 ((admP c ((batch c now (zs.take k) (a, t)).1) ((batch c now (zs.take k) (a, t)).2) z now).2.1)] 25, Res.box blk4 [Value.int .i64 0, Value.int .i64 0, Value.int .i64 0] 25, Res.box blk2 [Value.int .i64 c, Value.int .i64 ((admP c ((batch c now (zs.take k) (a, t)).1) ((batch c now (zs.take k) (a, t)).2) z now).1), Value.int .i64 ((admP c ((batch c now (zs.take k) (a, t)).1) ((batch c now (zs.take k) (a, t)).2) z now).2.1)] 25])) [(8, Value.int .i64 (((batchN c now (zs.take k) (a, t) : Nat) : Int) + (1 : Int))), (31, Value.int .i64 (((batchN c now (zs.take k) (a, t) : Nat) : Int) + (1 : Int))), (30, Value.int .i64 ((batchN c now (zs.take k) (a, t) : Nat) : Int))] [.no, .no, .no] ((InK .i64 (((batchN c now (zs.take k) (a, t) : Nat) : Int) + (1 : Int)))) (by kernel_rfl) (in64 (by omega) (by omega)) hS19 ?_
        refine l_nil rfl ?_
        refine blk_n ?_
        refine then_n ?_
        refine c_reg ?_
        refine q_seg (S := (fun x_ => St w x_ [Res.box bkc111 [Value.int .i64 c, Value.int .i64 ((admP c ((batch c now (zs.take k) (a, t)).1) ((batch c now (zs.take k) (a, t)).2) z now).1), Value.int .i64 ((admP c ((batch c now (zs.take k) (a, t)).1) ((batch c now (zs.take k) (a, t)).2) z now).2.1)] 25, Res.box blk4 [Value.int .i64 0, Value.int .i64 0, Value.int .i64 0] 25, Res.box blk2 [Value.int .i64 c, Value.int .i64 ((admP c ((batch c now (zs.take k) (a, t)).1) ((batch c now (zs.take k) (a, t)).2) z now).1), Value.int .i64 ((admP c ((batch c now (zs.take k) (a, t)).1) ((batch c now (zs.take k) (a, t)).2) z now).2.1)] 25])) [(9, Value.int .i64 (((k : Nat) : Int) + (1 : Int))), (17, Value.int .i64 (((k : Nat) : Int) + (1 : Int))), (16, Value.int .i64 ((k : Nat) : Int))] [.no, .no, .no] ((InK .i64 (((k : Nat) : Int) + (1 : Int)))) (by kernel_rfl) (in64 (by omega) (by omega)) hS19 ?_
        refine l_nil rfl ?_
        refine then_n ?_
        have hSe := hS19.drop
        refine round_end (k + 1) ?_ ?_ ?_
        · exact (agree_cons (by kernel_rfl) (agree_cons (by kernel_rfl) (agree_cons (by kernel_rfl) (agree_eq (v0 := Value.int .i64 (((batchN c now (zs.take k) (a, t) : Nat) : Int) + (1 : Int))) (by kernel_rfl) (congrArg (Value.int .i64) (by rw [take_get hzk, batchN_snoc, hb20]; simp)) (agree_cons (by kernel_rfl) (agree_cons (by kernel_rfl) agree_nil))))))
        · exact ⟨(by omega), (hSe.eqv (by rw [take_get hzk, batch_snoc]))⟩
        · exact (by first | omega | (dsimp only; omega))
      · skip
        refine c_false (b := ((admP c ((batch c now (zs.take k) (a, t)).1) ((batch c now (zs.take k) (a, t)).2) z now).2.2)) (by kernel_rfl) hb20 ?_
        refine wp_skip ?_
        refine blk_n ?_
        refine then_n ?_
        refine c_reg ?_
        refine q_seg (S := (fun x_ => St w x_ [Res.box bkc111 [Value.int .i64 c, Value.int .i64 ((admP c ((batch c now (zs.take k) (a, t)).1) ((batch c now (zs.take k) (a, t)).2) z now).1), Value.int .i64 ((admP c ((batch c now (zs.take k) (a, t)).1) ((batch c now (zs.take k) (a, t)).2) z now).2.1)] 25, Res.box blk4 [Value.int .i64 0, Value.int .i64 0, Value.int .i64 0] 25, Res.box blk2 [Value.int .i64 c, Value.int .i64 ((admP c ((batch c now (zs.take k) (a, t)).1) ((batch c now (zs.take k) (a, t)).2) z now).1), Value.int .i64 ((admP c ((batch c now (zs.take k) (a, t)).1) ((batch c now (zs.take k) (a, t)).2) z now).2.1)] 25])) [(9, Value.int .i64 (((k : Nat) : Int) + (1 : Int))), (17, Value.int .i64 (((k : Nat) : Int) + (1 : Int))), (16, Value.int .i64 ((k : Nat) : Int))] [.no, .no, .no] ((InK .i64 (((k : Nat) : Int) + (1 : Int)))) (by kernel_rfl) (in64 (by omega) (by omega)) hS19 ?_
        refine l_nil rfl ?_
        refine then_n ?_
        have hSe := hS19.drop
        refine round_end (k + 1) ?_ ?_ ?_
        · exact (agree_cons (by kernel_rfl) (agree_cons (by kernel_rfl) (agree_cons (by kernel_rfl) (agree_eq (v0 := Value.int .i64 ((batchN c now (zs.take k) (a, t) : Nat) : Int)) (by kernel_rfl) (congrArg (Value.int .i64) (by rw [take_get hzk, batchN_snoc, hb20]; simp)) (agree_cons (by kernel_rfl) (agree_cons (by kernel_rfl) agree_nil))))))
        · exact ⟨(by omega), (hSe.eqv (by rw [take_get hzk, batch_snoc]))⟩
        · exact (by first | omega | (dsimp only; omega))
  · skip
    have hb7p := of_decide_eq_false hb7
    refine c_false (b := (decide (((k : Nat) : Int) < ((n : Nat) : Int)))) (by kernel_rfl) hb7 ?_
    refine wp_exit ?_
    refine then_x ?_
    refine then_x ?_
    refine blk_hit ?_
    refine then_n ?_
    refine wp_seq ?_
    refine c_reg ?_
    refine q_seg (S := (fun x_ => St w x_ [Res.box blk4 [Value.int .i64 0, Value.int .i64 0, Value.int .i64 0] 25, Res.box blk2 [Value.int .i64 c, Value.int .i64 ((batch c now (zs.take k) (a, t)).1), Value.int .i64 ((batch c now (zs.take k) (a, t)).2)] 25])) [(33, Value.int .i64 ((batchN c now (zs.take k) (a, t) : Nat) : Int)), (32, Value.agg #[Value.int .i64 c, Value.int .i64 ((batch c now (zs.take k) (a, t)).1), Value.int .i64 ((batch c now (zs.take k) (a, t)).2)])] [.v (Value.agg #[Value.int .i64 c, Value.int .i64 ((batch c now (zs.take k) (a, t)).1), Value.int .i64 ((batch c now (zs.take k) (a, t)).2)]), .no] ((LoadsAt Try.prog (fun x_ => St w x_ [Res.box blk4 [Value.int .i64 0, Value.int .i64 0, Value.int .i64 0] 25, Res.box blk2 [Value.int .i64 c, Value.int .i64 ((batch c now (zs.take k) (a, t)).1), Value.int .i64 ((batch c now (zs.take k) (a, t)).2)] 25]) 25 ⟨blk2, 0, none⟩ (Value.agg #[Value.int .i64 c, Value.int .i64 ((batch c now (zs.take k) (a, t)).1), Value.int .i64 ((batch c now (zs.take k) (a, t)).2)]))) (by kernel_rfl) (ld_boxN (i := 1) (k := 3) rfl rfl rfl (by kernel_rfl)) hS5 ?_
    refine l_op rfl rfl (fun K hK => op_store (d := none) rfl rfl (i := 0) (b := blk4) (off := 0) (cs := [Value.int .i64 0, Value.int .i64 0, Value.int .i64 0]) (bt := 25) (by kernel_rfl) (by kernel_rfl) [Value.int .i64 c, Value.int .i64 ((batch c now (zs.take k) (a, t)).1), Value.int .i64 ((batch c now (zs.take k) (a, t)).2)] (by kernel_rfl) (by kernel_rfl) (Nat.le_of_ble_eq_true (by kernel_rfl)) (by kernel_rfl) [Res.box blk4 [Value.int .i64 c, Value.int .i64 ((batch c now (zs.take k) (a, t)).1), Value.int .i64 ((batch c now (zs.take k) (a, t)).2)] 25, Res.box blk2 [Value.int .i64 c, Value.int .i64 ((batch c now (zs.take k) (a, t)).1), Value.int .i64 ((batch c now (zs.take k) (a, t)).2)] 25] (by kernel_rfl) hS5 (fun w21 hS21 => hK _ _ ?_))
    clear hK K
    refine q_seg (S := (fun x_ => St w x_ [Res.box blk4 [Value.int .i64 c, Value.int .i64 ((batch c now (zs.take k) (a, t)).1), Value.int .i64 ((batch c now (zs.take k) (a, t)).2)] 25, Res.box blk2 [Value.int .i64 c, Value.int .i64 ((batch c now (zs.take k) (a, t)).1), Value.int .i64 ((batch c now (zs.take k) (a, t)).2)] 25])) [(7, Value.int .i64 ((batchN c now (zs.take k) (a, t) : Nat) : Int))] [.no] True (by kernel_rfl) trivial hS21 ?_
    refine l_nil rfl ?_
    refine then_n ?_
    refine wp_ret ?_
    have hkn2 : zs.take k = zs := take_all (by have := hr.len; omega)
    exact c_end (S := (fun x_ => St w x_ [Res.box blk4 [Value.int .i64 c, Value.int .i64 ((batch c now (zs.take k) (a, t)).1), Value.int .i64 ((batch c now (zs.take k) (a, t)).2)] 25, Res.box blk2 [Value.int .i64 c, Value.int .i64 ((batch c now (zs.take k) (a, t)).1), Value.int .i64 ((batch c now (zs.take k) (a, t)).2)] 25])) (rs := [.cell 6 25, .tmp 7]) rfl [Value.agg #[Value.int .i64 c, Value.int .i64 ((batch c now (zs.take k) (a, t)).1), Value.int .i64 ((batch c now (zs.take k) (a, t)).2)]] (v := Value.tuple #[Value.agg #[Value.int .i64 c, Value.int .i64 ((batch c now (zs.take k) (a, t)).1), Value.int .i64 ((batch c now (zs.take k) (a, t)).2)], Value.int .i64 ((batchN c now (zs.take k) (a, t) : Nat) : Int)]) (C := ((LoadsAt Try.prog (fun x_ => St w x_ [Res.box blk4 [Value.int .i64 c, Value.int .i64 ((batch c now (zs.take k) (a, t)).1), Value.int .i64 ((batch c now (zs.take k) (a, t)).2)] 25, Res.box blk2 [Value.int .i64 c, Value.int .i64 ((batch c now (zs.take k) (a, t)).1), Value.int .i64 ((batch c now (zs.take k) (a, t)).2)] 25]) 25 ⟨blk4, 0, none⟩ (Value.agg #[Value.int .i64 c, Value.int .i64 ((batch c now (zs.take k) (a, t)).1), Value.int .i64 ((batch c now (zs.take k) (a, t)).2)])))) (by kernel_rfl) (ld_boxN (i := 0) (k := 3) rfl rfl rfl (by kernel_rfl)) hS21 (hS21.rv (by rw [hkn2]))
theorem RejectedRequests_i_c (c a t now : Int) (A : Option Addr) (n cp : Nat) (zs : List Int) (w : World) (hc : I64 c) (ha : I64 a) (ht : I64 t) (hnow : I64 now) (hz : ∀ z ∈ zs, I64 z) (hn : n ≤ 1048576) (hr : Rd w w.heap.size A n (zs.map (Value.int .i64))) : Calls Try.prog 28 #[.agg #[.int .i64 c, .int .i64 a, .int .i64 t], .slice A n cp, .int .i64 now] w (Ret w (fun v new => ∃ (A_ : Option Addr) (c_ : Nat), v = .slice A_ ((batchR c now zs (a, t))).length c_ ∧ new = [.row (.slice A_ ((batchR c now zs (a, t))).length c_) 3 1 ((batchR c now zs (a, t))).length (((batchR c now zs (a, t))).map (.int .i64))])) := by
  obtain ⟨hnow1, hnow2⟩ := hnow
  refine calls_FA Try.func28 rfl (n := 35) rfl (l := [(0, Value.agg #[Value.int .i64 c, Value.int .i64 a, Value.int .i64 t]), (1, Value.slice A n cp), (2, Value.int .i64 now)]) rfl (by simp) (fun g => ?_)
  have hS := St.init w
  refine wp_seq ?_
  refine c_reg ?_
  refine l_op rfl rfl (fun K hK => op_box (d := some 3) rfl rfl [Value.int .i64 c, Value.int .i64 a, Value.int .i64 t] (by kernel_rfl) hS (fun blk2 w1 hS1 => hK _ _ ?_))
  clear hK K
  refine q_seg (S := (fun x_ => St w x_ [Res.box blk2 [Value.int .i64 c, Value.int .i64 a, Value.int .i64 t] 25])) [(6, Value.slice none 0 0)] [.no] True (by kernel_rfl) trivial hS1 ?_
  refine l_nil rfl ?_
  refine then_n ?_
  refine wp_seq ?_
  refine c_reg ?_
  refine l_op rfl rfl (fun K hK => op_buildSlice (d := some 12) rfl rfl (e := 3) (by kernel_rfl) 1 (by kernel_rfl) (by decide) (by decide) [] (by kernel_rfl) rfl hS1 (fun blk4 w3 hS3 => hK _ _ ?_))
  clear hK K
  refine q_seg (S := (fun x_ => St w x_ [Res.row (Value.slice (some ⟨blk4, 0, none⟩) 0 0) 3 1 0 ([]), Res.box blk2 [Value.int .i64 c, Value.int .i64 a, Value.int .i64 t] 25])) [(7, Value.slice (some ⟨blk4, 0, none⟩) 0 0)] [.no] True (by kernel_rfl) trivial hS3 ?_
  refine l_nil rfl ?_
  refine then_n ?_
  refine wp_seq ?_
  refine wp_seq ?_
  refine c_reg ?_
  refine q_seg (S := (fun x_ => St w x_ [Res.row (Value.slice (some ⟨blk4, 0, none⟩) 0 0) 3 1 0 ([]), Res.box blk2 [Value.int .i64 c, Value.int .i64 a, Value.int .i64 t] 25])) [(15, Value.int .i64 0), (14, Value.int .i64 ((n : Nat) : Int)), (13, Value.slice A n cp)] [.no, .no, .no] True (by kernel_rfl) trivial hS3 ?_
  refine l_nil rfl ?_
  refine then_n ?_
  refine wp_block ?_
  refine c_loop (X := Nat × Option Addr × Nat) (fun (x_ : Nat × Option Addr × Nat) => match x_ with | (k, A2, c2) => [(3, Value.pointer (some ⟨blk2, 0, none⟩)), (2, Value.int .i64 now), (7, Value.slice A2 (List.length (batchR c now (zs.take k) (a, t))) c2), (13, Value.slice A n cp), (14, Value.int .i64 ((n : Nat) : Int)), (15, Value.int .i64 ((k : Nat) : Int))]) (fun (x_ : Nat × Option Addr × Nat) (wr : World) => match x_ with | (k, A2, c2) => (k ≤ n) ∧ St w wr [Res.row (Value.slice A2 (List.length (batchR c now (zs.take k) (a, t))) c2) 3 1 (List.length (batchR c now (zs.take k) (a, t))) ((batchR c now (zs.take k) (a, t)).map (Value.int .i64)), Res.box blk2 [Value.int .i64 c, Value.int .i64 ((batch c now (zs.take k) (a, t)).1), Value.int .i64 ((batch c now (zs.take k) (a, t)).2)] 25]) (fun (x_ : Nat × Option Addr × Nat) => match x_ with | (k, A2, c2) => n - k) ((0, (some ⟨blk4, 0, none⟩), 0)) ?_ ?_ ?_
  · exact (agree_cons (by kernel_rfl) (agree_cons (by kernel_rfl) (agree_cons (by kernel_rfl) (agree_cons (by kernel_rfl) (agree_cons (by kernel_rfl) (agree_cons (by kernel_rfl) agree_nil))))))
  · exact ⟨Nat.zero_le _, hS3⟩
  rintro ⟨k, A2, c2⟩ g6 w5 ⟨hkn, hS5⟩
  have hbN := batchNR c now (zs.take k) (a, t)
  have hbl := List.length_take_le k zs
  refine wp_seq ?_
  refine c_reg ?_
  refine q_seg (S := (fun x_ => St w x_ [Res.row (Value.slice A2 (List.length (batchR c now (zs.take k) (a, t))) c2) 3 1 (List.length (batchR c now (zs.take k) (a, t))) ((batchR c now (zs.take k) (a, t)).map (Value.int .i64)), Res.box blk2 [Value.int .i64 c, Value.int .i64 ((batch c now (zs.take k) (a, t)).1), Value.int .i64 ((batch c now (zs.take k) (a, t)).2)] 25])) [(16, Value.bool (decide (((k : Nat) : Int) < ((n : Nat) : Int))))] [.no] True (by kernel_rfl) trivial hS5 ?_
  refine l_nil rfl ?_
  refine then_n ?_
  refine wp_seq ?_
  rcases Bool.eq_false_or_eq_true (decide (((k : Nat) : Int) < ((n : Nat) : Int))) with hb7 | hb7
  · skip
    have hb7p := of_decide_eq_true hb7
    obtain ⟨b, off, rfl, hbB, hcl⟩ := hr.2 (by omega)
    obtain ⟨z, hzk, hzm⟩ := get_of_lt (l := zs) (k := k) (by have := hr.len; omega)
    obtain ⟨hz1, hz2⟩ := hz _ hzm
    refine c_true (b := (decide (((k : Nat) : Int) < ((n : Nat) : Int)))) (by kernel_rfl) hb7 ?_
    refine wp_skip ?_
    refine then_n ?_
    refine wp_seq ?_
    refine wp_block ?_
    refine wp_seq ?_
    refine c_reg ?_
    refine q_seg (S := (fun x_ => St w x_ [Res.row (Value.slice A2 (List.length (batchR c now (zs.take k) (a, t))) c2) 3 1 (List.length (batchR c now (zs.take k) (a, t))) ((batchR c now (zs.take k) (a, t)).map (Value.int .i64)), Res.box blk2 [Value.int .i64 c, Value.int .i64 ((batch c now (zs.take k) (a, t)).1), Value.int .i64 ((batch c now (zs.take k) (a, t)).2)] 25])) [(9, Value.int .i64 z), (18, Value.int .i64 z), (17, Value.pointer (some ⟨b, off + Int.toNat ((k : Nat) : Int) * 1, none⟩))] [.no, .v (Value.int .i64 z), .no] (((0 : Int) ≤ ((k : Nat) : Int)) ∧ (((k : Nat) : Int) < ((n : Nat) : Int)) ∧ (LoadsAt Try.prog (fun x_ => St w x_ [Res.row (Value.slice A2 (List.length (batchR c now (zs.take k) (a, t))) c2) 3 1 (List.length (batchR c now (zs.take k) (a, t))) ((batchR c now (zs.take k) (a, t)).map (Value.int .i64)), Res.box blk2 [Value.int .i64 c, Value.int .i64 ((batch c now (zs.take k) (a, t)).1), Value.int .i64 ((batch c now (zs.take k) (a, t)).2)] 25]) 3 ⟨b, off + Int.toNat ((k : Nat) : Int) * 1, none⟩ (Value.int .i64 z))) (by kernel_rfl) ⟨(by omega), (by omega), (ld_low (hcl _ _ (by simp [hzk])) (by kernel_rfl))⟩ hS5 ?_
    refine l_nil rfl ?_
    refine then_n ?_
    refine wp_seq ?_
    refine c_reg ?_
    refine q_seg (S := (fun x_ => St w x_ [Res.row (Value.slice A2 (List.length (batchR c now (zs.take k) (a, t))) c2) 3 1 (List.length (batchR c now (zs.take k) (a, t))) ((batchR c now (zs.take k) (a, t)).map (Value.int .i64)), Res.box blk2 [Value.int .i64 c, Value.int .i64 ((batch c now (zs.take k) (a, t)).1), Value.int .i64 ((batch c now (zs.take k) (a, t)).2)] 25])) [(22, Value.int .i64 now), (21, Value.int .i64 z), (20, Value.agg #[Value.int .i64 c, Value.int .i64 ((batch c now (zs.take k) (a, t)).1), Value.int .i64 ((batch c now (zs.take k) (a, t)).2)])] [.v (Value.agg #[Value.int .i64 c, Value.int .i64 ((batch c now (zs.take k) (a, t)).1), Value.int .i64 ((batch c now (zs.take k) (a, t)).2)]), .no, .no] ((LoadsAt Try.prog (fun x_ => St w x_ [Res.row (Value.slice A2 (List.length (batchR c now (zs.take k) (a, t))) c2) 3 1 (List.length (batchR c now (zs.take k) (a, t))) ((batchR c now (zs.take k) (a, t)).map (Value.int .i64)), Res.box blk2 [Value.int .i64 c, Value.int .i64 ((batch c now (zs.take k) (a, t)).1), Value.int .i64 ((batch c now (zs.take k) (a, t)).2)] 25]) 25 ⟨blk2, 0, none⟩ (Value.agg #[Value.int .i64 c, Value.int .i64 ((batch c now (zs.take k) (a, t)).1), Value.int .i64 ((batch c now (zs.take k) (a, t)).2)]))) (by kernel_rfl) (ld_boxN (i := 1) (k := 3) rfl rfl rfl (by kernel_rfl)) hS5 ?_
    refine l_op rfl rfl (fun K hK => op_callv (d := some 23) rfl rfl ⟨_, Try.func22, by kernel_rfl, by kernel_rfl⟩ (vs := [Value.agg #[Value.int .i64 c, Value.int .i64 ((batch c now (zs.take k) (a, t)).1), Value.int .i64 ((batch c now (zs.take k) (a, t)).2)], Value.int .i64 z, Value.int .i64 now]) (by kernel_rfl) (v := Value.tuple #[Value.agg #[Value.int .i64 c, Value.int .i64 ((admP c ((batch c now (zs.take k) (a, t)).1) ((batch c now (zs.take k) (a, t)).2) z now).1), Value.int .i64 ((admP c ((batch c now (zs.take k) (a, t)).1) ((batch c now (zs.take k) (a, t)).2) z now).2.1)], Value.bool ((admP c ((batch c now (zs.take k) (a, t)).1) ((batch c now (zs.take k) (a, t)).2) z now).2.2)]) (AdmitRequest_i_c c ((batch c now (zs.take k) (a, t)).1) ((batch c now (zs.take k) (a, t)).2) z now  _) hS5 (fun w8 hS8 => hK _ _ ?_))
    clear hK K
    refine q_seg (S := (fun x_ => St w x_ [Res.row (Value.slice A2 (List.length (batchR c now (zs.take k) (a, t))) c2) 3 1 (List.length (batchR c now (zs.take k) (a, t))) ((batchR c now (zs.take k) (a, t)).map (Value.int .i64)), Res.box blk2 [Value.int .i64 c, Value.int .i64 ((batch c now (zs.take k) (a, t)).1), Value.int .i64 ((batch c now (zs.take k) (a, t)).2)] 25])) [(25, Value.bool ((admP c ((batch c now (zs.take k) (a, t)).1) ((batch c now (zs.take k) (a, t)).2) z now).2.2)), (24, Value.agg #[Value.int .i64 c, Value.int .i64 ((admP c ((batch c now (zs.take k) (a, t)).1) ((batch c now (zs.take k) (a, t)).2) z now).1), Value.int .i64 ((admP c ((batch c now (zs.take k) (a, t)).1) ((batch c now (zs.take k) (a, t)).2) z now).2.1)]), (19, Value.tuple #[Value.agg #[Value.int .i64 c, Value.int .i64 ((admP c ((batch c now (zs.take k) (a, t)).1) ((batch c now (zs.take k) (a, t)).2) z now).1), Value.int .i64 ((admP c ((batch c now (zs.take k) (a, t)).1) ((batch c now (zs.take k) (a, t)).2) z now).2.1)], Value.bool ((admP c ((batch c now (zs.take k) (a, t)).1) ((batch c now (zs.take k) (a, t)).2) z now).2.2)])] [.no, .no, .no] True (by kernel_rfl) trivial hS8 ?_
    refine l_op rfl rfl (fun K hK => op_alloc (d := some 10) rfl rfl [Value.int .i64 0, Value.int .i64 0, Value.int .i64 0] (by kernel_rfl) hS8 (fun blk10 w9 hS9 => hK _ _ ?_))
    clear hK K
    refine l_op rfl rfl (fun K hK => op_store (d := none) rfl rfl (i := 0) (b := blk10) (off := 0) (cs := [Value.int .i64 0, Value.int .i64 0, Value.int .i64 0]) (bt := 25) (by kernel_rfl) (by kernel_rfl) [Value.int .i64 c, Value.int .i64 ((admP c ((batch c now (zs.take k) (a, t)).1) ((batch c now (zs.take k) (a, t)).2) z now).1), Value.int .i64 ((admP c ((batch c now (zs.take k) (a, t)).1) ((batch c now (zs.take k) (a, t)).2) z now).2.1)] (by kernel_rfl) (by kernel_rfl) (Nat.le_of_ble_eq_true (by kernel_rfl)) (by kernel_rfl) [Res.box blk10 [Value.int .i64 c, Value.int .i64 ((admP c ((batch c now (zs.take k) (a, t)).1) ((batch c now (zs.take k) (a, t)).2) z now).1), Value.int .i64 ((admP c ((batch c now (zs.take k) (a, t)).1) ((batch c now (zs.take k) (a, t)).2) z now).2.1)] 25, Res.row (Value.slice A2 (List.length (batchR c now (zs.take k) (a, t))) c2) 3 1 (List.length (batchR c now (zs.take k) (a, t))) ((batchR c now (zs.take k) (a, t)).map (Value.int .i64)), Res.box blk2 [Value.int .i64 c, Value.int .i64 ((batch c now (zs.take k) (a, t)).1), Value.int .i64 ((batch c now (zs.take k) (a, t)).2)] 25] (by kernel_rfl) hS9 (fun w11 hS11 => hK _ _ ?_))
    clear hK K
    refine q_seg (S := (fun x_ => St w x_ [Res.box blk10 [Value.int .i64 c, Value.int .i64 ((admP c ((batch c now (zs.take k) (a, t)).1) ((batch c now (zs.take k) (a, t)).2) z now).1), Value.int .i64 ((admP c ((batch c now (zs.take k) (a, t)).1) ((batch c now (zs.take k) (a, t)).2) z now).2.1)] 25, Res.row (Value.slice A2 (List.length (batchR c now (zs.take k) (a, t))) c2) 3 1 (List.length (batchR c now (zs.take k) (a, t))) ((batchR c now (zs.take k) (a, t)).map (Value.int .i64)), Res.box blk2 [Value.int .i64 c, Value.int .i64 ((batch c now (zs.take k) (a, t)).1), Value.int .i64 ((batch c now (zs.take k) (a, t)).2)] 25])) [(11, Value.bool ((admP c ((batch c now (zs.take k) (a, t)).1) ((batch c now (zs.take k) (a, t)).2) z now).2.2))] [.no] True (by kernel_rfl) trivial hS11 ?_
    refine l_nil rfl ?_
    refine then_n ?_
    refine wp_seq ?_
    refine c_reg ?_
    refine q_seg (S := (fun x_ => St w x_ [Res.box blk10 [Value.int .i64 c, Value.int .i64 ((admP c ((batch c now (zs.take k) (a, t)).1) ((batch c now (zs.take k) (a, t)).2) z now).1), Value.int .i64 ((admP c ((batch c now (zs.take k) (a, t)).1) ((batch c now (zs.take k) (a, t)).2) z now).2.1)] 25, Res.row (Value.slice A2 (List.length (batchR c now (zs.take k) (a, t))) c2) 3 1 (List.length (batchR c now (zs.take k) (a, t))) ((batchR c now (zs.take k) (a, t)).map (Value.int .i64)), Res.box blk2 [Value.int .i64 c, Value.int .i64 ((batch c now (zs.take k) (a, t)).1), Value.int .i64 ((batch c now (zs.take k) (a, t)).2)] 25])) [(26, Value.agg #[Value.int .i64 c, Value.int .i64 ((admP c ((batch c now (zs.take k) (a, t)).1) ((batch c now (zs.take k) (a, t)).2) z now).1), Value.int .i64 ((admP c ((batch c now (zs.take k) (a, t)).1) ((batch c now (zs.take k) (a, t)).2) z now).2.1)])] [.v (Value.agg #[Value.int .i64 c, Value.int .i64 ((admP c ((batch c now (zs.take k) (a, t)).1) ((batch c now (zs.take k) (a, t)).2) z now).1), Value.int .i64 ((admP c ((batch c now (zs.take k) (a, t)).1) ((batch c now (zs.take k) (a, t)).2) z now).2.1)])] ((LoadsAt Try.prog (fun x_ => St w x_ [Res.box blk10 [Value.int .i64 c, Value.int .i64 ((admP c ((batch c now (zs.take k) (a, t)).1) ((batch c now (zs.take k) (a, t)).2) z now).1), Value.int .i64 ((admP c ((batch c now (zs.take k) (a, t)).1) ((batch c now (zs.take k) (a, t)).2) z now).2.1)] 25, Res.row (Value.slice A2 (List.length (batchR c now (zs.take k) (a, t))) c2) 3 1 (List.length (batchR c now (zs.take k) (a, t))) ((batchR c now (zs.take k) (a, t)).map (Value.int .i64)), Res.box blk2 [Value.int .i64 c, Value.int .i64 ((batch c now (zs.take k) (a, t)).1), Value.int .i64 ((batch c now (zs.take k) (a, t)).2)] 25]) 25 ⟨blk10, 0, none⟩ (Value.agg #[Value.int .i64 c, Value.int .i64 ((admP c ((batch c now (zs.take k) (a, t)).1) ((batch c now (zs.take k) (a, t)).2) z now).1), Value.int .i64 ((admP c ((batch c now (zs.take k) (a, t)).1) ((batch c now (zs.take k) (a, t)).2) z now).2.1)]))) (by kernel_rfl) (ld_boxN (i := 0) (k := 3) rfl rfl rfl (by kernel_rfl)) hS11 ?_
    refine l_op rfl rfl (fun K hK => op_store (d := none) rfl rfl (i := 2) (b := blk2) (off := 0) (cs := [Value.int .i64 c, Value.int .i64 ((batch c now (zs.take k) (a, t)).1), Value.int .i64 ((batch c now (zs.take k) (a, t)).2)]) (bt := 25) (by kernel_rfl) (by kernel_rfl) [Value.int .i64 c, Value.int .i64 ((admP c ((batch c now (zs.take k) (a, t)).1) ((batch c now (zs.take k) (a, t)).2) z now).1), Value.int .i64 ((admP c ((batch c now (zs.take k) (a, t)).1) ((batch c now (zs.take k) (a, t)).2) z now).2.1)] (by kernel_rfl) (by kernel_rfl) (Nat.le_of_ble_eq_true (by kernel_rfl)) (by kernel_rfl) [Res.box blk10 [Value.int .i64 c, Value.int .i64 ((admP c ((batch c now (zs.take k) (a, t)).1) ((batch c now (zs.take k) (a, t)).2) z now).1), Value.int .i64 ((admP c ((batch c now (zs.take k) (a, t)).1) ((batch c now (zs.take k) (a, t)).2) z now).2.1)] 25, Res.row (Value.slice A2 (List.length (batchR c now (zs.take k) (a, t))) c2) 3 1 (List.length (batchR c now (zs.take k) (a, t))) ((batchR c now (zs.take k) (a, t)).map (Value.int .i64)), Res.box blk2 [Value.int .i64 c, Value.int .i64 ((admP c ((batch c now (zs.take k) (a, t)).1) ((batch c now (zs.take k) (a, t)).2) z now).1), Value.int .i64 ((admP c ((batch c now (zs.take k) (a, t)).1) ((batch c now (zs.take k) (a, t)).2) z now).2.1)] 25] (by kernel_rfl) hS11 (fun w12 hS12 => hK _ _ ?_))
    clear hK K
    refine l_nil rfl ?_
    refine then_n ?_
    refine wp_seq ?_
    refine c_reg ?_
    refine q_seg (S := (fun x_ => St w x_ [Res.box blk10 [Value.int .i64 c, Value.int .i64 ((admP c ((batch c now (zs.take k) (a, t)).1) ((batch c now (zs.take k) (a, t)).2) z now).1), Value.int .i64 ((admP c ((batch c now (zs.take k) (a, t)).1) ((batch c now (zs.take k) (a, t)).2) z now).2.1)] 25, Res.row (Value.slice A2 (List.length (batchR c now (zs.take k) (a, t))) c2) 3 1 (List.length (batchR c now (zs.take k) (a, t))) ((batchR c now (zs.take k) (a, t)).map (Value.int .i64)), Res.box blk2 [Value.int .i64 c, Value.int .i64 ((admP c ((batch c now (zs.take k) (a, t)).1) ((batch c now (zs.take k) (a, t)).2) z now).1), Value.int .i64 ((admP c ((batch c now (zs.take k) (a, t)).1) ((batch c now (zs.take k) (a, t)).2) z now).2.1)] 25])) [(28, Value.bool (!((admP c ((batch c now (zs.take k) (a, t)).1) ((batch c now (zs.take k) (a, t)).2) z now).2.2))), (27, Value.bool ((admP c ((batch c now (zs.take k) (a, t)).1) ((batch c now (zs.take k) (a, t)).2) z now).2.2))] [.no, .no] True (by kernel_rfl) trivial hS12 ?_
    refine l_nil rfl ?_
    refine then_n ?_
    rcases Bool.eq_false_or_eq_true ((admP c ((batch c now (zs.take k) (a, t)).1) ((batch c now (zs.take k) (a, t)).2) z now).2.2) with hb13 | hb13
    · skip
      refine c_false (b := (!((admP c ((batch c now (zs.take k) (a, t)).1) ((batch c now (zs.take k) (a, t)).2) z now).2.2))) (by kernel_rfl) (nb (v := true) hb13) ?_
      refine wp_skip ?_
      refine blk_n ?_
      refine then_n ?_
      refine c_reg ?_
      refine q_seg (S := (fun x_ => St w x_ [Res.box blk10 [Value.int .i64 c, Value.int .i64 ((admP c ((batch c now (zs.take k) (a, t)).1) ((batch c now (zs.take k) (a, t)).2) z now).1), Value.int .i64 ((admP c ((batch c now (zs.take k) (a, t)).1) ((batch c now (zs.take k) (a, t)).2) z now).2.1)] 25, Res.row (Value.slice A2 (List.length (batchR c now (zs.take k) (a, t))) c2) 3 1 (List.length (batchR c now (zs.take k) (a, t))) ((batchR c now (zs.take k) (a, t)).map (Value.int .i64)), Res.box blk2 [Value.int .i64 c, Value.int .i64 ((admP c ((batch c now (zs.take k) (a, t)).1) ((batch c now (zs.take k) (a, t)).2) z now).1), Value.int .i64 ((admP c ((batch c now (zs.take k) (a, t)).1) ((batch c now (zs.take k) (a, t)).2) z now).2.1)] 25])) [(15, Value.int .i64 (((k : Nat) : Int) + (1 : Int))), (33, Value.int .i64 (((k : Nat) : Int) + (1 : Int)))] [.no, .no] ((InK .i64 (((k : Nat) : Int) + (1 : Int)))) (by kernel_rfl) (in64 (by omega) (by omega)) hS12 ?_
      refine l_nil rfl ?_
      refine then_n ?_
      have hSe := (hS12.sub (List.Sublist.cons _ (List.Sublist.cons_cons _ (List.Sublist.cons_cons _ List.Sublist.slnil))))
      refine round_end ((k + 1, A2, c2)) ?_ ?_ ?_
      · exact (agree_cons (by kernel_rfl) (agree_cons (by kernel_rfl) (agree_eq (v0 := Value.slice A2 (List.length (batchR c now (zs.take k) (a, t))) c2) (by kernel_rfl) (congrArg (fun m => Value.slice A2 m c2) (by rw [take_get hzk, batchR_snoc, hb13]; simp)) (agree_cons (by kernel_rfl) (agree_cons (by kernel_rfl) (agree_cons (by kernel_rfl) agree_nil))))))
      · exact ⟨(by omega), (hSe.eqv (by rw [take_get hzk, batch_snoc, batchR_snoc, hb13]; simp))⟩
      · exact (by first | omega | (dsimp only; omega))
    · skip
      refine c_true (b := (!((admP c ((batch c now (zs.take k) (a, t)).1) ((batch c now (zs.take k) (a, t)).2) z now).2.2))) (by kernel_rfl) (nb (v := false) hb13) ?_
      refine c_reg ?_
      refine q_seg (S := (fun x_ => St w x_ [Res.box blk10 [Value.int .i64 c, Value.int .i64 ((admP c ((batch c now (zs.take k) (a, t)).1) ((batch c now (zs.take k) (a, t)).2) z now).1), Value.int .i64 ((admP c ((batch c now (zs.take k) (a, t)).1) ((batch c now (zs.take k) (a, t)).2) z now).2.1)] 25, Res.row (Value.slice A2 (List.length (batchR c now (zs.take k) (a, t))) c2) 3 1 (List.length (batchR c now (zs.take k) (a, t))) ((batchR c now (zs.take k) (a, t)).map (Value.int .i64)), Res.box blk2 [Value.int .i64 c, Value.int .i64 ((admP c ((batch c now (zs.take k) (a, t)).1) ((batch c now (zs.take k) (a, t)).2) z now).1), Value.int .i64 ((admP c ((batch c now (zs.take k) (a, t)).1) ((batch c now (zs.take k) (a, t)).2) z now).2.1)] 25])) [(30, Value.int .i64 z), (29, Value.slice A2 (List.length (batchR c now (zs.take k) (a, t))) c2)] [.no, .no] True (by kernel_rfl) trivial hS12 ?_
      refine l_op rfl rfl (fun K hK => op_buildSlice (d := some 31) rfl rfl (e := 3) (by kernel_rfl) 1 (by kernel_rfl) (by decide) (by decide) [Value.int .i64 z] (by kernel_rfl) rfl hS12 (fun blk15 w14 hS14 => hK _ _ ?_))
      clear hK K
      refine l_op rfl rfl (fun K hK => op_append (d := some 32) rfl rfl elInt hS14 (i := 2) rfl rfl rfl (news := [Value.int .i64 z]) (hS14.rd (List.mem_of_getElem? (i := 0) rfl)) (all_one (by rfl)) (by omega) (by omega) (fun v17 w16 hS16 => hK _ _ ?_))
      clear hK K
      obtain ⟨hlv17, Av17, cv17, hvv17, hnv17, hmv17⟩ := hS16.row_slice (List.mem_of_getElem? (i := 2) rfl)
      subst hvv17
      refine q_seg (S := (fun x_ => St w x_ [Res.row (Value.slice (some ⟨blk15, 0, none⟩) 1 1) 3 1 1 ([Value.int .i64 z]), Res.box blk10 [Value.int .i64 c, Value.int .i64 ((admP c ((batch c now (zs.take k) (a, t)).1) ((batch c now (zs.take k) (a, t)).2) z now).1), Value.int .i64 ((admP c ((batch c now (zs.take k) (a, t)).1) ((batch c now (zs.take k) (a, t)).2) z now).2.1)] 25, Res.row (Value.slice Av17 ((List.length (batchR c now (zs.take k) (a, t))) + 1) cv17) 3 1 ((List.length (batchR c now (zs.take k) (a, t))) + 1) (((batchR c now (zs.take k) (a, t)).map (Value.int .i64)) ++ [Value.int .i64 z]), Res.box blk2 [Value.int .i64 c, Value.int .i64 ((admP c ((batch c now (zs.take k) (a, t)).1) ((batch c now (zs.take k) (a, t)).2) z now).1), Value.int .i64 ((admP c ((batch c now (zs.take k) (a, t)).1) ((batch c now (zs.take k) (a, t)).2) z now).2.1)] 25])) [(7, Value.slice Av17 ((List.length (batchR c now (zs.take k) (a, t))) + 1) cv17)] [.no] True (by kernel_rfl) trivial hS16 ?_
      refine l_nil rfl ?_
      refine blk_n ?_
      refine then_n ?_
      refine c_reg ?_
      refine q_seg (S := (fun x_ => St w x_ [Res.row (Value.slice (some ⟨blk15, 0, none⟩) 1 1) 3 1 1 ([Value.int .i64 z]), Res.box blk10 [Value.int .i64 c, Value.int .i64 ((admP c ((batch c now (zs.take k) (a, t)).1) ((batch c now (zs.take k) (a, t)).2) z now).1), Value.int .i64 ((admP c ((batch c now (zs.take k) (a, t)).1) ((batch c now (zs.take k) (a, t)).2) z now).2.1)] 25, Res.row (Value.slice Av17 ((List.length (batchR c now (zs.take k) (a, t))) + 1) cv17) 3 1 ((List.length (batchR c now (zs.take k) (a, t))) + 1) (((batchR c now (zs.take k) (a, t)).map (Value.int .i64)) ++ [Value.int .i64 z]), Res.box blk2 [Value.int .i64 c, Value.int .i64 ((admP c ((batch c now (zs.take k) (a, t)).1) ((batch c now (zs.take k) (a, t)).2) z now).1), Value.int .i64 ((admP c ((batch c now (zs.take k) (a, t)).1) ((batch c now (zs.take k) (a, t)).2) z now).2.1)] 25])) [(15, Value.int .i64 (((k : Nat) : Int) + (1 : Int))), (33, Value.int .i64 (((k : Nat) : Int) + (1 : Int)))] [.no, .no] ((InK .i64 (((k : Nat) : Int) + (1 : Int)))) (by kernel_rfl) (in64 (by omega) (by omega)) hS16 ?_
      refine l_nil rfl ?_
      refine then_n ?_
      have hSe := (hS16.sub (List.Sublist.cons _ (List.Sublist.cons _ (List.Sublist.cons_cons _ (List.Sublist.cons_cons _ List.Sublist.slnil)))))
      refine round_end ((k + 1, Av17, cv17)) ?_ ?_ ?_
      · exact (agree_cons (by kernel_rfl) (agree_cons (by kernel_rfl) (agree_eq (v0 := Value.slice Av17 ((List.length (batchR c now (zs.take k) (a, t))) + 1) cv17) (by kernel_rfl) (congrArg (fun m => Value.slice Av17 m cv17) (by rw [take_get hzk, batchR_snoc, hb13]; simp)) (agree_cons (by kernel_rfl) (agree_cons (by kernel_rfl) (agree_cons (by kernel_rfl) agree_nil))))))
      · exact ⟨(by omega), (hSe.eqv (by rw [take_get hzk, batch_snoc, batchR_snoc, hb13]; simp))⟩
      · exact (by first | omega | (dsimp only; omega))
  · skip
    have hb7p := of_decide_eq_false hb7
    refine c_false (b := (decide (((k : Nat) : Int) < ((n : Nat) : Int)))) (by kernel_rfl) hb7 ?_
    refine wp_exit ?_
    refine then_x ?_
    refine then_x ?_
    refine blk_hit ?_
    refine then_n ?_
    refine wp_seq ?_
    refine c_reg ?_
    refine q_seg (S := (fun x_ => St w x_ [Res.row (Value.slice A2 (List.length (batchR c now (zs.take k) (a, t))) c2) 3 1 (List.length (batchR c now (zs.take k) (a, t))) ((batchR c now (zs.take k) (a, t)).map (Value.int .i64)), Res.box blk2 [Value.int .i64 c, Value.int .i64 ((batch c now (zs.take k) (a, t)).1), Value.int .i64 ((batch c now (zs.take k) (a, t)).2)] 25])) [(6, Value.slice A2 (List.length (batchR c now (zs.take k) (a, t))) c2), (34, Value.slice A2 (List.length (batchR c now (zs.take k) (a, t))) c2)] [.no, .no] True (by kernel_rfl) trivial hS5 ?_
    refine l_nil rfl ?_
    refine then_n ?_
    refine wp_ret ?_
    have hkn2 : zs.take k = zs := take_all (by have := hr.len; omega)
    exact c_end (S := (fun x_ => St w x_ [Res.row (Value.slice A2 (List.length (batchR c now (zs.take k) (a, t))) c2) 3 1 (List.length (batchR c now (zs.take k) (a, t))) ((batchR c now (zs.take k) (a, t)).map (Value.int .i64)), Res.box blk2 [Value.int .i64 c, Value.int .i64 ((batch c now (zs.take k) (a, t)).1), Value.int .i64 ((batch c now (zs.take k) (a, t)).2)] 25])) (rs := [.tmp 6]) rfl [] (v := Value.slice A2 (List.length (batchR c now (zs.take k) (a, t))) c2) (C := True) (by kernel_rfl) trivial hS5 (((hS5.sub (List.Sublist.cons_cons _ (List.Sublist.cons _ List.Sublist.slnil))).eqv (by rw [hkn2])).rt ⟨_, _, by rw [hkn2], rfl⟩)
theorem RejectedRequests_s_c (c a t now : Int) (A : Option Addr) (n cp : Nat) (zs : List Int) (w : World) (hc : I64 c) (ha : I64 a) (ht : I64 t) (hnow : I64 now) (hz : ∀ z ∈ zs, I64 z) (hn : n ≤ 1048576) (hr : Rd w w.heap.size A n (zs.map (Value.int .i64))) : Calls Try.prog 32 #[.agg #[.int .i64 c, .int .i64 a, .int .i64 t], .slice A n cp, .int .i64 now] w (Ret w (fun v new => ∃ (A_ : Option Addr) (c_ : Nat), v = .slice A_ ((batchR c now zs (a, t))).length c_ ∧ new = [.row (.slice A_ ((batchR c now zs (a, t))).length c_) 3 1 ((batchR c now zs (a, t))).length (((batchR c now zs (a, t))).map (.int .i64))])) := by
  obtain ⟨hnow1, hnow2⟩ := hnow
  refine calls_FA Try.func32 rfl (n := 39) rfl (l := [(0, Value.agg #[Value.int .i64 c, Value.int .i64 a, Value.int .i64 t]), (1, Value.slice A n cp), (2, Value.int .i64 now)]) rfl (by simp) (fun g => ?_)
  have hS := St.init w
  refine wp_seq ?_
  refine c_reg ?_
  refine l_op rfl rfl (fun K hK => op_box (d := some 3) rfl rfl [Value.int .i64 c, Value.int .i64 a, Value.int .i64 t] (by kernel_rfl) hS (fun blk2 w1 hS1 => hK _ _ ?_))
  clear hK K
  refine q_seg (S := (fun x_ => St w x_ [Res.box blk2 [Value.int .i64 c, Value.int .i64 a, Value.int .i64 t] 25])) [(6, Value.slice none 0 0)] [.no] True (by kernel_rfl) trivial hS1 ?_
  refine l_nil rfl ?_
  refine then_n ?_
  refine wp_seq ?_
  refine c_reg ?_
  refine l_op rfl rfl (fun K hK => op_buildSlice (d := some 11) rfl rfl (e := 3) (by kernel_rfl) 1 (by kernel_rfl) (by decide) (by decide) [] (by kernel_rfl) rfl hS1 (fun blk4 w3 hS3 => hK _ _ ?_))
  clear hK K
  refine q_seg (S := (fun x_ => St w x_ [Res.row (Value.slice (some ⟨blk4, 0, none⟩) 0 0) 3 1 0 ([]), Res.box blk2 [Value.int .i64 c, Value.int .i64 a, Value.int .i64 t] 25])) [(7, Value.slice (some ⟨blk4, 0, none⟩) 0 0)] [.no] True (by kernel_rfl) trivial hS3 ?_
  refine l_nil rfl ?_
  refine then_n ?_
  refine wp_seq ?_
  refine wp_seq ?_
  refine c_reg ?_
  refine q_seg (S := (fun x_ => St w x_ [Res.row (Value.slice (some ⟨blk4, 0, none⟩) 0 0) 3 1 0 ([]), Res.box blk2 [Value.int .i64 c, Value.int .i64 a, Value.int .i64 t] 25])) [(8, Value.int .i64 0)] [.no] True (by kernel_rfl) trivial hS3 ?_
  refine l_nil rfl ?_
  refine then_n ?_
  refine wp_block ?_
  refine c_loop (X := Nat × Option Addr × Nat) (fun (x_ : Nat × Option Addr × Nat) => match x_ with | (k, A2, c2) => [(3, Value.pointer (some ⟨blk2, 0, none⟩)), (2, Value.int .i64 now), (7, Value.slice A2 (List.length (batchR c now (zs.take k) (a, t))) c2), (1, Value.slice A n cp), (8, Value.int .i64 ((k : Nat) : Int))]) (fun (x_ : Nat × Option Addr × Nat) (wr : World) => match x_ with | (k, A2, c2) => (k ≤ n) ∧ St w wr [Res.row (Value.slice A2 (List.length (batchR c now (zs.take k) (a, t))) c2) 3 1 (List.length (batchR c now (zs.take k) (a, t))) ((batchR c now (zs.take k) (a, t)).map (Value.int .i64)), Res.box blk2 [Value.int .i64 c, Value.int .i64 ((batch c now (zs.take k) (a, t)).1), Value.int .i64 ((batch c now (zs.take k) (a, t)).2)] 25]) (fun (x_ : Nat × Option Addr × Nat) => match x_ with | (k, A2, c2) => n - k) ((0, (some ⟨blk4, 0, none⟩), 0)) ?_ ?_ ?_
  · exact (agree_cons (by kernel_rfl) (agree_cons (by kernel_rfl) (agree_cons (by kernel_rfl) (agree_cons (by kernel_rfl) (agree_cons (by kernel_rfl) agree_nil)))))
  · exact ⟨Nat.zero_le _, hS3⟩
  rintro ⟨k, A2, c2⟩ g6 w5 ⟨hkn, hS5⟩
  have hbN := batchNR c now (zs.take k) (a, t)
  have hbl := List.length_take_le k zs
  refine wp_seq ?_
  refine wp_seq ?_
  refine c_reg ?_
  refine q_seg (S := (fun x_ => St w x_ [Res.row (Value.slice A2 (List.length (batchR c now (zs.take k) (a, t))) c2) 3 1 (List.length (batchR c now (zs.take k) (a, t))) ((batchR c now (zs.take k) (a, t)).map (Value.int .i64)), Res.box blk2 [Value.int .i64 c, Value.int .i64 ((batch c now (zs.take k) (a, t)).1), Value.int .i64 ((batch c now (zs.take k) (a, t)).2)] 25])) [(15, Value.bool (decide (((k : Nat) : Int) < ((n : Nat) : Int)))), (14, Value.int .i64 ((n : Nat) : Int)), (13, Value.slice A n cp), (12, Value.int .i64 ((k : Nat) : Int))] [.no, .no, .no, .no] True (by kernel_rfl) trivial hS5 ?_
  refine l_nil rfl ?_
  refine then_n ?_
  rcases Bool.eq_false_or_eq_true (decide (((k : Nat) : Int) < ((n : Nat) : Int))) with hb7 | hb7
  · skip
    have hb7p := of_decide_eq_true hb7
    obtain ⟨b, off, rfl, hbB, hcl⟩ := hr.2 (by omega)
    obtain ⟨z, hzk, hzm⟩ := get_of_lt (l := zs) (k := k) (by have := hr.len; omega)
    obtain ⟨hz1, hz2⟩ := hz _ hzm
    refine c_true (b := (decide (((k : Nat) : Int) < ((n : Nat) : Int)))) (by kernel_rfl) hb7 ?_
    refine wp_skip ?_
    refine then_n ?_
    refine wp_seq ?_
    refine wp_block ?_
    refine wp_seq ?_
    refine c_cut (fun a_ w_ => ∃ (bkc111 : Nat) (g_ : Nat → Value), a_ = FA 39 [(1, Value.slice (some ⟨b, off, none⟩) n cp), (2, Value.int .i64 now), (3, Value.pointer (some ⟨blk2, 0, none⟩)), (7, Value.slice A2 (List.length (batchR c now (zs.take k) (a, t))) c2), (8, Value.int .i64 ((k : Nat) : Int)), (9, Value.pointer (some ⟨bkc111, 0, none⟩)), (10, Value.bool ((admP c ((batch c now (zs.take k) (a, t)).1) ((batch c now (zs.take k) (a, t)).2) z now).2.2)), (12, Value.int .i64 ((k : Nat) : Int)), (13, Value.slice (some ⟨b, off, none⟩) n cp), (14, Value.int .i64 ((n : Nat) : Int)), (15, Value.bool (decide (((k : Nat) : Int) < ((n : Nat) : Int)))), (18, Value.tuple #[Value.agg #[Value.int .i64 c, Value.int .i64 ((admP c ((batch c now (zs.take k) (a, t)).1) ((batch c now (zs.take k) (a, t)).2) z now).1), Value.int .i64 ((admP c ((batch c now (zs.take k) (a, t)).1) ((batch c now (zs.take k) (a, t)).2) z now).2.1)], Value.bool ((admP c ((batch c now (zs.take k) (a, t)).1) ((batch c now (zs.take k) (a, t)).2) z now).2.2)]), (19, Value.agg #[Value.int .i64 c, Value.int .i64 ((batch c now (zs.take k) (a, t)).1), Value.int .i64 ((batch c now (zs.take k) (a, t)).2)]), (20, Value.slice (some ⟨b, off, none⟩) n cp), (21, Value.int .i64 ((k : Nat) : Int)), (22, Value.pointer (some ⟨b, off + Int.toNat ((k : Nat) : Int) * 1, none⟩)), (23, Value.int .i64 z), (24, Value.int .i64 now), (25, Value.tuple #[Value.agg #[Value.int .i64 c, Value.int .i64 ((admP c ((batch c now (zs.take k) (a, t)).1) ((batch c now (zs.take k) (a, t)).2) z now).1), Value.int .i64 ((admP c ((batch c now (zs.take k) (a, t)).1) ((batch c now (zs.take k) (a, t)).2) z now).2.1)], Value.bool ((admP c ((batch c now (zs.take k) (a, t)).1) ((batch c now (zs.take k) (a, t)).2) z now).2.2)]), (26, Value.agg #[Value.int .i64 c, Value.int .i64 ((admP c ((batch c now (zs.take k) (a, t)).1) ((batch c now (zs.take k) (a, t)).2) z now).1), Value.int .i64 ((admP c ((batch c now (zs.take k) (a, t)).1) ((batch c now (zs.take k) (a, t)).2) z now).2.1)]), (27, Value.bool ((admP c ((batch c now (zs.take k) (a, t)).1) ((batch c now (zs.take k) (a, t)).2) z now).2.2))] g_ ∧ St w w_ [Res.box bkc111 [Value.int .i64 c, Value.int .i64 ((admP c ((batch c now (zs.take k) (a, t)).1) ((batch c now (zs.take k) (a, t)).2) z now).1), Value.int .i64 ((admP c ((batch c now (zs.take k) (a, t)).1) ((batch c now (zs.take k) (a, t)).2) z now).2.1)] 25, Res.row (Value.slice A2 (List.length (batchR c now (zs.take k) (a, t))) c2) 3 1 (List.length (batchR c now (zs.take k) (a, t))) ((batchR c now (zs.take k) (a, t)).map (Value.int .i64)), Res.box blk2 [Value.int .i64 c, Value.int .i64 ((batch c now (zs.take k) (a, t)).1), Value.int .i64 ((batch c now (zs.take k) (a, t)).2)] 25]) ?_ ?_
    · skip
      refine c_drawn [] (by kernel_rfl) hS5 (fun w8 hS8 => ?_)
      refine t_seg (S := (fun x_ => St w x_ [Res.row (Value.slice A2 (List.length (batchR c now (zs.take k) (a, t))) c2) 3 1 (List.length (batchR c now (zs.take k) (a, t))) ((batchR c now (zs.take k) (a, t)).map (Value.int .i64)), Res.box blk2 [Value.int .i64 c, Value.int .i64 ((batch c now (zs.take k) (a, t)).1), Value.int .i64 ((batch c now (zs.take k) (a, t)).2)] 25])) [(0, .v (Value.agg #[Value.int .i64 c, Value.int .i64 ((batch c now (zs.take k) (a, t)).1), Value.int .i64 ((batch c now (zs.take k) (a, t)).2)])), (1, .no), (2, .no), (5, .no), (3, .no), (4, .v (Value.int .i64 z))] 7 #[true, true, true, true, true, true, false, false, false, false, false, false, false] [(23, Value.int .i64 z), (22, Value.pointer (some ⟨b, off + Int.toNat ((k : Nat) : Int) * 1, none⟩)), (24, Value.int .i64 now), (21, Value.int .i64 ((k : Nat) : Int)), (20, Value.slice (some ⟨b, off, none⟩) n cp), (19, Value.agg #[Value.int .i64 c, Value.int .i64 ((batch c now (zs.take k) (a, t)).1), Value.int .i64 ((batch c now (zs.take k) (a, t)).2)])] ((LoadsAt Try.prog (fun x_ => St w x_ [Res.row (Value.slice A2 (List.length (batchR c now (zs.take k) (a, t))) c2) 3 1 (List.length (batchR c now (zs.take k) (a, t))) ((batchR c now (zs.take k) (a, t)).map (Value.int .i64)), Res.box blk2 [Value.int .i64 c, Value.int .i64 ((batch c now (zs.take k) (a, t)).1), Value.int .i64 ((batch c now (zs.take k) (a, t)).2)] 25]) 25 ⟨blk2, 0, none⟩ (Value.agg #[Value.int .i64 c, Value.int .i64 ((batch c now (zs.take k) (a, t)).1), Value.int .i64 ((batch c now (zs.take k) (a, t)).2)])) ∧ ((0 : Int) ≤ ((k : Nat) : Int)) ∧ (((k : Nat) : Int) < ((n : Nat) : Int)) ∧ (LoadsAt Try.prog (fun x_ => St w x_ [Res.row (Value.slice A2 (List.length (batchR c now (zs.take k) (a, t))) c2) 3 1 (List.length (batchR c now (zs.take k) (a, t))) ((batchR c now (zs.take k) (a, t)).map (Value.int .i64)), Res.box blk2 [Value.int .i64 c, Value.int .i64 ((batch c now (zs.take k) (a, t)).1), Value.int .i64 ((batch c now (zs.take k) (a, t)).2)] 25]) 3 ⟨b, off + Int.toNat ((k : Nat) : Int) * 1, none⟩ (Value.int .i64 z))) (by kernel_rfl) (Qpanic.then (Qpanic.then (Qpanic.block (Qpanic.then (Qpanic.then (Qpanic.block (Qpanic.then Qpanic.bp))))))) rfl (by kernel_rfl) ⟨(ld_boxN (i := 1) (k := 3) rfl rfl rfl (by kernel_rfl)), (by omega), (by omega), (ld_low (hcl _ _ (by simp [hzk])) (by kernel_rfl))⟩ hS8 ?_
      refine a_op2 (i := 6) (j := 10) (fuel := 6) (li := #[true, true, true, true, true, true, true, false, false, false, false, false, false]) (lj := #[true, true, true, true, true, true, false, false, false, false, true, false, false]) rfl rfl rfl (by kernel_rfl) (by kernel_rfl) (by kernel_rfl) rfl rfl ?_ ?_
      · intro K hK
        refine op_callv (d := some 25) rfl rfl ⟨_, Try.func21, by kernel_rfl, by kernel_rfl⟩ (vs := [Value.agg #[Value.int .i64 c, Value.int .i64 ((batch c now (zs.take k) (a, t)).1), Value.int .i64 ((batch c now (zs.take k) (a, t)).2)], Value.int .i64 z, Value.int .i64 now]) (by kernel_rfl) (v := Value.tuple #[Value.agg #[Value.int .i64 c, Value.int .i64 ((admP c ((batch c now (zs.take k) (a, t)).1) ((batch c now (zs.take k) (a, t)).2) z now).1), Value.int .i64 ((admP c ((batch c now (zs.take k) (a, t)).1) ((batch c now (zs.take k) (a, t)).2) z now).2.1)], Value.bool ((admP c ((batch c now (zs.take k) (a, t)).1) ((batch c now (zs.take k) (a, t)).2) z now).2.2)]) (AdmitRequest_s_c c ((batch c now (zs.take k) (a, t)).1) ((batch c now (zs.take k) (a, t)).2) z now  _) hS8 (fun w9 hS9 => (hK _ _ (fun _ => hS9) ?_))
        clear hK K
        refine t_seg (S := (fun x_ => St w x_ [Res.row (Value.slice A2 (List.length (batchR c now (zs.take k) (a, t))) c2) 3 1 (List.length (batchR c now (zs.take k) (a, t))) ((batchR c now (zs.take k) (a, t)).map (Value.int .i64)), Res.box blk2 [Value.int .i64 c, Value.int .i64 ((batch c now (zs.take k) (a, t)).1), Value.int .i64 ((batch c now (zs.take k) (a, t)).2)] 25])) [(7, .no), (8, .no), (9, .no)] 3 #[true, true, true, true, true, true, true, true, true, true, false, false, false] [(27, Value.bool ((admP c ((batch c now (zs.take k) (a, t)).1) ((batch c now (zs.take k) (a, t)).2) z now).2.2)), (26, Value.agg #[Value.int .i64 c, Value.int .i64 ((admP c ((batch c now (zs.take k) (a, t)).1) ((batch c now (zs.take k) (a, t)).2) z now).1), Value.int .i64 ((admP c ((batch c now (zs.take k) (a, t)).1) ((batch c now (zs.take k) (a, t)).2) z now).2.1)]), (18, Value.tuple #[Value.agg #[Value.int .i64 c, Value.int .i64 ((admP c ((batch c now (zs.take k) (a, t)).1) ((batch c now (zs.take k) (a, t)).2) z now).1), Value.int .i64 ((admP c ((batch c now (zs.take k) (a, t)).1) ((batch c now (zs.take k) (a, t)).2) z now).2.1)], Value.bool ((admP c ((batch c now (zs.take k) (a, t)).1) ((batch c now (zs.take k) (a, t)).2) z now).2.2)])] True (by kernel_rfl) (Qpanic.then (Qpanic.then (Qpanic.block (Qpanic.then (Qpanic.then (Qpanic.block (Qpanic.then Qpanic.bp))))))) rfl (by kernel_rfl) trivial hS9 ?_
        refine a_op (i := 10) (fuel := 2) (listed' := #[true, true, true, true, true, true, true, true, true, true, true, false, false]) rfl rfl (by kernel_rfl) (by kernel_rfl) rfl (fun K hK => op_alloc (d := some 9) rfl rfl [Value.int .i64 0, Value.int .i64 0, Value.int .i64 0] (by kernel_rfl) hS9 (fun blk11 w10 hS10 => hK _ _ (fun _ => hS10.drop) ?_))
        clear hK K
        refine a_op (i := 11) (fuel := 1) (listed' := #[true, true, true, true, true, true, true, true, true, true, true, true, false]) rfl rfl (by kernel_rfl) (by kernel_rfl) rfl (fun K hK => op_store (d := none) rfl rfl (i := 0) (b := blk11) (off := 0) (cs := [Value.int .i64 0, Value.int .i64 0, Value.int .i64 0]) (bt := 25) (by kernel_rfl) (by kernel_rfl) [Value.int .i64 c, Value.int .i64 ((admP c ((batch c now (zs.take k) (a, t)).1) ((batch c now (zs.take k) (a, t)).2) z now).1), Value.int .i64 ((admP c ((batch c now (zs.take k) (a, t)).1) ((batch c now (zs.take k) (a, t)).2) z now).2.1)] (by kernel_rfl) (by kernel_rfl) (Nat.le_of_ble_eq_true (by kernel_rfl)) (by kernel_rfl) [Res.box blk11 [Value.int .i64 c, Value.int .i64 ((admP c ((batch c now (zs.take k) (a, t)).1) ((batch c now (zs.take k) (a, t)).2) z now).1), Value.int .i64 ((admP c ((batch c now (zs.take k) (a, t)).1) ((batch c now (zs.take k) (a, t)).2) z now).2.1)] 25, Res.row (Value.slice A2 (List.length (batchR c now (zs.take k) (a, t))) c2) 3 1 (List.length (batchR c now (zs.take k) (a, t))) ((batchR c now (zs.take k) (a, t)).map (Value.int .i64)), Res.box blk2 [Value.int .i64 c, Value.int .i64 ((batch c now (zs.take k) (a, t)).1), Value.int .i64 ((batch c now (zs.take k) (a, t)).2)] 25] (by kernel_rfl) hS10 (fun w12 hS12 => hK _ _ (fun _ => hS12.drop) ?_))
        clear hK K
        refine t_seg (S := (fun x_ => St w x_ [Res.row (Value.slice A2 (List.length (batchR c now (zs.take k) (a, t))) c2) 3 1 (List.length (batchR c now (zs.take k) (a, t))) ((batchR c now (zs.take k) (a, t)).map (Value.int .i64)), Res.box blk2 [Value.int .i64 c, Value.int .i64 ((batch c now (zs.take k) (a, t)).1), Value.int .i64 ((batch c now (zs.take k) (a, t)).2)] 25])) [(12, .no)] 0 #[true, true, true, true, true, true, true, true, true, true, true, true, true] [(10, Value.bool ((admP c ((batch c now (zs.take k) (a, t)).1) ((batch c now (zs.take k) (a, t)).2) z now).2.2))] True (by kernel_rfl) (Qpanic.then (Qpanic.then (Qpanic.block (Qpanic.then (Qpanic.then (Qpanic.block (Qpanic.then Qpanic.bp))))))) rfl (by kernel_rfl) trivial (hS12.drop) ?_
        refine a_done (by kernel_rfl) ?_
        refine then_n ?_
        exact ⟨blk11, _, FA_reset _ (agree_cons (by kernel_rfl) (agree_cons (by kernel_rfl) (agree_cons (by kernel_rfl) (agree_cons (by kernel_rfl) (agree_cons (by kernel_rfl) (agree_cons (by kernel_rfl) (agree_cons (by kernel_rfl) (agree_cons (by kernel_rfl) (agree_cons (by kernel_rfl) (agree_cons (by kernel_rfl) (agree_cons (by kernel_rfl) (agree_cons (by kernel_rfl) (agree_cons (by kernel_rfl) (agree_cons (by kernel_rfl) (agree_cons (by kernel_rfl) (agree_cons (by kernel_rfl) (agree_cons (by kernel_rfl) (agree_cons (by kernel_rfl) (agree_cons (by kernel_rfl) (agree_cons (by kernel_rfl) (agree_cons (by kernel_rfl) agree_nil))))))))))))))))))))), hS12⟩
      · intro K hK
        refine op_alloc (d := some 9) rfl rfl [Value.int .i64 0, Value.int .i64 0, Value.int .i64 0] (by kernel_rfl) hS8 (fun blk14 w13 hS13 => (hK _ _ (fun _ => hS13.drop) ?_))
        clear hK K
        refine a_op (i := 6) (fuel := 5) (listed' := #[true, true, true, true, true, true, true, false, false, false, true, false, false]) rfl rfl (by kernel_rfl) (by kernel_rfl) rfl (fun K hK => op_callv (d := some 25) rfl rfl ⟨_, Try.func21, by kernel_rfl, by kernel_rfl⟩ (vs := [Value.agg #[Value.int .i64 c, Value.int .i64 ((batch c now (zs.take k) (a, t)).1), Value.int .i64 ((batch c now (zs.take k) (a, t)).2)], Value.int .i64 z, Value.int .i64 now]) (by kernel_rfl) (v := Value.tuple #[Value.agg #[Value.int .i64 c, Value.int .i64 ((admP c ((batch c now (zs.take k) (a, t)).1) ((batch c now (zs.take k) (a, t)).2) z now).1), Value.int .i64 ((admP c ((batch c now (zs.take k) (a, t)).1) ((batch c now (zs.take k) (a, t)).2) z now).2.1)], Value.bool ((admP c ((batch c now (zs.take k) (a, t)).1) ((batch c now (zs.take k) (a, t)).2) z now).2.2)]) (AdmitRequest_s_c c ((batch c now (zs.take k) (a, t)).1) ((batch c now (zs.take k) (a, t)).2) z now  _) hS13 (fun w15 hS15 => hK _ _ (fun _ => hS15.drop) ?_))
        clear hK K
        refine t_seg (S := (fun x_ => St w x_ [Res.row (Value.slice A2 (List.length (batchR c now (zs.take k) (a, t))) c2) 3 1 (List.length (batchR c now (zs.take k) (a, t))) ((batchR c now (zs.take k) (a, t)).map (Value.int .i64)), Res.box blk2 [Value.int .i64 c, Value.int .i64 ((batch c now (zs.take k) (a, t)).1), Value.int .i64 ((batch c now (zs.take k) (a, t)).2)] 25])) [(7, .no), (8, .no), (9, .no)] 2 #[true, true, true, true, true, true, true, true, true, true, true, false, false] [(27, Value.bool ((admP c ((batch c now (zs.take k) (a, t)).1) ((batch c now (zs.take k) (a, t)).2) z now).2.2)), (26, Value.agg #[Value.int .i64 c, Value.int .i64 ((admP c ((batch c now (zs.take k) (a, t)).1) ((batch c now (zs.take k) (a, t)).2) z now).1), Value.int .i64 ((admP c ((batch c now (zs.take k) (a, t)).1) ((batch c now (zs.take k) (a, t)).2) z now).2.1)]), (18, Value.tuple #[Value.agg #[Value.int .i64 c, Value.int .i64 ((admP c ((batch c now (zs.take k) (a, t)).1) ((batch c now (zs.take k) (a, t)).2) z now).1), Value.int .i64 ((admP c ((batch c now (zs.take k) (a, t)).1) ((batch c now (zs.take k) (a, t)).2) z now).2.1)], Value.bool ((admP c ((batch c now (zs.take k) (a, t)).1) ((batch c now (zs.take k) (a, t)).2) z now).2.2)])] True (by kernel_rfl) (Qpanic.then (Qpanic.then (Qpanic.block (Qpanic.then (Qpanic.then (Qpanic.block (Qpanic.then Qpanic.bp))))))) rfl (by kernel_rfl) trivial (hS15.drop) ?_
        refine a_op (i := 11) (fuel := 1) (listed' := #[true, true, true, true, true, true, true, true, true, true, true, true, false]) rfl rfl (by kernel_rfl) (by kernel_rfl) rfl (fun K hK => op_store (d := none) rfl rfl (i := 0) (b := blk14) (off := 0) (cs := [Value.int .i64 0, Value.int .i64 0, Value.int .i64 0]) (bt := 25) (by kernel_rfl) (by kernel_rfl) [Value.int .i64 c, Value.int .i64 ((admP c ((batch c now (zs.take k) (a, t)).1) ((batch c now (zs.take k) (a, t)).2) z now).1), Value.int .i64 ((admP c ((batch c now (zs.take k) (a, t)).1) ((batch c now (zs.take k) (a, t)).2) z now).2.1)] (by kernel_rfl) (by kernel_rfl) (Nat.le_of_ble_eq_true (by kernel_rfl)) (by kernel_rfl) [Res.box blk14 [Value.int .i64 c, Value.int .i64 ((admP c ((batch c now (zs.take k) (a, t)).1) ((batch c now (zs.take k) (a, t)).2) z now).1), Value.int .i64 ((admP c ((batch c now (zs.take k) (a, t)).1) ((batch c now (zs.take k) (a, t)).2) z now).2.1)] 25, Res.row (Value.slice A2 (List.length (batchR c now (zs.take k) (a, t))) c2) 3 1 (List.length (batchR c now (zs.take k) (a, t))) ((batchR c now (zs.take k) (a, t)).map (Value.int .i64)), Res.box blk2 [Value.int .i64 c, Value.int .i64 ((batch c now (zs.take k) (a, t)).1), Value.int .i64 ((batch c now (zs.take k) (a, t)).2)] 25] (by kernel_rfl) hS15 (fun w16 hS16 => hK _ _ (fun _ => hS16.drop) ?_))
        clear hK K
        refine t_seg (S := (fun x_ => St w x_ [Res.row (Value.slice A2 (List.length (batchR c now (zs.take k) (a, t))) c2) 3 1 (List.length (batchR c now (zs.take k) (a, t))) ((batchR c now (zs.take k) (a, t)).map (Value.int .i64)), Res.box blk2 [Value.int .i64 c, Value.int .i64 ((batch c now (zs.take k) (a, t)).1), Value.int .i64 ((batch c now (zs.take k) (a, t)).2)] 25])) [(12, .no)] 0 #[true, true, true, true, true, true, true, true, true, true, true, true, true] [(10, Value.bool ((admP c ((batch c now (zs.take k) (a, t)).1) ((batch c now (zs.take k) (a, t)).2) z now).2.2))] True (by kernel_rfl) (Qpanic.then (Qpanic.then (Qpanic.block (Qpanic.then (Qpanic.then (Qpanic.block (Qpanic.then Qpanic.bp))))))) rfl (by kernel_rfl) trivial (hS16.drop) ?_
        refine a_done (by kernel_rfl) ?_
        refine then_n ?_
        exact ⟨blk14, _, FA_reset _ (agree_cons (by kernel_rfl) (agree_cons (by kernel_rfl) (agree_cons (by kernel_rfl) (agree_cons (by kernel_rfl) (agree_cons (by kernel_rfl) (agree_cons (by kernel_rfl) (agree_cons (by kernel_rfl) (agree_cons (by kernel_rfl) (agree_cons (by kernel_rfl) (agree_cons (by kernel_rfl) (agree_cons (by kernel_rfl) (agree_cons (by kernel_rfl) (agree_cons (by kernel_rfl) (agree_cons (by kernel_rfl) (agree_cons (by kernel_rfl) (agree_cons (by kernel_rfl) (agree_cons (by kernel_rfl) (agree_cons (by kernel_rfl) (agree_cons (by kernel_rfl) (agree_cons (by kernel_rfl) (agree_cons (by kernel_rfl) agree_nil))))))))))))))))))))), hS16⟩
    · skip
      rintro _ w17 ⟨bkc111, g18, rfl, hS17⟩
      refine then_n ?_
      refine wp_seq ?_
      refine c_reg ?_
      refine q_seg (S := (fun x_ => St w x_ [Res.box bkc111 [Value.int .i64 c, Value.int .i64 ((admP c ((batch c now (zs.take k) (a, t)).1) ((batch c now (zs.take k) (a, t)).2) z now).1), Value.int .i64 ((admP c ((batch c now (zs.take k) (a, t)).1) ((batch c now (zs.take k) (a, t)).2) z now).2.1)] 25, Res.row (Value.slice A2 (List.length (batchR c now (zs.take k) (a, t))) c2) 3 1 (List.length (batchR c now (zs.take k) (a, t))) ((batchR c now (zs.take k) (a, t)).map (Value.int .i64)), Res.box blk2 [Value.int .i64 c, Value.int .i64 ((batch c now (zs.take k) (a, t)).1), Value.int .i64 ((batch c now (zs.take k) (a, t)).2)] 25])) [(28, Value.agg #[Value.int .i64 c, Value.int .i64 ((admP c ((batch c now (zs.take k) (a, t)).1) ((batch c now (zs.take k) (a, t)).2) z now).1), Value.int .i64 ((admP c ((batch c now (zs.take k) (a, t)).1) ((batch c now (zs.take k) (a, t)).2) z now).2.1)])] [.v (Value.agg #[Value.int .i64 c, Value.int .i64 ((admP c ((batch c now (zs.take k) (a, t)).1) ((batch c now (zs.take k) (a, t)).2) z now).1), Value.int .i64 ((admP c ((batch c now (zs.take k) (a, t)).1) ((batch c now (zs.take k) (a, t)).2) z now).2.1)])] ((LoadsAt Try.prog (fun x_ => St w x_ [Res.box bkc111 [Value.int .i64 c, Value.int .i64 ((admP c ((batch c now (zs.take k) (a, t)).1) ((batch c now (zs.take k) (a, t)).2) z now).1), Value.int .i64 ((admP c ((batch c now (zs.take k) (a, t)).1) ((batch c now (zs.take k) (a, t)).2) z now).2.1)] 25, Res.row (Value.slice A2 (List.length (batchR c now (zs.take k) (a, t))) c2) 3 1 (List.length (batchR c now (zs.take k) (a, t))) ((batchR c now (zs.take k) (a, t)).map (Value.int .i64)), Res.box blk2 [Value.int .i64 c, Value.int .i64 ((batch c now (zs.take k) (a, t)).1), Value.int .i64 ((batch c now (zs.take k) (a, t)).2)] 25]) 25 ⟨bkc111, 0, none⟩ (Value.agg #[Value.int .i64 c, Value.int .i64 ((admP c ((batch c now (zs.take k) (a, t)).1) ((batch c now (zs.take k) (a, t)).2) z now).1), Value.int .i64 ((admP c ((batch c now (zs.take k) (a, t)).1) ((batch c now (zs.take k) (a, t)).2) z now).2.1)]))) (by kernel_rfl) (ld_boxN (i := 0) (k := 3) rfl rfl rfl (by kernel_rfl)) hS17 ?_
      refine l_op rfl rfl (fun K hK => op_store (d := none) rfl rfl (i := 2) (b := blk2) (off := 0) (cs := [Value.int .i64 c, Value.int .i64 ((batch c now (zs.take k) (a, t)).1), Value.int .i64 ((batch c now (zs.take k) (a, t)).2)]) (bt := 25) (by kernel_rfl) (by kernel_rfl) [Value.int .i64 c, Value.int .i64 ((admP c ((batch c now (zs.take k) (a, t)).1) ((batch c now (zs.take k) (a, t)).2) z now).1), Value.int .i64 ((admP c ((batch c now (zs.take k) (a, t)).1) ((batch c now (zs.take k) (a, t)).2) z now).2.1)] (by kernel_rfl) (by kernel_rfl) (Nat.le_of_ble_eq_true (by kernel_rfl)) (by kernel_rfl) [Res.box bkc111 [Value.int .i64 c, Value.int .i64 ((admP c ((batch c now (zs.take k) (a, t)).1) ((batch c now (zs.take k) (a, t)).2) z now).1), Value.int .i64 ((admP c ((batch c now (zs.take k) (a, t)).1) ((batch c now (zs.take k) (a, t)).2) z now).2.1)] 25, Res.row (Value.slice A2 (List.length (batchR c now (zs.take k) (a, t))) c2) 3 1 (List.length (batchR c now (zs.take k) (a, t))) ((batchR c now (zs.take k) (a, t)).map (Value.int .i64)), Res.box blk2 [Value.int .i64 c, Value.int .i64 ((admP c ((batch c now (zs.take k) (a, t)).1) ((batch c now (zs.take k) (a, t)).2) z now).1), Value.int .i64 ((admP c ((batch c now (zs.take k) (a, t)).1) ((batch c now (zs.take k) (a, t)).2) z now).2.1)] 25] (by kernel_rfl) hS17 (fun w19 hS19 => hK _ _ ?_))
      clear hK K
      refine l_nil rfl ?_
      refine then_n ?_
      refine wp_seq ?_
      refine c_reg ?_
      refine q_seg (S := (fun x_ => St w x_ [Res.box bkc111 [Value.int .i64 c, Value.int .i64 ((admP c ((batch c now (zs.take k) (a, t)).1) ((batch c now (zs.take k) (a, t)).2) z now).1), Value.int .i64 ((admP c ((batch c now (zs.take k) (a, t)).1) ((batch c now (zs.take k) (a, t)).2) z now).2.1)] 25, Res.row (Value.slice A2 (List.length (batchR c now (zs.take k) (a, t))) c2) 3 1 (List.length (batchR c now (zs.take k) (a, t))) ((batchR c now (zs.take k) (a, t)).map (Value.int .i64)), Res.box blk2 [Value.int .i64 c, Value.int .i64 ((admP c ((batch c now (zs.take k) (a, t)).1) ((batch c now (zs.take k) (a, t)).2) z now).1), Value.int .i64 ((admP c ((batch c now (zs.take k) (a, t)).1) ((batch c now (zs.take k) (a, t)).2) z now).2.1)] 25])) [(30, Value.bool (!((admP c ((batch c now (zs.take k) (a, t)).1) ((batch c now (zs.take k) (a, t)).2) z now).2.2))), (29, Value.bool ((admP c ((batch c now (zs.take k) (a, t)).1) ((batch c now (zs.take k) (a, t)).2) z now).2.2))] [.no, .no] True (by kernel_rfl) trivial hS19 ?_
      refine l_nil rfl ?_
      refine then_n ?_
      rcases Bool.eq_false_or_eq_true ((admP c ((batch c now (zs.take k) (a, t)).1) ((batch c now (zs.take k) (a, t)).2) z now).2.2) with hb20 | hb20
      · skip
        refine c_false (b := (!((admP c ((batch c now (zs.take k) (a, t)).1) ((batch c now (zs.take k) (a, t)).2) z now).2.2))) (by kernel_rfl) (nb (v := true) hb20) ?_
        refine wp_skip ?_
        refine blk_n ?_
        refine then_n ?_
        refine c_reg ?_
        refine q_seg (S := (fun x_ => St w x_ [Res.box bkc111 [Value.int .i64 c, Value.int .i64 ((admP c ((batch c now (zs.take k) (a, t)).1) ((batch c now (zs.take k) (a, t)).2) z now).1), Value.int .i64 ((admP c ((batch c now (zs.take k) (a, t)).1) ((batch c now (zs.take k) (a, t)).2) z now).2.1)] 25, Res.row (Value.slice A2 (List.length (batchR c now (zs.take k) (a, t))) c2) 3 1 (List.length (batchR c now (zs.take k) (a, t))) ((batchR c now (zs.take k) (a, t)).map (Value.int .i64)), Res.box blk2 [Value.int .i64 c, Value.int .i64 ((admP c ((batch c now (zs.take k) (a, t)).1) ((batch c now (zs.take k) (a, t)).2) z now).1), Value.int .i64 ((admP c ((batch c now (zs.take k) (a, t)).1) ((batch c now (zs.take k) (a, t)).2) z now).2.1)] 25])) [(8, Value.int .i64 (((k : Nat) : Int) + (1 : Int))), (17, Value.int .i64 (((k : Nat) : Int) + (1 : Int))), (16, Value.int .i64 ((k : Nat) : Int))] [.no, .no, .no] ((InK .i64 (((k : Nat) : Int) + (1 : Int)))) (by kernel_rfl) (in64 (by omega) (by omega)) hS19 ?_
        refine l_nil rfl ?_
        refine then_n ?_
        have hSe := (hS19.sub (List.Sublist.cons _ (List.Sublist.cons_cons _ (List.Sublist.cons_cons _ List.Sublist.slnil))))
        refine round_end ((k + 1, A2, c2)) ?_ ?_ ?_
        · exact (agree_cons (by kernel_rfl) (agree_cons (by kernel_rfl) (agree_eq (v0 := Value.slice A2 (List.length (batchR c now (zs.take k) (a, t))) c2) (by kernel_rfl) (congrArg (fun m => Value.slice A2 m c2) (by rw [take_get hzk, batchR_snoc, hb20]; simp)) (agree_cons (by kernel_rfl) (agree_cons (by kernel_rfl) agree_nil)))))
        · exact ⟨(by omega), (hSe.eqv (by rw [take_get hzk, batch_snoc, batchR_snoc, hb20]; simp))⟩
        · exact (by first | omega | (dsimp only; omega))
      · skip
        refine c_true (b := (!((admP c ((batch c now (zs.take k) (a, t)).1) ((batch c now (zs.take k) (a, t)).2) z now).2.2))) (by kernel_rfl) (nb (v := false) hb20) ?_
        refine c_reg ?_
        refine q_seg (S := (fun x_ => St w x_ [Res.box bkc111 [Value.int .i64 c, Value.int .i64 ((admP c ((batch c now (zs.take k) (a, t)).1) ((batch c now (zs.take k) (a, t)).2) z now).1), Value.int .i64 ((admP c ((batch c now (zs.take k) (a, t)).1) ((batch c now (zs.take k) (a, t)).2) z now).2.1)] 25, Res.row (Value.slice A2 (List.length (batchR c now (zs.take k) (a, t))) c2) 3 1 (List.length (batchR c now (zs.take k) (a, t))) ((batchR c now (zs.take k) (a, t)).map (Value.int .i64)), Res.box blk2 [Value.int .i64 c, Value.int .i64 ((admP c ((batch c now (zs.take k) (a, t)).1) ((batch c now (zs.take k) (a, t)).2) z now).1), Value.int .i64 ((admP c ((batch c now (zs.take k) (a, t)).1) ((batch c now (zs.take k) (a, t)).2) z now).2.1)] 25])) [(35, Value.int .i64 z), (34, Value.pointer (some ⟨b, off + Int.toNat ((k : Nat) : Int) * 1, none⟩)), (33, Value.int .i64 ((k : Nat) : Int)), (32, Value.slice (some ⟨b, off, none⟩) n cp), (31, Value.slice A2 (List.length (batchR c now (zs.take k) (a, t))) c2)] [.no, .no, .no, .no, .v (Value.int .i64 z)] (((0 : Int) ≤ ((k : Nat) : Int)) ∧ (((k : Nat) : Int) < ((n : Nat) : Int)) ∧ (LoadsAt Try.prog (fun x_ => St w x_ [Res.box bkc111 [Value.int .i64 c, Value.int .i64 ((admP c ((batch c now (zs.take k) (a, t)).1) ((batch c now (zs.take k) (a, t)).2) z now).1), Value.int .i64 ((admP c ((batch c now (zs.take k) (a, t)).1) ((batch c now (zs.take k) (a, t)).2) z now).2.1)] 25, Res.row (Value.slice A2 (List.length (batchR c now (zs.take k) (a, t))) c2) 3 1 (List.length (batchR c now (zs.take k) (a, t))) ((batchR c now (zs.take k) (a, t)).map (Value.int .i64)), Res.box blk2 [Value.int .i64 c, Value.int .i64 ((admP c ((batch c now (zs.take k) (a, t)).1) ((batch c now (zs.take k) (a, t)).2) z now).1), Value.int .i64 ((admP c ((batch c now (zs.take k) (a, t)).1) ((batch c now (zs.take k) (a, t)).2) z now).2.1)] 25]) 3 ⟨b, off + Int.toNat ((k : Nat) : Int) * 1, none⟩ (Value.int .i64 z))) (by kernel_rfl) ⟨(by omega), (by omega), (ld_low (hcl _ _ (by simp [hzk])) (by kernel_rfl))⟩ hS19 ?_
        refine l_op rfl rfl (fun K hK => op_buildSlice (d := some 36) rfl rfl (e := 3) (by kernel_rfl) 1 (by kernel_rfl) (by decide) (by decide) [Value.int .i64 z] (by kernel_rfl) rfl hS19 (fun blk22 w21 hS21 => hK _ _ ?_))
        clear hK K
        refine l_op rfl rfl (fun K hK => op_append (d := some 37) rfl rfl elInt hS21 (i := 2) rfl rfl rfl (news := [Value.int .i64 z]) (hS21.rd (List.mem_of_getElem? (i := 0) rfl)) (all_one (by rfl)) (by omega) (by omega) (fun v24 w23 hS23 => hK _ _ ?_))
        clear hK K
        obtain ⟨hlv24, Av24, cv24, hvv24, hnv24, hmv24⟩ := hS23.row_slice (List.mem_of_getElem? (i := 2) rfl)
        subst hvv24
        refine q_seg (S := (fun x_ => St w x_ [Res.row (Value.slice (some ⟨blk22, 0, none⟩) 1 1) 3 1 1 ([Value.int .i64 z]), Res.box bkc111 [Value.int .i64 c, Value.int .i64 ((admP c ((batch c now (zs.take k) (a, t)).1) ((batch c now (zs.take k) (a, t)).2) z now).1), Value.int .i64 ((admP c ((batch c now (zs.take k) (a, t)).1) ((batch c now (zs.take k) (a, t)).2) z now).2.1)] 25, Res.row (Value.slice Av24 ((List.length (batchR c now (zs.take k) (a, t))) + 1) cv24) 3 1 ((List.length (batchR c now (zs.take k) (a, t))) + 1) (((batchR c now (zs.take k) (a, t)).map (Value.int .i64)) ++ [Value.int .i64 z]), Res.box blk2 [Value.int .i64 c, Value.int .i64 ((admP c ((batch c now (zs.take k) (a, t)).1) ((batch c now (zs.take k) (a, t)).2) z now).1), Value.int .i64 ((admP c ((batch c now (zs.take k) (a, t)).1) ((batch c now (zs.take k) (a, t)).2) z now).2.1)] 25])) [(7, Value.slice Av24 ((List.length (batchR c now (zs.take k) (a, t))) + 1) cv24)] [.no] True (by kernel_rfl) trivial hS23 ?_
        refine l_nil rfl ?_
        refine blk_n ?_
        refine then_n ?_
        refine c_reg ?_
        refine q_seg (S := (fun x_ => St w x_ [Res.row (Value.slice (some ⟨blk22, 0, none⟩) 1 1) 3 1 1 ([Value.int .i64 z]), Res.box bkc111 [Value.int .i64 c, Value.int .i64 ((admP c ((batch c now (zs.take k) (a, t)).1) ((batch c now (zs.take k) (a, t)).2) z now).1), Value.int .i64 ((admP c ((batch c now (zs.take k) (a, t)).1) ((batch c now (zs.take k) (a, t)).2) z now).2.1)] 25, Res.row (Value.slice Av24 ((List.length (batchR c now (zs.take k) (a, t))) + 1) cv24) 3 1 ((List.length (batchR c now (zs.take k) (a, t))) + 1) (((batchR c now (zs.take k) (a, t)).map (Value.int .i64)) ++ [Value.int .i64 z]), Res.box blk2 [Value.int .i64 c, Value.int .i64 ((admP c ((batch c now (zs.take k) (a, t)).1) ((batch c now (zs.take k) (a, t)).2) z now).1), Value.int .i64 ((admP c ((batch c now (zs.take k) (a, t)).1) ((batch c now (zs.take k) (a, t)).2) z now).2.1)] 25])) [(8, Value.int .i64 (((k : Nat) : Int) + (1 : Int))), (17, Value.int .i64 (((k : Nat) : Int) + (1 : Int))), (16, Value.int .i64 ((k : Nat) : Int))] [.no, .no, .no] ((InK .i64 (((k : Nat) : Int) + (1 : Int)))) (by kernel_rfl) (in64 (by omega) (by omega)) hS23 ?_
        refine l_nil rfl ?_
        refine then_n ?_
        have hSe := (hS23.sub (List.Sublist.cons _ (List.Sublist.cons _ (List.Sublist.cons_cons _ (List.Sublist.cons_cons _ List.Sublist.slnil)))))
        refine round_end ((k + 1, Av24, cv24)) ?_ ?_ ?_
        · exact (agree_cons (by kernel_rfl) (agree_cons (by kernel_rfl) (agree_eq (v0 := Value.slice Av24 ((List.length (batchR c now (zs.take k) (a, t))) + 1) cv24) (by kernel_rfl) (congrArg (fun m => Value.slice Av24 m cv24) (by rw [take_get hzk, batchR_snoc, hb20]; simp)) (agree_cons (by kernel_rfl) (agree_cons (by kernel_rfl) agree_nil)))))
        · exact ⟨(by omega), (hSe.eqv (by rw [take_get hzk, batch_snoc, batchR_snoc, hb20]; simp))⟩
        · exact (by first | omega | (dsimp only; omega))
  · skip
    have hb7p := of_decide_eq_false hb7
    refine c_false (b := (decide (((k : Nat) : Int) < ((n : Nat) : Int)))) (by kernel_rfl) hb7 ?_
    refine wp_exit ?_
    refine then_x ?_
    refine then_x ?_
    refine blk_hit ?_
    refine then_n ?_
    refine wp_seq ?_
    refine c_reg ?_
    refine q_seg (S := (fun x_ => St w x_ [Res.row (Value.slice A2 (List.length (batchR c now (zs.take k) (a, t))) c2) 3 1 (List.length (batchR c now (zs.take k) (a, t))) ((batchR c now (zs.take k) (a, t)).map (Value.int .i64)), Res.box blk2 [Value.int .i64 c, Value.int .i64 ((batch c now (zs.take k) (a, t)).1), Value.int .i64 ((batch c now (zs.take k) (a, t)).2)] 25])) [(6, Value.slice A2 (List.length (batchR c now (zs.take k) (a, t))) c2), (38, Value.slice A2 (List.length (batchR c now (zs.take k) (a, t))) c2)] [.no, .no] True (by kernel_rfl) trivial hS5 ?_
    refine l_nil rfl ?_
    refine then_n ?_
    refine wp_ret ?_
    have hkn2 : zs.take k = zs := take_all (by have := hr.len; omega)
    exact c_end (S := (fun x_ => St w x_ [Res.row (Value.slice A2 (List.length (batchR c now (zs.take k) (a, t))) c2) 3 1 (List.length (batchR c now (zs.take k) (a, t))) ((batchR c now (zs.take k) (a, t)).map (Value.int .i64)), Res.box blk2 [Value.int .i64 c, Value.int .i64 ((batch c now (zs.take k) (a, t)).1), Value.int .i64 ((batch c now (zs.take k) (a, t)).2)] 25])) (rs := [.tmp 6]) rfl [] (v := Value.slice A2 (List.length (batchR c now (zs.take k) (a, t))) c2) (C := True) (by kernel_rfl) trivial hS5 (((hS5.sub (List.Sublist.cons_cons _ (List.Sublist.cons _ List.Sublist.slnil))).eqv (by rw [hkn2])).rt ⟨_, _, by rw [hkn2], rfl⟩)
end Go.Proofs.Ytdbbaiflhofkaaa
