/-
  Contracts of the signaling functions, of the program and of the reference; the walks of the laws.
-/
import Derived.Test.YtpbempcbodoajaaG01
import Derived.Test.YtpbempcbodoajaaTypes
namespace Go.Proofs.Ytpbempcbodoajaa
open Go.RowKit
set_option maxRecDepth 100000


theorem toAuthVector_c (a0 : Int) (a1 : Int) (a2 : Int) (a3 : Int) (a4 : Int) (w : World) : Calls Try.prog 29 #[Value.agg #[Value.int .i64 a0, Value.int .i64 a1, Value.int .i64 a2, Value.int .i64 a3, Value.int .i64 a4]] w (RetV w (Value.agg #[Value.int .i64 a0, Value.int .i64 a1, Value.int .i64 a2, Value.int .i64 a3, Value.int .i64 a4])) := by
  refine calls_FA Try.func29 rfl (n := 20) rfl (l := [(0, Value.agg #[Value.int .i64 a0, Value.int .i64 a1, Value.int .i64 a2, Value.int .i64 a3, Value.int .i64 a4])]) rfl (by simp) (fun g => ?_)
  have hS := St.init w
  refine wp_seq ?_
  refine c_reg ?_
  refine l_op rfl rfl (fun K hK => op_box (d := some 1) rfl rfl [Value.int .i64 a0, Value.int .i64 a1, Value.int .i64 a2, Value.int .i64 a3, Value.int .i64 a4] (by kernel_rfl) hS (fun blk2 w1 hS1 => hK _ _ ?_))
  clear hK K
  refine l_op rfl rfl (fun K hK => op_alloc (d := some 2) rfl rfl [Value.int .i64 0, Value.int .i64 0, Value.int .i64 0, Value.int .i64 0, Value.int .i64 0] (by kernel_rfl) hS1 (fun blk4 w3 hS3 => hK _ _ ?_))
  clear hK K
  refine l_nil rfl ?_
  refine then_n ?_
  refine wp_seq ?_
  refine c_reg ?_
  refine l_op rfl rfl (fun K hK => op_alloc (d := some 3) rfl rfl [Value.int .i64 0, Value.int .i64 0, Value.int .i64 0, Value.int .i64 0, Value.int .i64 0] (by kernel_rfl) hS3 (fun blk6 w5 hS5 => hK _ _ ?_))
  clear hK K
  refine l_nil rfl ?_
  refine then_n ?_
  refine wp_seq ?_
  refine c_reg ?_
  refine q_seg (S := (fun x_ => St w x_ [Res.box blk6 [Value.int .i64 0, Value.int .i64 0, Value.int .i64 0, Value.int .i64 0, Value.int .i64 0] 27, Res.box blk4 [Value.int .i64 0, Value.int .i64 0, Value.int .i64 0, Value.int .i64 0, Value.int .i64 0] 27, Res.box blk2 [Value.int .i64 a0, Value.int .i64 a1, Value.int .i64 a2, Value.int .i64 a3, Value.int .i64 a4] 23])) [(6, Value.pointer (some ⟨blk6, 0 + 0, none⟩)), (5, Value.int .i64 a0), (4, Value.pointer (some ⟨blk2, 0 + 0, none⟩))] [.no, .v (Value.int .i64 a0), .no] ((LoadsAt Try.prog (fun x_ => St w x_ [Res.box blk6 [Value.int .i64 0, Value.int .i64 0, Value.int .i64 0, Value.int .i64 0, Value.int .i64 0] 27, Res.box blk4 [Value.int .i64 0, Value.int .i64 0, Value.int .i64 0, Value.int .i64 0, Value.int .i64 0] 27, Res.box blk2 [Value.int .i64 a0, Value.int .i64 a1, Value.int .i64 a2, Value.int .i64 a3, Value.int .i64 a4] 23]) 3 ⟨blk2, 0 + 0, none⟩ (Value.int .i64 a0))) (by kernel_rfl) (ld_box (i := 2) rfl rfl (by kernel_rfl)) hS5 ?_
  refine l_op rfl rfl (fun K hK => op_store (d := none) rfl rfl (i := 0) (b := blk6) (off := 0 + 0) (cs := [Value.int .i64 0, Value.int .i64 0, Value.int .i64 0, Value.int .i64 0, Value.int .i64 0]) (bt := 27) (by kernel_rfl) (by kernel_rfl) [Value.int .i64 a0] (by kernel_rfl) (by kernel_rfl) (Nat.le_of_ble_eq_true (by kernel_rfl)) (by kernel_rfl) [Res.box blk6 [Value.int .i64 a0, Value.int .i64 0, Value.int .i64 0, Value.int .i64 0, Value.int .i64 0] 27, Res.box blk4 [Value.int .i64 0, Value.int .i64 0, Value.int .i64 0, Value.int .i64 0, Value.int .i64 0] 27, Res.box blk2 [Value.int .i64 a0, Value.int .i64 a1, Value.int .i64 a2, Value.int .i64 a3, Value.int .i64 a4] 23] (by kernel_rfl) hS5 (fun w7 hS7 => hK _ _ ?_))
  clear hK K
  refine l_nil rfl ?_
  refine then_n ?_
  refine wp_seq ?_
  refine c_reg ?_
  refine q_seg (S := (fun x_ => St w x_ [Res.box blk6 [Value.int .i64 a0, Value.int .i64 0, Value.int .i64 0, Value.int .i64 0, Value.int .i64 0] 27, Res.box blk4 [Value.int .i64 0, Value.int .i64 0, Value.int .i64 0, Value.int .i64 0, Value.int .i64 0] 27, Res.box blk2 [Value.int .i64 a0, Value.int .i64 a1, Value.int .i64 a2, Value.int .i64 a3, Value.int .i64 a4] 23])) [(9, Value.pointer (some ⟨blk6, 0 + 1, none⟩)), (8, Value.int .i64 a1), (7, Value.pointer (some ⟨blk2, 0 + 1, none⟩))] [.no, .v (Value.int .i64 a1), .no] ((LoadsAt Try.prog (fun x_ => St w x_ [Res.box blk6 [Value.int .i64 a0, Value.int .i64 0, Value.int .i64 0, Value.int .i64 0, Value.int .i64 0] 27, Res.box blk4 [Value.int .i64 0, Value.int .i64 0, Value.int .i64 0, Value.int .i64 0, Value.int .i64 0] 27, Res.box blk2 [Value.int .i64 a0, Value.int .i64 a1, Value.int .i64 a2, Value.int .i64 a3, Value.int .i64 a4] 23]) 3 ⟨blk2, 0 + 1, none⟩ (Value.int .i64 a1))) (by kernel_rfl) (ld_box (i := 2) rfl rfl (by kernel_rfl)) hS7 ?_
  refine l_op rfl rfl (fun K hK => op_store (d := none) rfl rfl (i := 0) (b := blk6) (off := 0 + 1) (cs := [Value.int .i64 a0, Value.int .i64 0, Value.int .i64 0, Value.int .i64 0, Value.int .i64 0]) (bt := 27) (by kernel_rfl) (by kernel_rfl) [Value.int .i64 a1] (by kernel_rfl) (by kernel_rfl) (Nat.le_of_ble_eq_true (by kernel_rfl)) (by kernel_rfl) [Res.box blk6 [Value.int .i64 a0, Value.int .i64 a1, Value.int .i64 0, Value.int .i64 0, Value.int .i64 0] 27, Res.box blk4 [Value.int .i64 0, Value.int .i64 0, Value.int .i64 0, Value.int .i64 0, Value.int .i64 0] 27, Res.box blk2 [Value.int .i64 a0, Value.int .i64 a1, Value.int .i64 a2, Value.int .i64 a3, Value.int .i64 a4] 23] (by kernel_rfl) hS7 (fun w8 hS8 => hK _ _ ?_))
  clear hK K
  refine l_nil rfl ?_
  refine then_n ?_
  refine wp_seq ?_
  refine c_reg ?_
  refine q_seg (S := (fun x_ => St w x_ [Res.box blk6 [Value.int .i64 a0, Value.int .i64 a1, Value.int .i64 0, Value.int .i64 0, Value.int .i64 0] 27, Res.box blk4 [Value.int .i64 0, Value.int .i64 0, Value.int .i64 0, Value.int .i64 0, Value.int .i64 0] 27, Res.box blk2 [Value.int .i64 a0, Value.int .i64 a1, Value.int .i64 a2, Value.int .i64 a3, Value.int .i64 a4] 23])) [(12, Value.pointer (some ⟨blk6, 0 + 2, none⟩)), (11, Value.int .i64 a2), (10, Value.pointer (some ⟨blk2, 0 + 2, none⟩))] [.no, .v (Value.int .i64 a2), .no] ((LoadsAt Try.prog (fun x_ => St w x_ [Res.box blk6 [Value.int .i64 a0, Value.int .i64 a1, Value.int .i64 0, Value.int .i64 0, Value.int .i64 0] 27, Res.box blk4 [Value.int .i64 0, Value.int .i64 0, Value.int .i64 0, Value.int .i64 0, Value.int .i64 0] 27, Res.box blk2 [Value.int .i64 a0, Value.int .i64 a1, Value.int .i64 a2, Value.int .i64 a3, Value.int .i64 a4] 23]) 3 ⟨blk2, 0 + 2, none⟩ (Value.int .i64 a2))) (by kernel_rfl) (ld_box (i := 2) rfl rfl (by kernel_rfl)) hS8 ?_
  refine l_op rfl rfl (fun K hK => op_store (d := none) rfl rfl (i := 0) (b := blk6) (off := 0 + 2) (cs := [Value.int .i64 a0, Value.int .i64 a1, Value.int .i64 0, Value.int .i64 0, Value.int .i64 0]) (bt := 27) (by kernel_rfl) (by kernel_rfl) [Value.int .i64 a2] (by kernel_rfl) (by kernel_rfl) (Nat.le_of_ble_eq_true (by kernel_rfl)) (by kernel_rfl) [Res.box blk6 [Value.int .i64 a0, Value.int .i64 a1, Value.int .i64 a2, Value.int .i64 0, Value.int .i64 0] 27, Res.box blk4 [Value.int .i64 0, Value.int .i64 0, Value.int .i64 0, Value.int .i64 0, Value.int .i64 0] 27, Res.box blk2 [Value.int .i64 a0, Value.int .i64 a1, Value.int .i64 a2, Value.int .i64 a3, Value.int .i64 a4] 23] (by kernel_rfl) hS8 (fun w9 hS9 => hK _ _ ?_))
  clear hK K
  refine l_nil rfl ?_
  refine then_n ?_
  refine wp_seq ?_
  refine c_reg ?_
  refine q_seg (S := (fun x_ => St w x_ [Res.box blk6 [Value.int .i64 a0, Value.int .i64 a1, Value.int .i64 a2, Value.int .i64 0, Value.int .i64 0] 27, Res.box blk4 [Value.int .i64 0, Value.int .i64 0, Value.int .i64 0, Value.int .i64 0, Value.int .i64 0] 27, Res.box blk2 [Value.int .i64 a0, Value.int .i64 a1, Value.int .i64 a2, Value.int .i64 a3, Value.int .i64 a4] 23])) [(15, Value.pointer (some ⟨blk6, 0 + 3, none⟩)), (14, Value.int .i64 a3), (13, Value.pointer (some ⟨blk2, 0 + 3, none⟩))] [.no, .v (Value.int .i64 a3), .no] ((LoadsAt Try.prog (fun x_ => St w x_ [Res.box blk6 [Value.int .i64 a0, Value.int .i64 a1, Value.int .i64 a2, Value.int .i64 0, Value.int .i64 0] 27, Res.box blk4 [Value.int .i64 0, Value.int .i64 0, Value.int .i64 0, Value.int .i64 0, Value.int .i64 0] 27, Res.box blk2 [Value.int .i64 a0, Value.int .i64 a1, Value.int .i64 a2, Value.int .i64 a3, Value.int .i64 a4] 23]) 3 ⟨blk2, 0 + 3, none⟩ (Value.int .i64 a3))) (by kernel_rfl) (ld_box (i := 2) rfl rfl (by kernel_rfl)) hS9 ?_
  refine l_op rfl rfl (fun K hK => op_store (d := none) rfl rfl (i := 0) (b := blk6) (off := 0 + 3) (cs := [Value.int .i64 a0, Value.int .i64 a1, Value.int .i64 a2, Value.int .i64 0, Value.int .i64 0]) (bt := 27) (by kernel_rfl) (by kernel_rfl) [Value.int .i64 a3] (by kernel_rfl) (by kernel_rfl) (Nat.le_of_ble_eq_true (by kernel_rfl)) (by kernel_rfl) [Res.box blk6 [Value.int .i64 a0, Value.int .i64 a1, Value.int .i64 a2, Value.int .i64 a3, Value.int .i64 0] 27, Res.box blk4 [Value.int .i64 0, Value.int .i64 0, Value.int .i64 0, Value.int .i64 0, Value.int .i64 0] 27, Res.box blk2 [Value.int .i64 a0, Value.int .i64 a1, Value.int .i64 a2, Value.int .i64 a3, Value.int .i64 a4] 23] (by kernel_rfl) hS9 (fun w10 hS10 => hK _ _ ?_))
  clear hK K
  refine l_nil rfl ?_
  refine then_n ?_
  refine wp_seq ?_
  refine c_reg ?_
  refine q_seg (S := (fun x_ => St w x_ [Res.box blk6 [Value.int .i64 a0, Value.int .i64 a1, Value.int .i64 a2, Value.int .i64 a3, Value.int .i64 0] 27, Res.box blk4 [Value.int .i64 0, Value.int .i64 0, Value.int .i64 0, Value.int .i64 0, Value.int .i64 0] 27, Res.box blk2 [Value.int .i64 a0, Value.int .i64 a1, Value.int .i64 a2, Value.int .i64 a3, Value.int .i64 a4] 23])) [(18, Value.pointer (some ⟨blk6, 0 + 4, none⟩)), (17, Value.int .i64 a4), (16, Value.pointer (some ⟨blk2, 0 + 4, none⟩))] [.no, .v (Value.int .i64 a4), .no] ((LoadsAt Try.prog (fun x_ => St w x_ [Res.box blk6 [Value.int .i64 a0, Value.int .i64 a1, Value.int .i64 a2, Value.int .i64 a3, Value.int .i64 0] 27, Res.box blk4 [Value.int .i64 0, Value.int .i64 0, Value.int .i64 0, Value.int .i64 0, Value.int .i64 0] 27, Res.box blk2 [Value.int .i64 a0, Value.int .i64 a1, Value.int .i64 a2, Value.int .i64 a3, Value.int .i64 a4] 23]) 3 ⟨blk2, 0 + 4, none⟩ (Value.int .i64 a4))) (by kernel_rfl) (ld_box (i := 2) rfl rfl (by kernel_rfl)) hS10 ?_
  refine l_op rfl rfl (fun K hK => op_store (d := none) rfl rfl (i := 0) (b := blk6) (off := 0 + 4) (cs := [Value.int .i64 a0, Value.int .i64 a1, Value.int .i64 a2, Value.int .i64 a3, Value.int .i64 0]) (bt := 27) (by kernel_rfl) (by kernel_rfl) [Value.int .i64 a4] (by kernel_rfl) (by kernel_rfl) (Nat.le_of_ble_eq_true (by kernel_rfl)) (by kernel_rfl) [Res.box blk6 [Value.int .i64 a0, Value.int .i64 a1, Value.int .i64 a2, Value.int .i64 a3, Value.int .i64 a4] 27, Res.box blk4 [Value.int .i64 0, Value.int .i64 0, Value.int .i64 0, Value.int .i64 0, Value.int .i64 0] 27, Res.box blk2 [Value.int .i64 a0, Value.int .i64 a1, Value.int .i64 a2, Value.int .i64 a3, Value.int .i64 a4] 23] (by kernel_rfl) hS10 (fun w11 hS11 => hK _ _ ?_))
  clear hK K
  refine l_nil rfl ?_
  refine then_n ?_
  refine wp_seq ?_
  refine c_reg ?_
  refine q_seg (S := (fun x_ => St w x_ [Res.box blk6 [Value.int .i64 a0, Value.int .i64 a1, Value.int .i64 a2, Value.int .i64 a3, Value.int .i64 a4] 27, Res.box blk4 [Value.int .i64 0, Value.int .i64 0, Value.int .i64 0, Value.int .i64 0, Value.int .i64 0] 27, Res.box blk2 [Value.int .i64 a0, Value.int .i64 a1, Value.int .i64 a2, Value.int .i64 a3, Value.int .i64 a4] 23])) [(19, Value.agg #[Value.int .i64 a0, Value.int .i64 a1, Value.int .i64 a2, Value.int .i64 a3, Value.int .i64 a4])] [.v (Value.agg #[Value.int .i64 a0, Value.int .i64 a1, Value.int .i64 a2, Value.int .i64 a3, Value.int .i64 a4])] ((LoadsAt Try.prog (fun x_ => St w x_ [Res.box blk6 [Value.int .i64 a0, Value.int .i64 a1, Value.int .i64 a2, Value.int .i64 a3, Value.int .i64 a4] 27, Res.box blk4 [Value.int .i64 0, Value.int .i64 0, Value.int .i64 0, Value.int .i64 0, Value.int .i64 0] 27, Res.box blk2 [Value.int .i64 a0, Value.int .i64 a1, Value.int .i64 a2, Value.int .i64 a3, Value.int .i64 a4] 23]) 27 ⟨blk6, 0, none⟩ (Value.agg #[Value.int .i64 a0, Value.int .i64 a1, Value.int .i64 a2, Value.int .i64 a3, Value.int .i64 a4]))) (by kernel_rfl) (ld_boxN (i := 0) (k := 5) rfl rfl rfl (by kernel_rfl)) hS11 ?_
  refine l_op rfl rfl (fun K hK => op_store (d := none) rfl rfl (i := 1) (b := blk4) (off := 0) (cs := [Value.int .i64 0, Value.int .i64 0, Value.int .i64 0, Value.int .i64 0, Value.int .i64 0]) (bt := 27) (by kernel_rfl) (by kernel_rfl) [Value.int .i64 a0, Value.int .i64 a1, Value.int .i64 a2, Value.int .i64 a3, Value.int .i64 a4] (by kernel_rfl) (by kernel_rfl) (Nat.le_of_ble_eq_true (by kernel_rfl)) (by kernel_rfl) [Res.box blk6 [Value.int .i64 a0, Value.int .i64 a1, Value.int .i64 a2, Value.int .i64 a3, Value.int .i64 a4] 27, Res.box blk4 [Value.int .i64 a0, Value.int .i64 a1, Value.int .i64 a2, Value.int .i64 a3, Value.int .i64 a4] 27, Res.box blk2 [Value.int .i64 a0, Value.int .i64 a1, Value.int .i64 a2, Value.int .i64 a3, Value.int .i64 a4] 23] (by kernel_rfl) hS11 (fun w12 hS12 => hK _ _ ?_))
  clear hK K
  refine l_nil rfl ?_
  refine then_n ?_
  refine wp_ret ?_
  exact c_end (S := (fun x_ => St w x_ [Res.box blk6 [Value.int .i64 a0, Value.int .i64 a1, Value.int .i64 a2, Value.int .i64 a3, Value.int .i64 a4] 27, Res.box blk4 [Value.int .i64 a0, Value.int .i64 a1, Value.int .i64 a2, Value.int .i64 a3, Value.int .i64 a4] 27, Res.box blk2 [Value.int .i64 a0, Value.int .i64 a1, Value.int .i64 a2, Value.int .i64 a3, Value.int .i64 a4] 23])) (rs := [.cell 2 27]) rfl [Value.agg #[Value.int .i64 a0, Value.int .i64 a1, Value.int .i64 a2, Value.int .i64 a3, Value.int .i64 a4]] (v := Value.agg #[Value.int .i64 a0, Value.int .i64 a1, Value.int .i64 a2, Value.int .i64 a3, Value.int .i64 a4]) (C := ((LoadsAt Try.prog (fun x_ => St w x_ [Res.box blk6 [Value.int .i64 a0, Value.int .i64 a1, Value.int .i64 a2, Value.int .i64 a3, Value.int .i64 a4] 27, Res.box blk4 [Value.int .i64 a0, Value.int .i64 a1, Value.int .i64 a2, Value.int .i64 a3, Value.int .i64 a4] 27, Res.box blk2 [Value.int .i64 a0, Value.int .i64 a1, Value.int .i64 a2, Value.int .i64 a3, Value.int .i64 a4] 23]) 27 ⟨blk4, 0, none⟩ (Value.agg #[Value.int .i64 a0, Value.int .i64 a1, Value.int .i64 a2, Value.int .i64 a3, Value.int .i64 a4])))) (by kernel_rfl) (ld_boxN (i := 1) (k := 5) rfl rfl rfl (by kernel_rfl)) hS12 ((hS12.rv rfl))

theorem toSubscriberID_c (a0 : Int) (a1 : Int) (w : World) : Calls Try.prog 16 #[Value.agg #[Value.int .i64 a0, Value.int .i64 a1]] w (RetV w (Value.agg #[Value.int .i64 a0, Value.int .i64 a1])) := by
  refine calls_FA Try.func16 rfl (n := 11) rfl (l := [(0, Value.agg #[Value.int .i64 a0, Value.int .i64 a1])]) rfl (by simp) (fun g => ?_)
  have hS := St.init w
  refine wp_seq ?_
  refine c_reg ?_
  refine l_op rfl rfl (fun K hK => op_box (d := some 1) rfl rfl [Value.int .i64 a0, Value.int .i64 a1] (by kernel_rfl) hS (fun blk2 w1 hS1 => hK _ _ ?_))
  clear hK K
  refine l_op rfl rfl (fun K hK => op_alloc (d := some 2) rfl rfl [Value.int .i64 0, Value.int .i64 0] (by kernel_rfl) hS1 (fun blk4 w3 hS3 => hK _ _ ?_))
  clear hK K
  refine l_nil rfl ?_
  refine then_n ?_
  refine wp_seq ?_
  refine c_reg ?_
  refine l_op rfl rfl (fun K hK => op_alloc (d := some 3) rfl rfl [Value.int .i64 0, Value.int .i64 0] (by kernel_rfl) hS3 (fun blk6 w5 hS5 => hK _ _ ?_))
  clear hK K
  refine l_nil rfl ?_
  refine then_n ?_
  refine wp_seq ?_
  refine c_reg ?_
  refine q_seg (S := (fun x_ => St w x_ [Res.box blk6 [Value.int .i64 0, Value.int .i64 0] 35, Res.box blk4 [Value.int .i64 0, Value.int .i64 0] 35, Res.box blk2 [Value.int .i64 a0, Value.int .i64 a1] 33])) [(6, Value.pointer (some ⟨blk6, 0 + 0, none⟩)), (5, Value.int .i64 a0), (4, Value.pointer (some ⟨blk2, 0 + 0, none⟩))] [.no, .v (Value.int .i64 a0), .no] ((LoadsAt Try.prog (fun x_ => St w x_ [Res.box blk6 [Value.int .i64 0, Value.int .i64 0] 35, Res.box blk4 [Value.int .i64 0, Value.int .i64 0] 35, Res.box blk2 [Value.int .i64 a0, Value.int .i64 a1] 33]) 3 ⟨blk2, 0 + 0, none⟩ (Value.int .i64 a0))) (by kernel_rfl) (ld_box (i := 2) rfl rfl (by kernel_rfl)) hS5 ?_
  refine l_op rfl rfl (fun K hK => op_store (d := none) rfl rfl (i := 0) (b := blk6) (off := 0 + 0) (cs := [Value.int .i64 0, Value.int .i64 0]) (bt := 35) (by kernel_rfl) (by kernel_rfl) [Value.int .i64 a0] (by kernel_rfl) (by kernel_rfl) (Nat.le_of_ble_eq_true (by kernel_rfl)) (by kernel_rfl) [Res.box blk6 [Value.int .i64 a0, Value.int .i64 0] 35, Res.box blk4 [Value.int .i64 0, Value.int .i64 0] 35, Res.box blk2 [Value.int .i64 a0, Value.int .i64 a1] 33] (by kernel_rfl) hS5 (fun w7 hS7 => hK _ _ ?_))
  clear hK K
  refine l_nil rfl ?_
  refine then_n ?_
  refine wp_seq ?_
  refine c_reg ?_
  refine q_seg (S := (fun x_ => St w x_ [Res.box blk6 [Value.int .i64 a0, Value.int .i64 0] 35, Res.box blk4 [Value.int .i64 0, Value.int .i64 0] 35, Res.box blk2 [Value.int .i64 a0, Value.int .i64 a1] 33])) [(9, Value.pointer (some ⟨blk6, 0 + 1, none⟩)), (8, Value.int .i64 a1), (7, Value.pointer (some ⟨blk2, 0 + 1, none⟩))] [.no, .v (Value.int .i64 a1), .no] ((LoadsAt Try.prog (fun x_ => St w x_ [Res.box blk6 [Value.int .i64 a0, Value.int .i64 0] 35, Res.box blk4 [Value.int .i64 0, Value.int .i64 0] 35, Res.box blk2 [Value.int .i64 a0, Value.int .i64 a1] 33]) 3 ⟨blk2, 0 + 1, none⟩ (Value.int .i64 a1))) (by kernel_rfl) (ld_box (i := 2) rfl rfl (by kernel_rfl)) hS7 ?_
  refine l_op rfl rfl (fun K hK => op_store (d := none) rfl rfl (i := 0) (b := blk6) (off := 0 + 1) (cs := [Value.int .i64 a0, Value.int .i64 0]) (bt := 35) (by kernel_rfl) (by kernel_rfl) [Value.int .i64 a1] (by kernel_rfl) (by kernel_rfl) (Nat.le_of_ble_eq_true (by kernel_rfl)) (by kernel_rfl) [Res.box blk6 [Value.int .i64 a0, Value.int .i64 a1] 35, Res.box blk4 [Value.int .i64 0, Value.int .i64 0] 35, Res.box blk2 [Value.int .i64 a0, Value.int .i64 a1] 33] (by kernel_rfl) hS7 (fun w8 hS8 => hK _ _ ?_))
  clear hK K
  refine l_nil rfl ?_
  refine then_n ?_
  refine wp_seq ?_
  refine c_reg ?_
  refine q_seg (S := (fun x_ => St w x_ [Res.box blk6 [Value.int .i64 a0, Value.int .i64 a1] 35, Res.box blk4 [Value.int .i64 0, Value.int .i64 0] 35, Res.box blk2 [Value.int .i64 a0, Value.int .i64 a1] 33])) [(10, Value.agg #[Value.int .i64 a0, Value.int .i64 a1])] [.v (Value.agg #[Value.int .i64 a0, Value.int .i64 a1])] ((LoadsAt Try.prog (fun x_ => St w x_ [Res.box blk6 [Value.int .i64 a0, Value.int .i64 a1] 35, Res.box blk4 [Value.int .i64 0, Value.int .i64 0] 35, Res.box blk2 [Value.int .i64 a0, Value.int .i64 a1] 33]) 35 ⟨blk6, 0, none⟩ (Value.agg #[Value.int .i64 a0, Value.int .i64 a1]))) (by kernel_rfl) (ld_boxN (i := 0) (k := 2) rfl rfl rfl (by kernel_rfl)) hS8 ?_
  refine l_op rfl rfl (fun K hK => op_store (d := none) rfl rfl (i := 1) (b := blk4) (off := 0) (cs := [Value.int .i64 0, Value.int .i64 0]) (bt := 35) (by kernel_rfl) (by kernel_rfl) [Value.int .i64 a0, Value.int .i64 a1] (by kernel_rfl) (by kernel_rfl) (Nat.le_of_ble_eq_true (by kernel_rfl)) (by kernel_rfl) [Res.box blk6 [Value.int .i64 a0, Value.int .i64 a1] 35, Res.box blk4 [Value.int .i64 a0, Value.int .i64 a1] 35, Res.box blk2 [Value.int .i64 a0, Value.int .i64 a1] 33] (by kernel_rfl) hS8 (fun w9 hS9 => hK _ _ ?_))
  clear hK K
  refine l_nil rfl ?_
  refine then_n ?_
  refine wp_ret ?_
  exact c_end (S := (fun x_ => St w x_ [Res.box blk6 [Value.int .i64 a0, Value.int .i64 a1] 35, Res.box blk4 [Value.int .i64 a0, Value.int .i64 a1] 35, Res.box blk2 [Value.int .i64 a0, Value.int .i64 a1] 33])) (rs := [.cell 2 35]) rfl [Value.agg #[Value.int .i64 a0, Value.int .i64 a1]] (v := Value.agg #[Value.int .i64 a0, Value.int .i64 a1]) (C := ((LoadsAt Try.prog (fun x_ => St w x_ [Res.box blk6 [Value.int .i64 a0, Value.int .i64 a1] 35, Res.box blk4 [Value.int .i64 a0, Value.int .i64 a1] 35, Res.box blk2 [Value.int .i64 a0, Value.int .i64 a1] 33]) 35 ⟨blk4, 0, none⟩ (Value.agg #[Value.int .i64 a0, Value.int .i64 a1])))) (by kernel_rfl) (ld_boxN (i := 1) (k := 2) rfl rfl rfl (by kernel_rfl)) hS9 ((hS9.rv rfl))

theorem toSignal_c (a0 : Int) (a1 : Int) (a2 : Int) (a3 : Int) (a4 : Int) (a5 : Int) (a6 : Int) (a7 : Int) (a8 : Int) (a9 : Int) (a10 : Int) (w : World) : Calls Try.prog 11 #[Value.agg #[Value.int .i64 a0, Value.int .i64 a1, Value.int .i64 a2, Value.int .i64 a3, Value.int .i64 a4, Value.int .i64 a5, Value.int .i64 a6, Value.int .i64 a7, Value.int .i64 a8, Value.int .i64 a9, Value.int .i64 a10]] w (RetV w (Value.agg #[Value.int .i64 a0, Value.int .i64 a1, Value.int .i64 a2, Value.int .i64 a3, Value.int .i64 a4, Value.int .i64 a5, Value.int .i64 a6, Value.int .i64 a7, Value.int .i64 a8, Value.int .i64 a9, Value.int .i64 a10])) := by
  refine calls_FA Try.func11 rfl (n := 27) rfl (l := [(0, Value.agg #[Value.int .i64 a0, Value.int .i64 a1, Value.int .i64 a2, Value.int .i64 a3, Value.int .i64 a4, Value.int .i64 a5, Value.int .i64 a6, Value.int .i64 a7, Value.int .i64 a8, Value.int .i64 a9, Value.int .i64 a10])]) rfl (by simp) (fun g => ?_)
  have hS := St.init w
  refine wp_seq ?_
  refine c_reg ?_
  refine l_op rfl rfl (fun K hK => op_box (d := some 1) rfl rfl [Value.int .i64 a0, Value.int .i64 a1, Value.int .i64 a2, Value.int .i64 a3, Value.int .i64 a4, Value.int .i64 a5, Value.int .i64 a6, Value.int .i64 a7, Value.int .i64 a8, Value.int .i64 a9, Value.int .i64 a10] (by kernel_rfl) hS (fun blk2 w1 hS1 => hK _ _ ?_))
  clear hK K
  refine l_op rfl rfl (fun K hK => op_alloc (d := some 2) rfl rfl [Value.int .i64 0, Value.int .i64 0, Value.int .i64 0, Value.int .i64 0, Value.int .i64 0, Value.int .i64 0, Value.int .i64 0, Value.int .i64 0, Value.int .i64 0, Value.int .i64 0, Value.int .i64 0] (by kernel_rfl) hS1 (fun blk4 w3 hS3 => hK _ _ ?_))
  clear hK K
  refine l_nil rfl ?_
  refine then_n ?_
  refine wp_seq ?_
  refine c_reg ?_
  refine l_op rfl rfl (fun K hK => op_alloc (d := some 3) rfl rfl [Value.int .i64 0, Value.int .i64 0, Value.int .i64 0, Value.int .i64 0, Value.int .i64 0, Value.int .i64 0, Value.int .i64 0, Value.int .i64 0, Value.int .i64 0, Value.int .i64 0, Value.int .i64 0] (by kernel_rfl) hS3 (fun blk6 w5 hS5 => hK _ _ ?_))
  clear hK K
  refine l_nil rfl ?_
  refine then_n ?_
  refine wp_seq ?_
  refine c_reg ?_
  refine q_seg (S := (fun x_ => St w x_ [Res.box blk6 [Value.int .i64 0, Value.int .i64 0, Value.int .i64 0, Value.int .i64 0, Value.int .i64 0, Value.int .i64 0, Value.int .i64 0, Value.int .i64 0, Value.int .i64 0, Value.int .i64 0, Value.int .i64 0] 29, Res.box blk4 [Value.int .i64 0, Value.int .i64 0, Value.int .i64 0, Value.int .i64 0, Value.int .i64 0, Value.int .i64 0, Value.int .i64 0, Value.int .i64 0, Value.int .i64 0, Value.int .i64 0, Value.int .i64 0] 29, Res.box blk2 [Value.int .i64 a0, Value.int .i64 a1, Value.int .i64 a2, Value.int .i64 a3, Value.int .i64 a4, Value.int .i64 a5, Value.int .i64 a6, Value.int .i64 a7, Value.int .i64 a8, Value.int .i64 a9, Value.int .i64 a10] 25])) [(6, Value.pointer (some ⟨blk6, 0 + 0, none⟩)), (5, Value.int .i64 a0), (4, Value.pointer (some ⟨blk2, 0 + 0, none⟩))] [.no, .v (Value.int .i64 a0), .no] ((LoadsAt Try.prog (fun x_ => St w x_ [Res.box blk6 [Value.int .i64 0, Value.int .i64 0, Value.int .i64 0, Value.int .i64 0, Value.int .i64 0, Value.int .i64 0, Value.int .i64 0, Value.int .i64 0, Value.int .i64 0, Value.int .i64 0, Value.int .i64 0] 29, Res.box blk4 [Value.int .i64 0, Value.int .i64 0, Value.int .i64 0, Value.int .i64 0, Value.int .i64 0, Value.int .i64 0, Value.int .i64 0, Value.int .i64 0, Value.int .i64 0, Value.int .i64 0, Value.int .i64 0] 29, Res.box blk2 [Value.int .i64 a0, Value.int .i64 a1, Value.int .i64 a2, Value.int .i64 a3, Value.int .i64 a4, Value.int .i64 a5, Value.int .i64 a6, Value.int .i64 a7, Value.int .i64 a8, Value.int .i64 a9, Value.int .i64 a10] 25]) 3 ⟨blk2, 0 + 0, none⟩ (Value.int .i64 a0))) (by kernel_rfl) (ld_box (i := 2) rfl rfl (by kernel_rfl)) hS5 ?_
  refine l_op rfl rfl (fun K hK => op_store (d := none) rfl rfl (i := 0) (b := blk6) (off := 0 + 0) (cs := [Value.int .i64 0, Value.int .i64 0, Value.int .i64 0, Value.int .i64 0, Value.int .i64 0, Value.int .i64 0, Value.int .i64 0, Value.int .i64 0, Value.int .i64 0, Value.int .i64 0, Value.int .i64 0]) (bt := 29) (by kernel_rfl) (by kernel_rfl) [Value.int .i64 a0] (by kernel_rfl) (by kernel_rfl) (Nat.le_of_ble_eq_true (by kernel_rfl)) (by kernel_rfl) [Res.box blk6 [Value.int .i64 a0, Value.int .i64 0, Value.int .i64 0, Value.int .i64 0, Value.int .i64 0, Value.int .i64 0, Value.int .i64 0, Value.int .i64 0, Value.int .i64 0, Value.int .i64 0, Value.int .i64 0] 29, Res.box blk4 [Value.int .i64 0, Value.int .i64 0, Value.int .i64 0, Value.int .i64 0, Value.int .i64 0, Value.int .i64 0, Value.int .i64 0, Value.int .i64 0, Value.int .i64 0, Value.int .i64 0, Value.int .i64 0] 29, Res.box blk2 [Value.int .i64 a0, Value.int .i64 a1, Value.int .i64 a2, Value.int .i64 a3, Value.int .i64 a4, Value.int .i64 a5, Value.int .i64 a6, Value.int .i64 a7, Value.int .i64 a8, Value.int .i64 a9, Value.int .i64 a10] 25] (by kernel_rfl) hS5 (fun w7 hS7 => hK _ _ ?_))
  clear hK K
  refine l_nil rfl ?_
  refine then_n ?_
  refine wp_seq ?_
  refine c_reg ?_
  refine q_seg (S := (fun x_ => St w x_ [Res.box blk6 [Value.int .i64 a0, Value.int .i64 0, Value.int .i64 0, Value.int .i64 0, Value.int .i64 0, Value.int .i64 0, Value.int .i64 0, Value.int .i64 0, Value.int .i64 0, Value.int .i64 0, Value.int .i64 0] 29, Res.box blk4 [Value.int .i64 0, Value.int .i64 0, Value.int .i64 0, Value.int .i64 0, Value.int .i64 0, Value.int .i64 0, Value.int .i64 0, Value.int .i64 0, Value.int .i64 0, Value.int .i64 0, Value.int .i64 0] 29, Res.box blk2 [Value.int .i64 a0, Value.int .i64 a1, Value.int .i64 a2, Value.int .i64 a3, Value.int .i64 a4, Value.int .i64 a5, Value.int .i64 a6, Value.int .i64 a7, Value.int .i64 a8, Value.int .i64 a9, Value.int .i64 a10] 25])) [(9, Value.pointer (some ⟨blk6, 0 + 1, none⟩)), (8, Value.int .i64 a1), (7, Value.pointer (some ⟨blk2, 0 + 1, none⟩))] [.no, .v (Value.int .i64 a1), .no] ((LoadsAt Try.prog (fun x_ => St w x_ [Res.box blk6 [Value.int .i64 a0, Value.int .i64 0, Value.int .i64 0, Value.int .i64 0, Value.int .i64 0, Value.int .i64 0, Value.int .i64 0, Value.int .i64 0, Value.int .i64 0, Value.int .i64 0, Value.int .i64 0] 29, Res.box blk4 [Value.int .i64 0, Value.int .i64 0, Value.int .i64 0, Value.int .i64 0, Value.int .i64 0, Value.int .i64 0, Value.int .i64 0, Value.int .i64 0, Value.int .i64 0, Value.int .i64 0, Value.int .i64 0] 29, Res.box blk2 [Value.int .i64 a0, Value.int .i64 a1, Value.int .i64 a2, Value.int .i64 a3, Value.int .i64 a4, Value.int .i64 a5, Value.int .i64 a6, Value.int .i64 a7, Value.int .i64 a8, Value.int .i64 a9, Value.int .i64 a10] 25]) 3 ⟨blk2, 0 + 1, none⟩ (Value.int .i64 a1))) (by kernel_rfl) (ld_box (i := 2) rfl rfl (by kernel_rfl)) hS7 ?_
  refine l_op rfl rfl (fun K hK => op_store (d := none) rfl rfl (i := 0) (b := blk6) (off := 0 + 1) (cs := [Value.int .i64 a0, Value.int .i64 0, Value.int .i64 0, Value.int .i64 0, Value.int .i64 0, Value.int .i64 0, Value.int .i64 0, Value.int .i64 0, Value.int .i64 0, Value.int .i64 0, Value.int .i64 0]) (bt := 29) (by kernel_rfl) (by kernel_rfl) [Value.int .i64 a1] (by kernel_rfl) (by kernel_rfl) (Nat.le_of_ble_eq_true (by kernel_rfl)) (by kernel_rfl) [Res.box blk6 [Value.int .i64 a0, Value.int .i64 a1, Value.int .i64 0, Value.int .i64 0, Value.int .i64 0, Value.int .i64 0, Value.int .i64 0, Value.int .i64 0, Value.int .i64 0, Value.int .i64 0, Value.int .i64 0] 29, Res.box blk4 [Value.int .i64 0, Value.int .i64 0, Value.int .i64 0, Value.int .i64 0, Value.int .i64 0, Value.int .i64 0, Value.int .i64 0, Value.int .i64 0, Value.int .i64 0, Value.int .i64 0, Value.int .i64 0] 29, Res.box blk2 [Value.int .i64 a0, Value.int .i64 a1, Value.int .i64 a2, Value.int .i64 a3, Value.int .i64 a4, Value.int .i64 a5, Value.int .i64 a6, Value.int .i64 a7, Value.int .i64 a8, Value.int .i64 a9, Value.int .i64 a10] 25] (by kernel_rfl) hS7 (fun w8 hS8 => hK _ _ ?_))
  clear hK K
  refine l_nil rfl ?_
  refine then_n ?_
  refine wp_seq ?_
  refine c_reg ?_
  refine q_seg (S := (fun x_ => St w x_ [Res.box blk6 [Value.int .i64 a0, Value.int .i64 a1, Value.int .i64 0, Value.int .i64 0, Value.int .i64 0, Value.int .i64 0, Value.int .i64 0, Value.int .i64 0, Value.int .i64 0, Value.int .i64 0, Value.int .i64 0] 29, Res.box blk4 [Value.int .i64 0, Value.int .i64 0, Value.int .i64 0, Value.int .i64 0, Value.int .i64 0, Value.int .i64 0, Value.int .i64 0, Value.int .i64 0, Value.int .i64 0, Value.int .i64 0, Value.int .i64 0] 29, Res.box blk2 [Value.int .i64 a0, Value.int .i64 a1, Value.int .i64 a2, Value.int .i64 a3, Value.int .i64 a4, Value.int .i64 a5, Value.int .i64 a6, Value.int .i64 a7, Value.int .i64 a8, Value.int .i64 a9, Value.int .i64 a10] 25])) [(12, Value.pointer (some ⟨blk6, 0 + 2, none⟩)), (11, Value.int .i64 a2), (10, Value.pointer (some ⟨blk2, 0 + 2, none⟩))] [.no, .v (Value.int .i64 a2), .no] ((LoadsAt Try.prog (fun x_ => St w x_ [Res.box blk6 [Value.int .i64 a0, Value.int .i64 a1, Value.int .i64 0, Value.int .i64 0, Value.int .i64 0, Value.int .i64 0, Value.int .i64 0, Value.int .i64 0, Value.int .i64 0, Value.int .i64 0, Value.int .i64 0] 29, Res.box blk4 [Value.int .i64 0, Value.int .i64 0, Value.int .i64 0, Value.int .i64 0, Value.int .i64 0, Value.int .i64 0, Value.int .i64 0, Value.int .i64 0, Value.int .i64 0, Value.int .i64 0, Value.int .i64 0] 29, Res.box blk2 [Value.int .i64 a0, Value.int .i64 a1, Value.int .i64 a2, Value.int .i64 a3, Value.int .i64 a4, Value.int .i64 a5, Value.int .i64 a6, Value.int .i64 a7, Value.int .i64 a8, Value.int .i64 a9, Value.int .i64 a10] 25]) 3 ⟨blk2, 0 + 2, none⟩ (Value.int .i64 a2))) (by kernel_rfl) (ld_box (i := 2) rfl rfl (by kernel_rfl)) hS8 ?_
  refine l_op rfl rfl (fun K hK => op_store (d := none) rfl rfl (i := 0) (b := blk6) (off := 0 + 2) (cs := [Value.int .i64 a0, Value.int .i64 a1, Value.int .i64 0, Value.int .i64 0, Value.int .i64 0, Value.int .i64 0, Value.int .i64 0, Value.int .i64 0, Value.int .i64 0, Value.int .i64 0, Value.int .i64 0]) (bt := 29) (by kernel_rfl) (by kernel_rfl) [Value.int .i64 a2] (by kernel_rfl) (by kernel_rfl) (Nat.le_of_ble_eq_true (by kernel_rfl)) (by kernel_rfl) [Res.box blk6 [Value.int .i64 a0, Value.int .i64 a1, Value.int .i64 a2, Value.int .i64 0, Value.int .i64 0, Value.int .i64 0, Value.int .i64 0, Value.int .i64 0, Value.int .i64 0, Value.int .i64 0, Value.int .i64 0] 29, Res.box blk4 [Value.int .i64 0, Value.int .i64 0, Value.int .i64 0, Value.int .i64 0, Value.int .i64 0, Value.int .i64 0, Value.int .i64 0, Value.int .i64 0, Value.int .i64 0, Value.int .i64 0, Value.int .i64 0] 29, Res.box blk2 [Value.int .i64 a0, Value.int .i64 a1, Value.int .i64 a2, Value.int .i64 a3, Value.int .i64 a4, Value.int .i64 a5, Value.int .i64 a6, Value.int .i64 a7, Value.int .i64 a8, Value.int .i64 a9, Value.int .i64 a10] 25] (by kernel_rfl) hS8 (fun w9 hS9 => hK _ _ ?_))
  clear hK K
  refine l_nil rfl ?_
  refine then_n ?_
  refine wp_seq ?_
  refine c_reg ?_
  refine q_seg (S := (fun x_ => St w x_ [Res.box blk6 [Value.int .i64 a0, Value.int .i64 a1, Value.int .i64 a2, Value.int .i64 0, Value.int .i64 0, Value.int .i64 0, Value.int .i64 0, Value.int .i64 0, Value.int .i64 0, Value.int .i64 0, Value.int .i64 0] 29, Res.box blk4 [Value.int .i64 0, Value.int .i64 0, Value.int .i64 0, Value.int .i64 0, Value.int .i64 0, Value.int .i64 0, Value.int .i64 0, Value.int .i64 0, Value.int .i64 0, Value.int .i64 0, Value.int .i64 0] 29, Res.box blk2 [Value.int .i64 a0, Value.int .i64 a1, Value.int .i64 a2, Value.int .i64 a3, Value.int .i64 a4, Value.int .i64 a5, Value.int .i64 a6, Value.int .i64 a7, Value.int .i64 a8, Value.int .i64 a9, Value.int .i64 a10] 25])) [(15, Value.pointer (some ⟨blk6, 0 + 3, none⟩)), (14, Value.int .i64 a3), (13, Value.pointer (some ⟨blk2, 0 + 3, none⟩))] [.no, .v (Value.int .i64 a3), .no] ((LoadsAt Try.prog (fun x_ => St w x_ [Res.box blk6 [Value.int .i64 a0, Value.int .i64 a1, Value.int .i64 a2, Value.int .i64 0, Value.int .i64 0, Value.int .i64 0, Value.int .i64 0, Value.int .i64 0, Value.int .i64 0, Value.int .i64 0, Value.int .i64 0] 29, Res.box blk4 [Value.int .i64 0, Value.int .i64 0, Value.int .i64 0, Value.int .i64 0, Value.int .i64 0, Value.int .i64 0, Value.int .i64 0, Value.int .i64 0, Value.int .i64 0, Value.int .i64 0, Value.int .i64 0] 29, Res.box blk2 [Value.int .i64 a0, Value.int .i64 a1, Value.int .i64 a2, Value.int .i64 a3, Value.int .i64 a4, Value.int .i64 a5, Value.int .i64 a6, Value.int .i64 a7, Value.int .i64 a8, Value.int .i64 a9, Value.int .i64 a10] 25]) 3 ⟨blk2, 0 + 3, none⟩ (Value.int .i64 a3))) (by kernel_rfl) (ld_box (i := 2) rfl rfl (by kernel_rfl)) hS9 ?_
  refine l_op rfl rfl (fun K hK => op_store (d := none) rfl rfl (i := 0) (b := blk6) (off := 0 + 3) (cs := [Value.int .i64 a0, Value.int .i64 a1, Value.int .i64 a2, Value.int .i64 0, Value.int .i64 0, Value.int .i64 0, Value.int .i64 0, Value.int .i64 0, Value.int .i64 0, Value.int .i64 0, Value.int .i64 0]) (bt := 29) (by kernel_rfl) (by kernel_rfl) [Value.int .i64 a3] (by kernel_rfl) (by kernel_rfl) (Nat.le_of_ble_eq_true (by kernel_rfl)) (by kernel_rfl) [Res.box blk6 [Value.int .i64 a0, Value.int .i64 a1, Value.int .i64 a2, Value.int .i64 a3, Value.int .i64 0, Value.int .i64 0, Value.int .i64 0, Value.int .i64 0, Value.int .i64 0, Value.int .i64 0, Value.int .i64 0] 29, Res.box blk4 [Value.int .i64 0, Value.int .i64 0, Value.int .i64 0, Value.int .i64 0, Value.int .i64 0, Value.int .i64 0, Value.int .i64 0, Value.int .i64 0, Value.int .i64 0, Value.int .i64 0, Value.int .i64 0] 29, Res.box blk2 [Value.int .i64 a0, Value.int .i64 a1, Value.int .i64 a2, Value.int .i64 a3, Value.int .i64 a4, Value.int .i64 a5, Value.int .i64 a6, Value.int .i64 a7, Value.int .i64 a8, Value.int .i64 a9, Value.int .i64 a10] 25] (by kernel_rfl) hS9 (fun w10 hS10 => hK _ _ ?_))
  clear hK K
  refine l_nil rfl ?_
  refine then_n ?_
  refine wp_seq ?_
  refine c_reg ?_
  refine q_seg (S := (fun x_ => St w x_ [Res.box blk6 [Value.int .i64 a0, Value.int .i64 a1, Value.int .i64 a2, Value.int .i64 a3, Value.int .i64 0, Value.int .i64 0, Value.int .i64 0, Value.int .i64 0, Value.int .i64 0, Value.int .i64 0, Value.int .i64 0] 29, Res.box blk4 [Value.int .i64 0, Value.int .i64 0, Value.int .i64 0, Value.int .i64 0, Value.int .i64 0, Value.int .i64 0, Value.int .i64 0, Value.int .i64 0, Value.int .i64 0, Value.int .i64 0, Value.int .i64 0] 29, Res.box blk2 [Value.int .i64 a0, Value.int .i64 a1, Value.int .i64 a2, Value.int .i64 a3, Value.int .i64 a4, Value.int .i64 a5, Value.int .i64 a6, Value.int .i64 a7, Value.int .i64 a8, Value.int .i64 a9, Value.int .i64 a10] 25])) [(18, Value.pointer (some ⟨blk6, 0 + 4, none⟩)), (17, Value.int .i64 a4), (16, Value.pointer (some ⟨blk2, 0 + 4, none⟩))] [.no, .v (Value.int .i64 a4), .no] ((LoadsAt Try.prog (fun x_ => St w x_ [Res.box blk6 [Value.int .i64 a0, Value.int .i64 a1, Value.int .i64 a2, Value.int .i64 a3, Value.int .i64 0, Value.int .i64 0, Value.int .i64 0, Value.int .i64 0, Value.int .i64 0, Value.int .i64 0, Value.int .i64 0] 29, Res.box blk4 [Value.int .i64 0, Value.int .i64 0, Value.int .i64 0, Value.int .i64 0, Value.int .i64 0, Value.int .i64 0, Value.int .i64 0, Value.int .i64 0, Value.int .i64 0, Value.int .i64 0, Value.int .i64 0] 29, Res.box blk2 [Value.int .i64 a0, Value.int .i64 a1, Value.int .i64 a2, Value.int .i64 a3, Value.int .i64 a4, Value.int .i64 a5, Value.int .i64 a6, Value.int .i64 a7, Value.int .i64 a8, Value.int .i64 a9, Value.int .i64 a10] 25]) 3 ⟨blk2, 0 + 4, none⟩ (Value.int .i64 a4))) (by kernel_rfl) (ld_box (i := 2) rfl rfl (by kernel_rfl)) hS10 ?_
  refine l_op rfl rfl (fun K hK => op_store (d := none) rfl rfl (i := 0) (b := blk6) (off := 0 + 4) (cs := [Value.int .i64 a0, Value.int .i64 a1, Value.int .i64 a2, Value.int .i64 a3, Value.int .i64 0, Value.int .i64 0, Value.int .i64 0, Value.int .i64 0, Value.int .i64 0, Value.int .i64 0, Value.int .i64 0]) (bt := 29) (by kernel_rfl) (by kernel_rfl) [Value.int .i64 a4] (by kernel_rfl) (by kernel_rfl) (Nat.le_of_ble_eq_true (by kernel_rfl)) (by kernel_rfl) [Res.box blk6 [Value.int .i64 a0, Value.int .i64 a1, Value.int .i64 a2, Value.int .i64 a3, Value.int .i64 a4, Value.int .i64 0, Value.int .i64 0, Value.int .i64 0, Value.int .i64 0, Value.int .i64 0, Value.int .i64 0] 29, Res.box blk4 [Value.int .i64 0, Value.int .i64 0, Value.int .i64 0, Value.int .i64 0, Value.int .i64 0, Value.int .i64 0, Value.int .i64 0, Value.int .i64 0, Value.int .i64 0, Value.int .i64 0, Value.int .i64 0] 29, Res.box blk2 [Value.int .i64 a0, Value.int .i64 a1, Value.int .i64 a2, Value.int .i64 a3, Value.int .i64 a4, Value.int .i64 a5, Value.int .i64 a6, Value.int .i64 a7, Value.int .i64 a8, Value.int .i64 a9, Value.int .i64 a10] 25] (by kernel_rfl) hS10 (fun w11 hS11 => hK _ _ ?_))
  clear hK K
  refine l_nil rfl ?_
  refine then_n ?_
  refine wp_seq ?_
  refine c_reg ?_
  refine q_seg (S := (fun x_ => St w x_ [Res.box blk6 [Value.int .i64 a0, Value.int .i64 a1, Value.int .i64 a2, Value.int .i64 a3, Value.int .i64 a4, Value.int .i64 0, Value.int .i64 0, Value.int .i64 0, Value.int .i64 0, Value.int .i64 0, Value.int .i64 0] 29, Res.box blk4 [Value.int .i64 0, Value.int .i64 0, Value.int .i64 0, Value.int .i64 0, Value.int .i64 0, Value.int .i64 0, Value.int .i64 0, Value.int .i64 0, Value.int .i64 0, Value.int .i64 0, Value.int .i64 0] 29, Res.box blk2 [Value.int .i64 a0, Value.int .i64 a1, Value.int .i64 a2, Value.int .i64 a3, Value.int .i64 a4, Value.int .i64 a5, Value.int .i64 a6, Value.int .i64 a7, Value.int .i64 a8, Value.int .i64 a9, Value.int .i64 a10] 25])) [(20, Value.agg #[Value.int .i64 a5, Value.int .i64 a6, Value.int .i64 a7, Value.int .i64 a8, Value.int .i64 a9]), (19, Value.pointer (some ⟨blk2, 0 + 5, none⟩))] [.no, .v (Value.agg #[Value.int .i64 a5, Value.int .i64 a6, Value.int .i64 a7, Value.int .i64 a8, Value.int .i64 a9])] ((LoadsAt Try.prog (fun x_ => St w x_ [Res.box blk6 [Value.int .i64 a0, Value.int .i64 a1, Value.int .i64 a2, Value.int .i64 a3, Value.int .i64 a4, Value.int .i64 0, Value.int .i64 0, Value.int .i64 0, Value.int .i64 0, Value.int .i64 0, Value.int .i64 0] 29, Res.box blk4 [Value.int .i64 0, Value.int .i64 0, Value.int .i64 0, Value.int .i64 0, Value.int .i64 0, Value.int .i64 0, Value.int .i64 0, Value.int .i64 0, Value.int .i64 0, Value.int .i64 0, Value.int .i64 0] 29, Res.box blk2 [Value.int .i64 a0, Value.int .i64 a1, Value.int .i64 a2, Value.int .i64 a3, Value.int .i64 a4, Value.int .i64 a5, Value.int .i64 a6, Value.int .i64 a7, Value.int .i64 a8, Value.int .i64 a9, Value.int .i64 a10] 25]) 23 ⟨blk2, 0 + 5, none⟩ (Value.agg #[Value.int .i64 a5, Value.int .i64 a6, Value.int .i64 a7, Value.int .i64 a8, Value.int .i64 a9]))) (by kernel_rfl) (ld_boxN (i := 2) (k := 5) rfl rfl rfl (by kernel_rfl)) hS11 ?_
  refine l_op rfl rfl (fun K hK => op_callv (d := some 21) rfl rfl ⟨_, Try.func29, by kernel_rfl, by kernel_rfl⟩ (vs := [Value.agg #[Value.int .i64 a5, Value.int .i64 a6, Value.int .i64 a7, Value.int .i64 a8, Value.int .i64 a9]]) (by kernel_rfl) (v := Value.agg #[Value.int .i64 a5, Value.int .i64 a6, Value.int .i64 a7, Value.int .i64 a8, Value.int .i64 a9]) (toAuthVector_c a5 a6 a7 a8 a9  _) hS11 (fun w12 hS12 => hK _ _ ?_))
  clear hK K
  refine q_seg (S := (fun x_ => St w x_ [Res.box blk6 [Value.int .i64 a0, Value.int .i64 a1, Value.int .i64 a2, Value.int .i64 a3, Value.int .i64 a4, Value.int .i64 0, Value.int .i64 0, Value.int .i64 0, Value.int .i64 0, Value.int .i64 0, Value.int .i64 0] 29, Res.box blk4 [Value.int .i64 0, Value.int .i64 0, Value.int .i64 0, Value.int .i64 0, Value.int .i64 0, Value.int .i64 0, Value.int .i64 0, Value.int .i64 0, Value.int .i64 0, Value.int .i64 0, Value.int .i64 0] 29, Res.box blk2 [Value.int .i64 a0, Value.int .i64 a1, Value.int .i64 a2, Value.int .i64 a3, Value.int .i64 a4, Value.int .i64 a5, Value.int .i64 a6, Value.int .i64 a7, Value.int .i64 a8, Value.int .i64 a9, Value.int .i64 a10] 25])) [(22, Value.pointer (some ⟨blk6, 0 + 5, none⟩))] [.no] True (by kernel_rfl) trivial hS12 ?_
  refine l_op rfl rfl (fun K hK => op_store (d := none) rfl rfl (i := 0) (b := blk6) (off := 0 + 5) (cs := [Value.int .i64 a0, Value.int .i64 a1, Value.int .i64 a2, Value.int .i64 a3, Value.int .i64 a4, Value.int .i64 0, Value.int .i64 0, Value.int .i64 0, Value.int .i64 0, Value.int .i64 0, Value.int .i64 0]) (bt := 29) (by kernel_rfl) (by kernel_rfl) [Value.int .i64 a5, Value.int .i64 a6, Value.int .i64 a7, Value.int .i64 a8, Value.int .i64 a9] (by kernel_rfl) (by kernel_rfl) (Nat.le_of_ble_eq_true (by kernel_rfl)) (by kernel_rfl) [Res.box blk6 [Value.int .i64 a0, Value.int .i64 a1, Value.int .i64 a2, Value.int .i64 a3, Value.int .i64 a4, Value.int .i64 a5, Value.int .i64 a6, Value.int .i64 a7, Value.int .i64 a8, Value.int .i64 a9, Value.int .i64 0] 29, Res.box blk4 [Value.int .i64 0, Value.int .i64 0, Value.int .i64 0, Value.int .i64 0, Value.int .i64 0, Value.int .i64 0, Value.int .i64 0, Value.int .i64 0, Value.int .i64 0, Value.int .i64 0, Value.int .i64 0] 29, Res.box blk2 [Value.int .i64 a0, Value.int .i64 a1, Value.int .i64 a2, Value.int .i64 a3, Value.int .i64 a4, Value.int .i64 a5, Value.int .i64 a6, Value.int .i64 a7, Value.int .i64 a8, Value.int .i64 a9, Value.int .i64 a10] 25] (by kernel_rfl) hS12 (fun w13 hS13 => hK _ _ ?_))
  clear hK K
  refine l_nil rfl ?_
  refine then_n ?_
  refine wp_seq ?_
  refine c_reg ?_
  refine q_seg (S := (fun x_ => St w x_ [Res.box blk6 [Value.int .i64 a0, Value.int .i64 a1, Value.int .i64 a2, Value.int .i64 a3, Value.int .i64 a4, Value.int .i64 a5, Value.int .i64 a6, Value.int .i64 a7, Value.int .i64 a8, Value.int .i64 a9, Value.int .i64 0] 29, Res.box blk4 [Value.int .i64 0, Value.int .i64 0, Value.int .i64 0, Value.int .i64 0, Value.int .i64 0, Value.int .i64 0, Value.int .i64 0, Value.int .i64 0, Value.int .i64 0, Value.int .i64 0, Value.int .i64 0] 29, Res.box blk2 [Value.int .i64 a0, Value.int .i64 a1, Value.int .i64 a2, Value.int .i64 a3, Value.int .i64 a4, Value.int .i64 a5, Value.int .i64 a6, Value.int .i64 a7, Value.int .i64 a8, Value.int .i64 a9, Value.int .i64 a10] 25])) [(25, Value.pointer (some ⟨blk6, 0 + 10, none⟩)), (24, Value.int .i64 a10), (23, Value.pointer (some ⟨blk2, 0 + 10, none⟩))] [.no, .v (Value.int .i64 a10), .no] ((LoadsAt Try.prog (fun x_ => St w x_ [Res.box blk6 [Value.int .i64 a0, Value.int .i64 a1, Value.int .i64 a2, Value.int .i64 a3, Value.int .i64 a4, Value.int .i64 a5, Value.int .i64 a6, Value.int .i64 a7, Value.int .i64 a8, Value.int .i64 a9, Value.int .i64 0] 29, Res.box blk4 [Value.int .i64 0, Value.int .i64 0, Value.int .i64 0, Value.int .i64 0, Value.int .i64 0, Value.int .i64 0, Value.int .i64 0, Value.int .i64 0, Value.int .i64 0, Value.int .i64 0, Value.int .i64 0] 29, Res.box blk2 [Value.int .i64 a0, Value.int .i64 a1, Value.int .i64 a2, Value.int .i64 a3, Value.int .i64 a4, Value.int .i64 a5, Value.int .i64 a6, Value.int .i64 a7, Value.int .i64 a8, Value.int .i64 a9, Value.int .i64 a10] 25]) 3 ⟨blk2, 0 + 10, none⟩ (Value.int .i64 a10))) (by kernel_rfl) (ld_box (i := 2) rfl rfl (by kernel_rfl)) hS13 ?_
  refine l_op rfl rfl (fun K hK => op_store (d := none) rfl rfl (i := 0) (b := blk6) (off := 0 + 10) (cs := [Value.int .i64 a0, Value.int .i64 a1, Value.int .i64 a2, Value.int .i64 a3, Value.int .i64 a4, Value.int .i64 a5, Value.int .i64 a6, Value.int .i64 a7, Value.int .i64 a8, Value.int .i64 a9, Value.int .i64 0]) (bt := 29) (by kernel_rfl) (by kernel_rfl) [Value.int .i64 a10] (by kernel_rfl) (by kernel_rfl) (Nat.le_of_ble_eq_true (by kernel_rfl)) (by kernel_rfl) [Res.box blk6 [Value.int .i64 a0, Value.int .i64 a1, Value.int .i64 a2, Value.int .i64 a3, Value.int .i64 a4, Value.int .i64 a5, Value.int .i64 a6, Value.int .i64 a7, Value.int .i64 a8, Value.int .i64 a9, Value.int .i64 a10] 29, Res.box blk4 [Value.int .i64 0, Value.int .i64 0, Value.int .i64 0, Value.int .i64 0, Value.int .i64 0, Value.int .i64 0, Value.int .i64 0, Value.int .i64 0, Value.int .i64 0, Value.int .i64 0, Value.int .i64 0] 29, Res.box blk2 [Value.int .i64 a0, Value.int .i64 a1, Value.int .i64 a2, Value.int .i64 a3, Value.int .i64 a4, Value.int .i64 a5, Value.int .i64 a6, Value.int .i64 a7, Value.int .i64 a8, Value.int .i64 a9, Value.int .i64 a10] 25] (by kernel_rfl) hS13 (fun w14 hS14 => hK _ _ ?_))
  clear hK K
  refine l_nil rfl ?_
  refine then_n ?_
  refine wp_seq ?_
  refine c_reg ?_
  refine q_seg (S := (fun x_ => St w x_ [Res.box blk6 [Value.int .i64 a0, Value.int .i64 a1, Value.int .i64 a2, Value.int .i64 a3, Value.int .i64 a4, Value.int .i64 a5, Value.int .i64 a6, Value.int .i64 a7, Value.int .i64 a8, Value.int .i64 a9, Value.int .i64 a10] 29, Res.box blk4 [Value.int .i64 0, Value.int .i64 0, Value.int .i64 0, Value.int .i64 0, Value.int .i64 0, Value.int .i64 0, Value.int .i64 0, Value.int .i64 0, Value.int .i64 0, Value.int .i64 0, Value.int .i64 0] 29, Res.box blk2 [Value.int .i64 a0, Value.int .i64 a1, Value.int .i64 a2, Value.int .i64 a3, Value.int .i64 a4, Value.int .i64 a5, Value.int .i64 a6, Value.int .i64 a7, Value.int .i64 a8, Value.int .i64 a9, Value.int .i64 a10] 25])) [(26, Value.agg #[Value.int .i64 a0, Value.int .i64 a1, Value.int .i64 a2, Value.int .i64 a3, Value.int .i64 a4, Value.int .i64 a5, Value.int .i64 a6, Value.int .i64 a7, Value.int .i64 a8, Value.int .i64 a9, Value.int .i64 a10])] [.v (Value.agg #[Value.int .i64 a0, Value.int .i64 a1, Value.int .i64 a2, Value.int .i64 a3, Value.int .i64 a4, Value.int .i64 a5, Value.int .i64 a6, Value.int .i64 a7, Value.int .i64 a8, Value.int .i64 a9, Value.int .i64 a10])] ((LoadsAt Try.prog (fun x_ => St w x_ [Res.box blk6 [Value.int .i64 a0, Value.int .i64 a1, Value.int .i64 a2, Value.int .i64 a3, Value.int .i64 a4, Value.int .i64 a5, Value.int .i64 a6, Value.int .i64 a7, Value.int .i64 a8, Value.int .i64 a9, Value.int .i64 a10] 29, Res.box blk4 [Value.int .i64 0, Value.int .i64 0, Value.int .i64 0, Value.int .i64 0, Value.int .i64 0, Value.int .i64 0, Value.int .i64 0, Value.int .i64 0, Value.int .i64 0, Value.int .i64 0, Value.int .i64 0] 29, Res.box blk2 [Value.int .i64 a0, Value.int .i64 a1, Value.int .i64 a2, Value.int .i64 a3, Value.int .i64 a4, Value.int .i64 a5, Value.int .i64 a6, Value.int .i64 a7, Value.int .i64 a8, Value.int .i64 a9, Value.int .i64 a10] 25]) 29 ⟨blk6, 0, none⟩ (Value.agg #[Value.int .i64 a0, Value.int .i64 a1, Value.int .i64 a2, Value.int .i64 a3, Value.int .i64 a4, Value.int .i64 a5, Value.int .i64 a6, Value.int .i64 a7, Value.int .i64 a8, Value.int .i64 a9, Value.int .i64 a10]))) (by kernel_rfl) (ld_boxN (i := 0) (k := 11) rfl rfl rfl (by kernel_rfl)) hS14 ?_
  refine l_op rfl rfl (fun K hK => op_store (d := none) rfl rfl (i := 1) (b := blk4) (off := 0) (cs := [Value.int .i64 0, Value.int .i64 0, Value.int .i64 0, Value.int .i64 0, Value.int .i64 0, Value.int .i64 0, Value.int .i64 0, Value.int .i64 0, Value.int .i64 0, Value.int .i64 0, Value.int .i64 0]) (bt := 29) (by kernel_rfl) (by kernel_rfl) [Value.int .i64 a0, Value.int .i64 a1, Value.int .i64 a2, Value.int .i64 a3, Value.int .i64 a4, Value.int .i64 a5, Value.int .i64 a6, Value.int .i64 a7, Value.int .i64 a8, Value.int .i64 a9, Value.int .i64 a10] (by kernel_rfl) (by kernel_rfl) (Nat.le_of_ble_eq_true (by kernel_rfl)) (by kernel_rfl) [Res.box blk6 [Value.int .i64 a0, Value.int .i64 a1, Value.int .i64 a2, Value.int .i64 a3, Value.int .i64 a4, Value.int .i64 a5, Value.int .i64 a6, Value.int .i64 a7, Value.int .i64 a8, Value.int .i64 a9, Value.int .i64 a10] 29, Res.box blk4 [Value.int .i64 a0, Value.int .i64 a1, Value.int .i64 a2, Value.int .i64 a3, Value.int .i64 a4, Value.int .i64 a5, Value.int .i64 a6, Value.int .i64 a7, Value.int .i64 a8, Value.int .i64 a9, Value.int .i64 a10] 29, Res.box blk2 [Value.int .i64 a0, Value.int .i64 a1, Value.int .i64 a2, Value.int .i64 a3, Value.int .i64 a4, Value.int .i64 a5, Value.int .i64 a6, Value.int .i64 a7, Value.int .i64 a8, Value.int .i64 a9, Value.int .i64 a10] 25] (by kernel_rfl) hS14 (fun w15 hS15 => hK _ _ ?_))
  clear hK K
  refine l_nil rfl ?_
  refine then_n ?_
  refine wp_ret ?_
  exact c_end (S := (fun x_ => St w x_ [Res.box blk6 [Value.int .i64 a0, Value.int .i64 a1, Value.int .i64 a2, Value.int .i64 a3, Value.int .i64 a4, Value.int .i64 a5, Value.int .i64 a6, Value.int .i64 a7, Value.int .i64 a8, Value.int .i64 a9, Value.int .i64 a10] 29, Res.box blk4 [Value.int .i64 a0, Value.int .i64 a1, Value.int .i64 a2, Value.int .i64 a3, Value.int .i64 a4, Value.int .i64 a5, Value.int .i64 a6, Value.int .i64 a7, Value.int .i64 a8, Value.int .i64 a9, Value.int .i64 a10] 29, Res.box blk2 [Value.int .i64 a0, Value.int .i64 a1, Value.int .i64 a2, Value.int .i64 a3, Value.int .i64 a4, Value.int .i64 a5, Value.int .i64 a6, Value.int .i64 a7, Value.int .i64 a8, Value.int .i64 a9, Value.int .i64 a10] 25])) (rs := [.cell 2 29]) rfl [Value.agg #[Value.int .i64 a0, Value.int .i64 a1, Value.int .i64 a2, Value.int .i64 a3, Value.int .i64 a4, Value.int .i64 a5, Value.int .i64 a6, Value.int .i64 a7, Value.int .i64 a8, Value.int .i64 a9, Value.int .i64 a10]] (v := Value.agg #[Value.int .i64 a0, Value.int .i64 a1, Value.int .i64 a2, Value.int .i64 a3, Value.int .i64 a4, Value.int .i64 a5, Value.int .i64 a6, Value.int .i64 a7, Value.int .i64 a8, Value.int .i64 a9, Value.int .i64 a10]) (C := ((LoadsAt Try.prog (fun x_ => St w x_ [Res.box blk6 [Value.int .i64 a0, Value.int .i64 a1, Value.int .i64 a2, Value.int .i64 a3, Value.int .i64 a4, Value.int .i64 a5, Value.int .i64 a6, Value.int .i64 a7, Value.int .i64 a8, Value.int .i64 a9, Value.int .i64 a10] 29, Res.box blk4 [Value.int .i64 a0, Value.int .i64 a1, Value.int .i64 a2, Value.int .i64 a3, Value.int .i64 a4, Value.int .i64 a5, Value.int .i64 a6, Value.int .i64 a7, Value.int .i64 a8, Value.int .i64 a9, Value.int .i64 a10] 29, Res.box blk2 [Value.int .i64 a0, Value.int .i64 a1, Value.int .i64 a2, Value.int .i64 a3, Value.int .i64 a4, Value.int .i64 a5, Value.int .i64 a6, Value.int .i64 a7, Value.int .i64 a8, Value.int .i64 a9, Value.int .i64 a10] 25]) 29 ⟨blk4, 0, none⟩ (Value.agg #[Value.int .i64 a0, Value.int .i64 a1, Value.int .i64 a2, Value.int .i64 a3, Value.int .i64 a4, Value.int .i64 a5, Value.int .i64 a6, Value.int .i64 a7, Value.int .i64 a8, Value.int .i64 a9, Value.int .i64 a10])))) (by kernel_rfl) (ld_boxN (i := 1) (k := 11) rfl rfl rfl (by kernel_rfl)) hS15 ((hS15.rv rfl))
theorem eqAuthVector_c (a0 : Int) (a1 : Int) (a2 : Int) (a3 : Int) (a4 : Int) (w : World) : Calls Try.prog 37 #[Value.agg #[Value.int .i64 a0, Value.int .i64 a1, Value.int .i64 a2, Value.int .i64 a3, Value.int .i64 a4], Value.agg #[Value.int .i64 a0, Value.int .i64 a1, Value.int .i64 a2, Value.int .i64 a3, Value.int .i64 a4]] w (RetV w (.bool true)) := by
  refine calls_FA Try.func37 rfl (n := 30) rfl (l := [(0, Value.agg #[Value.int .i64 a0, Value.int .i64 a1, Value.int .i64 a2, Value.int .i64 a3, Value.int .i64 a4]), (1, Value.agg #[Value.int .i64 a0, Value.int .i64 a1, Value.int .i64 a2, Value.int .i64 a3, Value.int .i64 a4])]) rfl (by simp) (fun g => ?_)
  have hS := St.init w
  refine wp_seq ?_
  refine c_reg ?_
  refine l_op rfl rfl (fun K hK => op_box (d := some 2) rfl rfl [Value.int .i64 a0, Value.int .i64 a1, Value.int .i64 a2, Value.int .i64 a3, Value.int .i64 a4] (by kernel_rfl) hS (fun blk2 w1 hS1 => hK _ _ ?_))
  clear hK K
  refine l_op rfl rfl (fun K hK => op_box (d := some 3) rfl rfl [Value.int .i64 a0, Value.int .i64 a1, Value.int .i64 a2, Value.int .i64 a3, Value.int .i64 a4] (by kernel_rfl) hS1 (fun blk4 w3 hS3 => hK _ _ ?_))
  clear hK K
  refine q_seg (S := (fun x_ => St w x_ [Res.box blk4 [Value.int .i64 a0, Value.int .i64 a1, Value.int .i64 a2, Value.int .i64 a3, Value.int .i64 a4] 27, Res.box blk2 [Value.int .i64 a0, Value.int .i64 a1, Value.int .i64 a2, Value.int .i64 a3, Value.int .i64 a4] 27])) [(4, Value.bool false)] [.no] True (by kernel_rfl) trivial hS3 ?_
  refine l_nil rfl ?_
  refine then_n ?_
  refine wp_seq ?_
  refine wp_seq ?_
  refine c_reg ?_
  refine q_seg (S := (fun x_ => St w x_ [Res.box blk4 [Value.int .i64 a0, Value.int .i64 a1, Value.int .i64 a2, Value.int .i64 a3, Value.int .i64 a4] 27, Res.box blk2 [Value.int .i64 a0, Value.int .i64 a1, Value.int .i64 a2, Value.int .i64 a3, Value.int .i64 a4] 27])) [(9, Value.bool (!(decide (a0 = a0)))), (8, Value.int .i64 a0), (7, Value.pointer (some ⟨blk4, 0 + 0, none⟩)), (6, Value.int .i64 a0), (5, Value.pointer (some ⟨blk2, 0 + 0, none⟩))] [.no, .v (Value.int .i64 a0), .no, .v (Value.int .i64 a0), .no] ((LoadsAt Try.prog (fun x_ => St w x_ [Res.box blk4 [Value.int .i64 a0, Value.int .i64 a1, Value.int .i64 a2, Value.int .i64 a3, Value.int .i64 a4] 27, Res.box blk2 [Value.int .i64 a0, Value.int .i64 a1, Value.int .i64 a2, Value.int .i64 a3, Value.int .i64 a4] 27]) 3 ⟨blk2, 0 + 0, none⟩ (Value.int .i64 a0)) ∧ (LoadsAt Try.prog (fun x_ => St w x_ [Res.box blk4 [Value.int .i64 a0, Value.int .i64 a1, Value.int .i64 a2, Value.int .i64 a3, Value.int .i64 a4] 27, Res.box blk2 [Value.int .i64 a0, Value.int .i64 a1, Value.int .i64 a2, Value.int .i64 a3, Value.int .i64 a4] 27]) 3 ⟨blk4, 0 + 0, none⟩ (Value.int .i64 a0))) (by kernel_rfl) ⟨(ld_box (i := 1) rfl rfl (by kernel_rfl)), (ld_box (i := 0) rfl rfl (by kernel_rfl))⟩ hS3 ?_
  refine l_nil rfl ?_
  refine then_n ?_
  refine c_false (b := (!(decide (a0 = a0)))) (by kernel_rfl) (nb (v := true) (decide_eq_true rfl)) ?_
  refine wp_skip ?_
  refine then_n ?_
  refine wp_seq ?_
  refine wp_seq ?_
  refine c_reg ?_
  refine q_seg (S := (fun x_ => St w x_ [Res.box blk4 [Value.int .i64 a0, Value.int .i64 a1, Value.int .i64 a2, Value.int .i64 a3, Value.int .i64 a4] 27, Res.box blk2 [Value.int .i64 a0, Value.int .i64 a1, Value.int .i64 a2, Value.int .i64 a3, Value.int .i64 a4] 27])) [(14, Value.bool (!(decide (a1 = a1)))), (13, Value.int .i64 a1), (12, Value.pointer (some ⟨blk4, 0 + 1, none⟩)), (11, Value.int .i64 a1), (10, Value.pointer (some ⟨blk2, 0 + 1, none⟩))] [.no, .v (Value.int .i64 a1), .no, .v (Value.int .i64 a1), .no] ((LoadsAt Try.prog (fun x_ => St w x_ [Res.box blk4 [Value.int .i64 a0, Value.int .i64 a1, Value.int .i64 a2, Value.int .i64 a3, Value.int .i64 a4] 27, Res.box blk2 [Value.int .i64 a0, Value.int .i64 a1, Value.int .i64 a2, Value.int .i64 a3, Value.int .i64 a4] 27]) 3 ⟨blk2, 0 + 1, none⟩ (Value.int .i64 a1)) ∧ (LoadsAt Try.prog (fun x_ => St w x_ [Res.box blk4 [Value.int .i64 a0, Value.int .i64 a1, Value.int .i64 a2, Value.int .i64 a3, Value.int .i64 a4] 27, Res.box blk2 [Value.int .i64 a0, Value.int .i64 a1, Value.int .i64 a2, Value.int .i64 a3, Value.int .i64 a4] 27]) 3 ⟨blk4, 0 + 1, none⟩ (Value.int .i64 a1))) (by kernel_rfl) ⟨(ld_box (i := 1) rfl rfl (by kernel_rfl)), (ld_box (i := 0) rfl rfl (by kernel_rfl))⟩ hS3 ?_
  refine l_nil rfl ?_
  refine then_n ?_
  refine c_false (b := (!(decide (a1 = a1)))) (by kernel_rfl) (nb (v := true) (decide_eq_true rfl)) ?_
  refine wp_skip ?_
  refine then_n ?_
  refine wp_seq ?_
  refine wp_seq ?_
  refine c_reg ?_
  refine q_seg (S := (fun x_ => St w x_ [Res.box blk4 [Value.int .i64 a0, Value.int .i64 a1, Value.int .i64 a2, Value.int .i64 a3, Value.int .i64 a4] 27, Res.box blk2 [Value.int .i64 a0, Value.int .i64 a1, Value.int .i64 a2, Value.int .i64 a3, Value.int .i64 a4] 27])) [(19, Value.bool (!(decide (a2 = a2)))), (18, Value.int .i64 a2), (17, Value.pointer (some ⟨blk4, 0 + 2, none⟩)), (16, Value.int .i64 a2), (15, Value.pointer (some ⟨blk2, 0 + 2, none⟩))] [.no, .v (Value.int .i64 a2), .no, .v (Value.int .i64 a2), .no] ((LoadsAt Try.prog (fun x_ => St w x_ [Res.box blk4 [Value.int .i64 a0, Value.int .i64 a1, Value.int .i64 a2, Value.int .i64 a3, Value.int .i64 a4] 27, Res.box blk2 [Value.int .i64 a0, Value.int .i64 a1, Value.int .i64 a2, Value.int .i64 a3, Value.int .i64 a4] 27]) 3 ⟨blk2, 0 + 2, none⟩ (Value.int .i64 a2)) ∧ (LoadsAt Try.prog (fun x_ => St w x_ [Res.box blk4 [Value.int .i64 a0, Value.int .i64 a1, Value.int .i64 a2, Value.int .i64 a3, Value.int .i64 a4] 27, Res.box blk2 [Value.int .i64 a0, Value.int .i64 a1, Value.int .i64 a2, Value.int .i64 a3, Value.int .i64 a4] 27]) 3 ⟨blk4, 0 + 2, none⟩ (Value.int .i64 a2))) (by kernel_rfl) ⟨(ld_box (i := 1) rfl rfl (by kernel_rfl)), (ld_box (i := 0) rfl rfl (by kernel_rfl))⟩ hS3 ?_
  refine l_nil rfl ?_
  refine then_n ?_
  refine c_false (b := (!(decide (a2 = a2)))) (by kernel_rfl) (nb (v := true) (decide_eq_true rfl)) ?_
  refine wp_skip ?_
  refine then_n ?_
  refine wp_seq ?_
  refine wp_seq ?_
  refine c_reg ?_
  refine q_seg (S := (fun x_ => St w x_ [Res.box blk4 [Value.int .i64 a0, Value.int .i64 a1, Value.int .i64 a2, Value.int .i64 a3, Value.int .i64 a4] 27, Res.box blk2 [Value.int .i64 a0, Value.int .i64 a1, Value.int .i64 a2, Value.int .i64 a3, Value.int .i64 a4] 27])) [(24, Value.bool (!(decide (a3 = a3)))), (23, Value.int .i64 a3), (22, Value.pointer (some ⟨blk4, 0 + 3, none⟩)), (21, Value.int .i64 a3), (20, Value.pointer (some ⟨blk2, 0 + 3, none⟩))] [.no, .v (Value.int .i64 a3), .no, .v (Value.int .i64 a3), .no] ((LoadsAt Try.prog (fun x_ => St w x_ [Res.box blk4 [Value.int .i64 a0, Value.int .i64 a1, Value.int .i64 a2, Value.int .i64 a3, Value.int .i64 a4] 27, Res.box blk2 [Value.int .i64 a0, Value.int .i64 a1, Value.int .i64 a2, Value.int .i64 a3, Value.int .i64 a4] 27]) 3 ⟨blk2, 0 + 3, none⟩ (Value.int .i64 a3)) ∧ (LoadsAt Try.prog (fun x_ => St w x_ [Res.box blk4 [Value.int .i64 a0, Value.int .i64 a1, Value.int .i64 a2, Value.int .i64 a3, Value.int .i64 a4] 27, Res.box blk2 [Value.int .i64 a0, Value.int .i64 a1, Value.int .i64 a2, Value.int .i64 a3, Value.int .i64 a4] 27]) 3 ⟨blk4, 0 + 3, none⟩ (Value.int .i64 a3))) (by kernel_rfl) ⟨(ld_box (i := 1) rfl rfl (by kernel_rfl)), (ld_box (i := 0) rfl rfl (by kernel_rfl))⟩ hS3 ?_
  refine l_nil rfl ?_
  refine then_n ?_
  refine c_false (b := (!(decide (a3 = a3)))) (by kernel_rfl) (nb (v := true) (decide_eq_true rfl)) ?_
  refine wp_skip ?_
  refine then_n ?_
  refine wp_seq ?_
  refine wp_seq ?_
  refine c_reg ?_
  refine q_seg (S := (fun x_ => St w x_ [Res.box blk4 [Value.int .i64 a0, Value.int .i64 a1, Value.int .i64 a2, Value.int .i64 a3, Value.int .i64 a4] 27, Res.box blk2 [Value.int .i64 a0, Value.int .i64 a1, Value.int .i64 a2, Value.int .i64 a3, Value.int .i64 a4] 27])) [(29, Value.bool (!(decide (a4 = a4)))), (28, Value.int .i64 a4), (27, Value.pointer (some ⟨blk4, 0 + 4, none⟩)), (26, Value.int .i64 a4), (25, Value.pointer (some ⟨blk2, 0 + 4, none⟩))] [.no, .v (Value.int .i64 a4), .no, .v (Value.int .i64 a4), .no] ((LoadsAt Try.prog (fun x_ => St w x_ [Res.box blk4 [Value.int .i64 a0, Value.int .i64 a1, Value.int .i64 a2, Value.int .i64 a3, Value.int .i64 a4] 27, Res.box blk2 [Value.int .i64 a0, Value.int .i64 a1, Value.int .i64 a2, Value.int .i64 a3, Value.int .i64 a4] 27]) 3 ⟨blk2, 0 + 4, none⟩ (Value.int .i64 a4)) ∧ (LoadsAt Try.prog (fun x_ => St w x_ [Res.box blk4 [Value.int .i64 a0, Value.int .i64 a1, Value.int .i64 a2, Value.int .i64 a3, Value.int .i64 a4] 27, Res.box blk2 [Value.int .i64 a0, Value.int .i64 a1, Value.int .i64 a2, Value.int .i64 a3, Value.int .i64 a4] 27]) 3 ⟨blk4, 0 + 4, none⟩ (Value.int .i64 a4))) (by kernel_rfl) ⟨(ld_box (i := 1) rfl rfl (by kernel_rfl)), (ld_box (i := 0) rfl rfl (by kernel_rfl))⟩ hS3 ?_
  refine l_nil rfl ?_
  refine then_n ?_
  refine c_false (b := (!(decide (a4 = a4)))) (by kernel_rfl) (nb (v := true) (decide_eq_true rfl)) ?_
  refine wp_skip ?_
  refine then_n ?_
  refine wp_seq ?_
  refine c_reg ?_
  refine q_seg (S := (fun x_ => St w x_ [Res.box blk4 [Value.int .i64 a0, Value.int .i64 a1, Value.int .i64 a2, Value.int .i64 a3, Value.int .i64 a4] 27, Res.box blk2 [Value.int .i64 a0, Value.int .i64 a1, Value.int .i64 a2, Value.int .i64 a3, Value.int .i64 a4] 27])) [(4, Value.bool true)] [.no] True (by kernel_rfl) trivial hS3 ?_
  refine l_nil rfl ?_
  refine then_n ?_
  refine wp_ret ?_
  exact c_end (S := (fun x_ => St w x_ [Res.box blk4 [Value.int .i64 a0, Value.int .i64 a1, Value.int .i64 a2, Value.int .i64 a3, Value.int .i64 a4] 27, Res.box blk2 [Value.int .i64 a0, Value.int .i64 a1, Value.int .i64 a2, Value.int .i64 a3, Value.int .i64 a4] 27])) (rs := [.tmp 4]) rfl [] (v := Value.bool true) (C := True) (by kernel_rfl) trivial hS3 ((hS3.rv rfl))
theorem eqSignal_c (a0 : Int) (a1 : Int) (a2 : Int) (a3 : Int) (a4 : Int) (a5 : Int) (a6 : Int) (a7 : Int) (a8 : Int) (a9 : Int) (a10 : Int) (w : World) : Calls Try.prog 24 #[Value.agg #[Value.int .i64 a0, Value.int .i64 a1, Value.int .i64 a2, Value.int .i64 a3, Value.int .i64 a4, Value.int .i64 a5, Value.int .i64 a6, Value.int .i64 a7, Value.int .i64 a8, Value.int .i64 a9, Value.int .i64 a10], Value.agg #[Value.int .i64 a0, Value.int .i64 a1, Value.int .i64 a2, Value.int .i64 a3, Value.int .i64 a4, Value.int .i64 a5, Value.int .i64 a6, Value.int .i64 a7, Value.int .i64 a8, Value.int .i64 a9, Value.int .i64 a10]] w (RetV w (.bool true)) := by
  refine calls_FA Try.func24 rfl (n := 41) rfl (l := [(0, Value.agg #[Value.int .i64 a0, Value.int .i64 a1, Value.int .i64 a2, Value.int .i64 a3, Value.int .i64 a4, Value.int .i64 a5, Value.int .i64 a6, Value.int .i64 a7, Value.int .i64 a8, Value.int .i64 a9, Value.int .i64 a10]), (1, Value.agg #[Value.int .i64 a0, Value.int .i64 a1, Value.int .i64 a2, Value.int .i64 a3, Value.int .i64 a4, Value.int .i64 a5, Value.int .i64 a6, Value.int .i64 a7, Value.int .i64 a8, Value.int .i64 a9, Value.int .i64 a10])]) rfl (by simp) (fun g => ?_)
  have hS := St.init w
  refine wp_seq ?_
  refine c_reg ?_
  refine l_op rfl rfl (fun K hK => op_box (d := some 2) rfl rfl [Value.int .i64 a0, Value.int .i64 a1, Value.int .i64 a2, Value.int .i64 a3, Value.int .i64 a4, Value.int .i64 a5, Value.int .i64 a6, Value.int .i64 a7, Value.int .i64 a8, Value.int .i64 a9, Value.int .i64 a10] (by kernel_rfl) hS (fun blk2 w1 hS1 => hK _ _ ?_))
  clear hK K
  refine l_op rfl rfl (fun K hK => op_box (d := some 3) rfl rfl [Value.int .i64 a0, Value.int .i64 a1, Value.int .i64 a2, Value.int .i64 a3, Value.int .i64 a4, Value.int .i64 a5, Value.int .i64 a6, Value.int .i64 a7, Value.int .i64 a8, Value.int .i64 a9, Value.int .i64 a10] (by kernel_rfl) hS1 (fun blk4 w3 hS3 => hK _ _ ?_))
  clear hK K
  refine q_seg (S := (fun x_ => St w x_ [Res.box blk4 [Value.int .i64 a0, Value.int .i64 a1, Value.int .i64 a2, Value.int .i64 a3, Value.int .i64 a4, Value.int .i64 a5, Value.int .i64 a6, Value.int .i64 a7, Value.int .i64 a8, Value.int .i64 a9, Value.int .i64 a10] 29, Res.box blk2 [Value.int .i64 a0, Value.int .i64 a1, Value.int .i64 a2, Value.int .i64 a3, Value.int .i64 a4, Value.int .i64 a5, Value.int .i64 a6, Value.int .i64 a7, Value.int .i64 a8, Value.int .i64 a9, Value.int .i64 a10] 29])) [(4, Value.bool false)] [.no] True (by kernel_rfl) trivial hS3 ?_
  refine l_nil rfl ?_
  refine then_n ?_
  refine wp_seq ?_
  refine wp_seq ?_
  refine c_reg ?_
  refine q_seg (S := (fun x_ => St w x_ [Res.box blk4 [Value.int .i64 a0, Value.int .i64 a1, Value.int .i64 a2, Value.int .i64 a3, Value.int .i64 a4, Value.int .i64 a5, Value.int .i64 a6, Value.int .i64 a7, Value.int .i64 a8, Value.int .i64 a9, Value.int .i64 a10] 29, Res.box blk2 [Value.int .i64 a0, Value.int .i64 a1, Value.int .i64 a2, Value.int .i64 a3, Value.int .i64 a4, Value.int .i64 a5, Value.int .i64 a6, Value.int .i64 a7, Value.int .i64 a8, Value.int .i64 a9, Value.int .i64 a10] 29])) [(9, Value.bool (!(decide (a0 = a0)))), (8, Value.int .i64 a0), (7, Value.pointer (some ⟨blk4, 0 + 0, none⟩)), (6, Value.int .i64 a0), (5, Value.pointer (some ⟨blk2, 0 + 0, none⟩))] [.no, .v (Value.int .i64 a0), .no, .v (Value.int .i64 a0), .no] ((LoadsAt Try.prog (fun x_ => St w x_ [Res.box blk4 [Value.int .i64 a0, Value.int .i64 a1, Value.int .i64 a2, Value.int .i64 a3, Value.int .i64 a4, Value.int .i64 a5, Value.int .i64 a6, Value.int .i64 a7, Value.int .i64 a8, Value.int .i64 a9, Value.int .i64 a10] 29, Res.box blk2 [Value.int .i64 a0, Value.int .i64 a1, Value.int .i64 a2, Value.int .i64 a3, Value.int .i64 a4, Value.int .i64 a5, Value.int .i64 a6, Value.int .i64 a7, Value.int .i64 a8, Value.int .i64 a9, Value.int .i64 a10] 29]) 3 ⟨blk2, 0 + 0, none⟩ (Value.int .i64 a0)) ∧ (LoadsAt Try.prog (fun x_ => St w x_ [Res.box blk4 [Value.int .i64 a0, Value.int .i64 a1, Value.int .i64 a2, Value.int .i64 a3, Value.int .i64 a4, Value.int .i64 a5, Value.int .i64 a6, Value.int .i64 a7, Value.int .i64 a8, Value.int .i64 a9, Value.int .i64 a10] 29, Res.box blk2 [Value.int .i64 a0, Value.int .i64 a1, Value.int .i64 a2, Value.int .i64 a3, Value.int .i64 a4, Value.int .i64 a5, Value.int .i64 a6, Value.int .i64 a7, Value.int .i64 a8, Value.int .i64 a9, Value.int .i64 a10] 29]) 3 ⟨blk4, 0 + 0, none⟩ (Value.int .i64 a0))) (by kernel_rfl) ⟨(ld_box (i := 1) rfl rfl (by kernel_rfl)), (ld_box (i := 0) rfl rfl (by kernel_rfl))⟩ hS3 ?_
  refine l_nil rfl ?_
  refine then_n ?_
  refine c_false (b := (!(decide (a0 = a0)))) (by kernel_rfl) (nb (v := true) (decide_eq_true rfl)) ?_
  refine wp_skip ?_
  refine then_n ?_
  refine wp_seq ?_
  refine wp_seq ?_
  refine c_reg ?_
  refine q_seg (S := (fun x_ => St w x_ [Res.box blk4 [Value.int .i64 a0, Value.int .i64 a1, Value.int .i64 a2, Value.int .i64 a3, Value.int .i64 a4, Value.int .i64 a5, Value.int .i64 a6, Value.int .i64 a7, Value.int .i64 a8, Value.int .i64 a9, Value.int .i64 a10] 29, Res.box blk2 [Value.int .i64 a0, Value.int .i64 a1, Value.int .i64 a2, Value.int .i64 a3, Value.int .i64 a4, Value.int .i64 a5, Value.int .i64 a6, Value.int .i64 a7, Value.int .i64 a8, Value.int .i64 a9, Value.int .i64 a10] 29])) [(14, Value.bool (!(decide (a1 = a1)))), (13, Value.int .i64 a1), (12, Value.pointer (some ⟨blk4, 0 + 1, none⟩)), (11, Value.int .i64 a1), (10, Value.pointer (some ⟨blk2, 0 + 1, none⟩))] [.no, .v (Value.int .i64 a1), .no, .v (Value.int .i64 a1), .no] ((LoadsAt Try.prog (fun x_ => St w x_ [Res.box blk4 [Value.int .i64 a0, Value.int .i64 a1, Value.int .i64 a2, Value.int .i64 a3, Value.int .i64 a4, Value.int .i64 a5, Value.int .i64 a6, Value.int .i64 a7, Value.int .i64 a8, Value.int .i64 a9, Value.int .i64 a10] 29, Res.box blk2 [Value.int .i64 a0, Value.int .i64 a1, Value.int .i64 a2, Value.int .i64 a3, Value.int .i64 a4, Value.int .i64 a5, Value.int .i64 a6, Value.int .i64 a7, Value.int .i64 a8, Value.int .i64 a9, Value.int .i64 a10] 29]) 3 ⟨blk2, 0 + 1, none⟩ (Value.int .i64 a1)) ∧ (LoadsAt Try.prog (fun x_ => St w x_ [Res.box blk4 [Value.int .i64 a0, Value.int .i64 a1, Value.int .i64 a2, Value.int .i64 a3, Value.int .i64 a4, Value.int .i64 a5, Value.int .i64 a6, Value.int .i64 a7, Value.int .i64 a8, Value.int .i64 a9, Value.int .i64 a10] 29, Res.box blk2 [Value.int .i64 a0, Value.int .i64 a1, Value.int .i64 a2, Value.int .i64 a3, Value.int .i64 a4, Value.int .i64 a5, Value.int .i64 a6, Value.int .i64 a7, Value.int .i64 a8, Value.int .i64 a9, Value.int .i64 a10] 29]) 3 ⟨blk4, 0 + 1, none⟩ (Value.int .i64 a1))) (by kernel_rfl) ⟨(ld_box (i := 1) rfl rfl (by kernel_rfl)), (ld_box (i := 0) rfl rfl (by kernel_rfl))⟩ hS3 ?_
  refine l_nil rfl ?_
  refine then_n ?_
  refine c_false (b := (!(decide (a1 = a1)))) (by kernel_rfl) (nb (v := true) (decide_eq_true rfl)) ?_
  refine wp_skip ?_
  refine then_n ?_
  refine wp_seq ?_
  refine wp_seq ?_
  refine c_reg ?_
  refine q_seg (S := (fun x_ => St w x_ [Res.box blk4 [Value.int .i64 a0, Value.int .i64 a1, Value.int .i64 a2, Value.int .i64 a3, Value.int .i64 a4, Value.int .i64 a5, Value.int .i64 a6, Value.int .i64 a7, Value.int .i64 a8, Value.int .i64 a9, Value.int .i64 a10] 29, Res.box blk2 [Value.int .i64 a0, Value.int .i64 a1, Value.int .i64 a2, Value.int .i64 a3, Value.int .i64 a4, Value.int .i64 a5, Value.int .i64 a6, Value.int .i64 a7, Value.int .i64 a8, Value.int .i64 a9, Value.int .i64 a10] 29])) [(19, Value.bool (!(decide (a2 = a2)))), (18, Value.int .i64 a2), (17, Value.pointer (some ⟨blk4, 0 + 2, none⟩)), (16, Value.int .i64 a2), (15, Value.pointer (some ⟨blk2, 0 + 2, none⟩))] [.no, .v (Value.int .i64 a2), .no, .v (Value.int .i64 a2), .no] ((LoadsAt Try.prog (fun x_ => St w x_ [Res.box blk4 [Value.int .i64 a0, Value.int .i64 a1, Value.int .i64 a2, Value.int .i64 a3, Value.int .i64 a4, Value.int .i64 a5, Value.int .i64 a6, Value.int .i64 a7, Value.int .i64 a8, Value.int .i64 a9, Value.int .i64 a10] 29, Res.box blk2 [Value.int .i64 a0, Value.int .i64 a1, Value.int .i64 a2, Value.int .i64 a3, Value.int .i64 a4, Value.int .i64 a5, Value.int .i64 a6, Value.int .i64 a7, Value.int .i64 a8, Value.int .i64 a9, Value.int .i64 a10] 29]) 3 ⟨blk2, 0 + 2, none⟩ (Value.int .i64 a2)) ∧ (LoadsAt Try.prog (fun x_ => St w x_ [Res.box blk4 [Value.int .i64 a0, Value.int .i64 a1, Value.int .i64 a2, Value.int .i64 a3, Value.int .i64 a4, Value.int .i64 a5, Value.int .i64 a6, Value.int .i64 a7, Value.int .i64 a8, Value.int .i64 a9, Value.int .i64 a10] 29, Res.box blk2 [Value.int .i64 a0, Value.int .i64 a1, Value.int .i64 a2, Value.int .i64 a3, Value.int .i64 a4, Value.int .i64 a5, Value.int .i64 a6, Value.int .i64 a7, Value.int .i64 a8, Value.int .i64 a9, Value.int .i64 a10] 29]) 3 ⟨blk4, 0 + 2, none⟩ (Value.int .i64 a2))) (by kernel_rfl) ⟨(ld_box (i := 1) rfl rfl (by kernel_rfl)), (ld_box (i := 0) rfl rfl (by kernel_rfl))⟩ hS3 ?_
  refine l_nil rfl ?_
  refine then_n ?_
  refine c_false (b := (!(decide (a2 = a2)))) (by kernel_rfl) (nb (v := true) (decide_eq_true rfl)) ?_
  refine wp_skip ?_
  refine then_n ?_
  refine wp_seq ?_
  refine wp_seq ?_
  refine c_reg ?_
  refine q_seg (S := (fun x_ => St w x_ [Res.box blk4 [Value.int .i64 a0, Value.int .i64 a1, Value.int .i64 a2, Value.int .i64 a3, Value.int .i64 a4, Value.int .i64 a5, Value.int .i64 a6, Value.int .i64 a7, Value.int .i64 a8, Value.int .i64 a9, Value.int .i64 a10] 29, Res.box blk2 [Value.int .i64 a0, Value.int .i64 a1, Value.int .i64 a2, Value.int .i64 a3, Value.int .i64 a4, Value.int .i64 a5, Value.int .i64 a6, Value.int .i64 a7, Value.int .i64 a8, Value.int .i64 a9, Value.int .i64 a10] 29])) [(24, Value.bool (!(decide (a3 = a3)))), (23, Value.int .i64 a3), (22, Value.pointer (some ⟨blk4, 0 + 3, none⟩)), (21, Value.int .i64 a3), (20, Value.pointer (some ⟨blk2, 0 + 3, none⟩))] [.no, .v (Value.int .i64 a3), .no, .v (Value.int .i64 a3), .no] ((LoadsAt Try.prog (fun x_ => St w x_ [Res.box blk4 [Value.int .i64 a0, Value.int .i64 a1, Value.int .i64 a2, Value.int .i64 a3, Value.int .i64 a4, Value.int .i64 a5, Value.int .i64 a6, Value.int .i64 a7, Value.int .i64 a8, Value.int .i64 a9, Value.int .i64 a10] 29, Res.box blk2 [Value.int .i64 a0, Value.int .i64 a1, Value.int .i64 a2, Value.int .i64 a3, Value.int .i64 a4, Value.int .i64 a5, Value.int .i64 a6, Value.int .i64 a7, Value.int .i64 a8, Value.int .i64 a9, Value.int .i64 a10] 29]) 3 ⟨blk2, 0 + 3, none⟩ (Value.int .i64 a3)) ∧ (LoadsAt Try.prog (fun x_ => St w x_ [Res.box blk4 [Value.int .i64 a0, Value.int .i64 a1, Value.int .i64 a2, Value.int .i64 a3, Value.int .i64 a4, Value.int .i64 a5, Value.int .i64 a6, Value.int .i64 a7, Value.int .i64 a8, Value.int .i64 a9, Value.int .i64 a10] 29, Res.box blk2 [Value.int .i64 a0, Value.int .i64 a1, Value.int .i64 a2, Value.int .i64 a3, Value.int .i64 a4, Value.int .i64 a5, Value.int .i64 a6, Value.int .i64 a7, Value.int .i64 a8, Value.int .i64 a9, Value.int .i64 a10] 29]) 3 ⟨blk4, 0 + 3, none⟩ (Value.int .i64 a3))) (by kernel_rfl) ⟨(ld_box (i := 1) rfl rfl (by kernel_rfl)), (ld_box (i := 0) rfl rfl (by kernel_rfl))⟩ hS3 ?_
  refine l_nil rfl ?_
  refine then_n ?_
  refine c_false (b := (!(decide (a3 = a3)))) (by kernel_rfl) (nb (v := true) (decide_eq_true rfl)) ?_
  refine wp_skip ?_
  refine then_n ?_
  refine wp_seq ?_
  refine wp_seq ?_
  refine c_reg ?_
  refine q_seg (S := (fun x_ => St w x_ [Res.box blk4 [Value.int .i64 a0, Value.int .i64 a1, Value.int .i64 a2, Value.int .i64 a3, Value.int .i64 a4, Value.int .i64 a5, Value.int .i64 a6, Value.int .i64 a7, Value.int .i64 a8, Value.int .i64 a9, Value.int .i64 a10] 29, Res.box blk2 [Value.int .i64 a0, Value.int .i64 a1, Value.int .i64 a2, Value.int .i64 a3, Value.int .i64 a4, Value.int .i64 a5, Value.int .i64 a6, Value.int .i64 a7, Value.int .i64 a8, Value.int .i64 a9, Value.int .i64 a10] 29])) [(29, Value.bool (!(decide (a4 = a4)))), (28, Value.int .i64 a4), (27, Value.pointer (some ⟨blk4, 0 + 4, none⟩)), (26, Value.int .i64 a4), (25, Value.pointer (some ⟨blk2, 0 + 4, none⟩))] [.no, .v (Value.int .i64 a4), .no, .v (Value.int .i64 a4), .no] ((LoadsAt Try.prog (fun x_ => St w x_ [Res.box blk4 [Value.int .i64 a0, Value.int .i64 a1, Value.int .i64 a2, Value.int .i64 a3, Value.int .i64 a4, Value.int .i64 a5, Value.int .i64 a6, Value.int .i64 a7, Value.int .i64 a8, Value.int .i64 a9, Value.int .i64 a10] 29, Res.box blk2 [Value.int .i64 a0, Value.int .i64 a1, Value.int .i64 a2, Value.int .i64 a3, Value.int .i64 a4, Value.int .i64 a5, Value.int .i64 a6, Value.int .i64 a7, Value.int .i64 a8, Value.int .i64 a9, Value.int .i64 a10] 29]) 3 ⟨blk2, 0 + 4, none⟩ (Value.int .i64 a4)) ∧ (LoadsAt Try.prog (fun x_ => St w x_ [Res.box blk4 [Value.int .i64 a0, Value.int .i64 a1, Value.int .i64 a2, Value.int .i64 a3, Value.int .i64 a4, Value.int .i64 a5, Value.int .i64 a6, Value.int .i64 a7, Value.int .i64 a8, Value.int .i64 a9, Value.int .i64 a10] 29, Res.box blk2 [Value.int .i64 a0, Value.int .i64 a1, Value.int .i64 a2, Value.int .i64 a3, Value.int .i64 a4, Value.int .i64 a5, Value.int .i64 a6, Value.int .i64 a7, Value.int .i64 a8, Value.int .i64 a9, Value.int .i64 a10] 29]) 3 ⟨blk4, 0 + 4, none⟩ (Value.int .i64 a4))) (by kernel_rfl) ⟨(ld_box (i := 1) rfl rfl (by kernel_rfl)), (ld_box (i := 0) rfl rfl (by kernel_rfl))⟩ hS3 ?_
  refine l_nil rfl ?_
  refine then_n ?_
  refine c_false (b := (!(decide (a4 = a4)))) (by kernel_rfl) (nb (v := true) (decide_eq_true rfl)) ?_
  refine wp_skip ?_
  refine then_n ?_
  refine wp_seq ?_
  refine wp_seq ?_
  refine c_reg ?_
  refine q_seg (S := (fun x_ => St w x_ [Res.box blk4 [Value.int .i64 a0, Value.int .i64 a1, Value.int .i64 a2, Value.int .i64 a3, Value.int .i64 a4, Value.int .i64 a5, Value.int .i64 a6, Value.int .i64 a7, Value.int .i64 a8, Value.int .i64 a9, Value.int .i64 a10] 29, Res.box blk2 [Value.int .i64 a0, Value.int .i64 a1, Value.int .i64 a2, Value.int .i64 a3, Value.int .i64 a4, Value.int .i64 a5, Value.int .i64 a6, Value.int .i64 a7, Value.int .i64 a8, Value.int .i64 a9, Value.int .i64 a10] 29])) [(33, Value.agg #[Value.int .i64 a5, Value.int .i64 a6, Value.int .i64 a7, Value.int .i64 a8, Value.int .i64 a9]), (32, Value.pointer (some ⟨blk4, 0 + 5, none⟩)), (31, Value.agg #[Value.int .i64 a5, Value.int .i64 a6, Value.int .i64 a7, Value.int .i64 a8, Value.int .i64 a9]), (30, Value.pointer (some ⟨blk2, 0 + 5, none⟩))] [.no, .v (Value.agg #[Value.int .i64 a5, Value.int .i64 a6, Value.int .i64 a7, Value.int .i64 a8, Value.int .i64 a9]), .no, .v (Value.agg #[Value.int .i64 a5, Value.int .i64 a6, Value.int .i64 a7, Value.int .i64 a8, Value.int .i64 a9])] ((LoadsAt Try.prog (fun x_ => St w x_ [Res.box blk4 [Value.int .i64 a0, Value.int .i64 a1, Value.int .i64 a2, Value.int .i64 a3, Value.int .i64 a4, Value.int .i64 a5, Value.int .i64 a6, Value.int .i64 a7, Value.int .i64 a8, Value.int .i64 a9, Value.int .i64 a10] 29, Res.box blk2 [Value.int .i64 a0, Value.int .i64 a1, Value.int .i64 a2, Value.int .i64 a3, Value.int .i64 a4, Value.int .i64 a5, Value.int .i64 a6, Value.int .i64 a7, Value.int .i64 a8, Value.int .i64 a9, Value.int .i64 a10] 29]) 27 ⟨blk2, 0 + 5, none⟩ (Value.agg #[Value.int .i64 a5, Value.int .i64 a6, Value.int .i64 a7, Value.int .i64 a8, Value.int .i64 a9])) ∧ (LoadsAt Try.prog (fun x_ => St w x_ [Res.box blk4 [Value.int .i64 a0, Value.int .i64 a1, Value.int .i64 a2, Value.int .i64 a3, Value.int .i64 a4, Value.int .i64 a5, Value.int .i64 a6, Value.int .i64 a7, Value.int .i64 a8, Value.int .i64 a9, Value.int .i64 a10] 29, Res.box blk2 [Value.int .i64 a0, Value.int .i64 a1, Value.int .i64 a2, Value.int .i64 a3, Value.int .i64 a4, Value.int .i64 a5, Value.int .i64 a6, Value.int .i64 a7, Value.int .i64 a8, Value.int .i64 a9, Value.int .i64 a10] 29]) 27 ⟨blk4, 0 + 5, none⟩ (Value.agg #[Value.int .i64 a5, Value.int .i64 a6, Value.int .i64 a7, Value.int .i64 a8, Value.int .i64 a9]))) (by kernel_rfl) ⟨(ld_boxN (i := 1) (k := 5) rfl rfl rfl (by kernel_rfl)), (ld_boxN (i := 0) (k := 5) rfl rfl rfl (by kernel_rfl))⟩ hS3 ?_
  refine l_op rfl rfl (fun K hK => op_callv (d := some 34) rfl rfl ⟨_, Try.func37, by kernel_rfl, by kernel_rfl⟩ (vs := [Value.agg #[Value.int .i64 a5, Value.int .i64 a6, Value.int .i64 a7, Value.int .i64 a8, Value.int .i64 a9], Value.agg #[Value.int .i64 a5, Value.int .i64 a6, Value.int .i64 a7, Value.int .i64 a8, Value.int .i64 a9]]) (by kernel_rfl) (v := Value.bool true) (eqAuthVector_c a5 a6 a7 a8 a9 _) hS3 (fun w5 hS5 => hK _ _ ?_))
  clear hK K
  refine q_seg (S := (fun x_ => St w x_ [Res.box blk4 [Value.int .i64 a0, Value.int .i64 a1, Value.int .i64 a2, Value.int .i64 a3, Value.int .i64 a4, Value.int .i64 a5, Value.int .i64 a6, Value.int .i64 a7, Value.int .i64 a8, Value.int .i64 a9, Value.int .i64 a10] 29, Res.box blk2 [Value.int .i64 a0, Value.int .i64 a1, Value.int .i64 a2, Value.int .i64 a3, Value.int .i64 a4, Value.int .i64 a5, Value.int .i64 a6, Value.int .i64 a7, Value.int .i64 a8, Value.int .i64 a9, Value.int .i64 a10] 29])) [(35, Value.bool false)] [.no] True (by kernel_rfl) trivial hS5 ?_
  refine l_nil rfl ?_
  refine then_n ?_
  refine c_false (b := false) (by kernel_rfl) rfl ?_
  refine wp_skip ?_
  refine then_n ?_
  refine wp_seq ?_
  refine wp_seq ?_
  refine c_reg ?_
  refine q_seg (S := (fun x_ => St w x_ [Res.box blk4 [Value.int .i64 a0, Value.int .i64 a1, Value.int .i64 a2, Value.int .i64 a3, Value.int .i64 a4, Value.int .i64 a5, Value.int .i64 a6, Value.int .i64 a7, Value.int .i64 a8, Value.int .i64 a9, Value.int .i64 a10] 29, Res.box blk2 [Value.int .i64 a0, Value.int .i64 a1, Value.int .i64 a2, Value.int .i64 a3, Value.int .i64 a4, Value.int .i64 a5, Value.int .i64 a6, Value.int .i64 a7, Value.int .i64 a8, Value.int .i64 a9, Value.int .i64 a10] 29])) [(40, Value.bool (!(decide (a10 = a10)))), (39, Value.int .i64 a10), (38, Value.pointer (some ⟨blk4, 0 + 10, none⟩)), (37, Value.int .i64 a10), (36, Value.pointer (some ⟨blk2, 0 + 10, none⟩))] [.no, .v (Value.int .i64 a10), .no, .v (Value.int .i64 a10), .no] ((LoadsAt Try.prog (fun x_ => St w x_ [Res.box blk4 [Value.int .i64 a0, Value.int .i64 a1, Value.int .i64 a2, Value.int .i64 a3, Value.int .i64 a4, Value.int .i64 a5, Value.int .i64 a6, Value.int .i64 a7, Value.int .i64 a8, Value.int .i64 a9, Value.int .i64 a10] 29, Res.box blk2 [Value.int .i64 a0, Value.int .i64 a1, Value.int .i64 a2, Value.int .i64 a3, Value.int .i64 a4, Value.int .i64 a5, Value.int .i64 a6, Value.int .i64 a7, Value.int .i64 a8, Value.int .i64 a9, Value.int .i64 a10] 29]) 3 ⟨blk2, 0 + 10, none⟩ (Value.int .i64 a10)) ∧ (LoadsAt Try.prog (fun x_ => St w x_ [Res.box blk4 [Value.int .i64 a0, Value.int .i64 a1, Value.int .i64 a2, Value.int .i64 a3, Value.int .i64 a4, Value.int .i64 a5, Value.int .i64 a6, Value.int .i64 a7, Value.int .i64 a8, Value.int .i64 a9, Value.int .i64 a10] 29, Res.box blk2 [Value.int .i64 a0, Value.int .i64 a1, Value.int .i64 a2, Value.int .i64 a3, Value.int .i64 a4, Value.int .i64 a5, Value.int .i64 a6, Value.int .i64 a7, Value.int .i64 a8, Value.int .i64 a9, Value.int .i64 a10] 29]) 3 ⟨blk4, 0 + 10, none⟩ (Value.int .i64 a10))) (by kernel_rfl) ⟨(ld_box (i := 1) rfl rfl (by kernel_rfl)), (ld_box (i := 0) rfl rfl (by kernel_rfl))⟩ hS5 ?_
  refine l_nil rfl ?_
  refine then_n ?_
  refine c_false (b := (!(decide (a10 = a10)))) (by kernel_rfl) (nb (v := true) (decide_eq_true rfl)) ?_
  refine wp_skip ?_
  refine then_n ?_
  refine wp_seq ?_
  refine c_reg ?_
  refine q_seg (S := (fun x_ => St w x_ [Res.box blk4 [Value.int .i64 a0, Value.int .i64 a1, Value.int .i64 a2, Value.int .i64 a3, Value.int .i64 a4, Value.int .i64 a5, Value.int .i64 a6, Value.int .i64 a7, Value.int .i64 a8, Value.int .i64 a9, Value.int .i64 a10] 29, Res.box blk2 [Value.int .i64 a0, Value.int .i64 a1, Value.int .i64 a2, Value.int .i64 a3, Value.int .i64 a4, Value.int .i64 a5, Value.int .i64 a6, Value.int .i64 a7, Value.int .i64 a8, Value.int .i64 a9, Value.int .i64 a10] 29])) [(4, Value.bool true)] [.no] True (by kernel_rfl) trivial hS5 ?_
  refine l_nil rfl ?_
  refine then_n ?_
  refine wp_ret ?_
  exact c_end (S := (fun x_ => St w x_ [Res.box blk4 [Value.int .i64 a0, Value.int .i64 a1, Value.int .i64 a2, Value.int .i64 a3, Value.int .i64 a4, Value.int .i64 a5, Value.int .i64 a6, Value.int .i64 a7, Value.int .i64 a8, Value.int .i64 a9, Value.int .i64 a10] 29, Res.box blk2 [Value.int .i64 a0, Value.int .i64 a1, Value.int .i64 a2, Value.int .i64 a3, Value.int .i64 a4, Value.int .i64 a5, Value.int .i64 a6, Value.int .i64 a7, Value.int .i64 a8, Value.int .i64 a9, Value.int .i64 a10] 29])) (rs := [.tmp 4]) rfl [] (v := Value.bool true) (C := True) (by kernel_rfl) trivial hS5 ((hS5.rv rfl))
def vsig (a0 a1 a2 a3 a4 : Int) : Bool := inR a0 1 8 && inR a1 0 5 && inR a2 0 999999 && inR a3 0 999999 && inR a4 0 1000000000000
def rmac (a0 : Int) : Bool := decide (a0 = 4 ∨ a0 = 5 ∨ a0 = 6 ∨ a0 = 8)
def smac (root a0 a1 a2 a3 a4 : Int) : Int := khash (dsteps root [1, 2]) [23, a0, a1, a2, a3, a4]
theorem smac_bd (root a0 a1 a2 a3 a4 : Int) : 0 ≤ smac root a0 a1 a2 a3 a4 ∧ smac root a0 a1 a2 a3 a4 < 2147483647 := khash_bd _ _

theorem IsValidSignal_i_c (a0 : Int) (a1 : Int) (a2 : Int) (a3 : Int) (a4 : Int) (a5 : Int) (a6 : Int) (a7 : Int) (a8 : Int) (a9 : Int) (a10 : Int) (w : World) : Calls Try.prog 14 #[Value.agg #[Value.int .i64 a0, Value.int .i64 a1, Value.int .i64 a2, Value.int .i64 a3, Value.int .i64 a4, Value.int .i64 a5, Value.int .i64 a6, Value.int .i64 a7, Value.int .i64 a8, Value.int .i64 a9, Value.int .i64 a10]] w (RetV w (Value.bool (vsig a0 a1 a2 a3 a4))) := by
  refine calls_FA Try.func14 rfl (n := 26) rfl (l := [(0, Value.agg #[Value.int .i64 a0, Value.int .i64 a1, Value.int .i64 a2, Value.int .i64 a3, Value.int .i64 a4, Value.int .i64 a5, Value.int .i64 a6, Value.int .i64 a7, Value.int .i64 a8, Value.int .i64 a9, Value.int .i64 a10])]) rfl (by simp) (fun g => ?_)
  have hS := St.init w
  refine wp_seq ?_
  refine c_reg ?_
  refine l_op rfl rfl (fun K hK => op_box (d := some 1) rfl rfl [Value.int .i64 a0, Value.int .i64 a1, Value.int .i64 a2, Value.int .i64 a3, Value.int .i64 a4, Value.int .i64 a5, Value.int .i64 a6, Value.int .i64 a7, Value.int .i64 a8, Value.int .i64 a9, Value.int .i64 a10] (by kernel_rfl) hS (fun blk2 w1 hS1 => hK _ _ ?_))
  clear hK K
  refine q_seg (S := (fun x_ => St w x_ [Res.box blk2 [Value.int .i64 a0, Value.int .i64 a1, Value.int .i64 a2, Value.int .i64 a3, Value.int .i64 a4, Value.int .i64 a5, Value.int .i64 a6, Value.int .i64 a7, Value.int .i64 a8, Value.int .i64 a9, Value.int .i64 a10] 29])) [(2, Value.bool false)] [.no] True (by kernel_rfl) trivial hS1 ?_
  refine l_nil rfl ?_
  refine then_n ?_
  refine wp_seq ?_
  refine c_reg ?_
  refine q_seg (S := (fun x_ => St w x_ [Res.box blk2 [Value.int .i64 a0, Value.int .i64 a1, Value.int .i64 a2, Value.int .i64 a3, Value.int .i64 a4, Value.int .i64 a5, Value.int .i64 a6, Value.int .i64 a7, Value.int .i64 a8, Value.int .i64 a9, Value.int .i64 a10] 29])) [(4, Value.int .i64 a0), (3, Value.pointer (some ⟨blk2, 0 + 0, none⟩))] [.no, .v (Value.int .i64 a0)] ((LoadsAt Try.prog (fun x_ => St w x_ [Res.box blk2 [Value.int .i64 a0, Value.int .i64 a1, Value.int .i64 a2, Value.int .i64 a3, Value.int .i64 a4, Value.int .i64 a5, Value.int .i64 a6, Value.int .i64 a7, Value.int .i64 a8, Value.int .i64 a9, Value.int .i64 a10] 29]) 3 ⟨blk2, 0 + 0, none⟩ (Value.int .i64 a0))) (by kernel_rfl) (ld_box (i := 0) rfl rfl (by kernel_rfl)) hS1 ?_
  refine l_op rfl rfl (fun K hK => op_callv (d := some 5) rfl rfl ⟨_, Try.func30, by kernel_rfl, by kernel_rfl⟩ (vs := [Value.int .i64 a0, Value.int .i64 1, Value.int .i64 8]) (by kernel_rfl) (v := Value.bool (inR a0 1 8)) (InRange_c a0 1 8 _) hS1 (fun w3 hS3 => hK _ _ ?_))
  clear hK K
  refine q_seg (S := (fun x_ => St w x_ [Res.box blk2 [Value.int .i64 a0, Value.int .i64 a1, Value.int .i64 a2, Value.int .i64 a3, Value.int .i64 a4, Value.int .i64 a5, Value.int .i64 a6, Value.int .i64 a7, Value.int .i64 a8, Value.int .i64 a9, Value.int .i64 a10] 29])) [(6, Value.bool (inR a0 1 8))] [.no] True (by kernel_rfl) trivial hS3 ?_
  rcases Bool.eq_false_or_eq_true (inR a0 1 8) with hb4 | hb4
  · skip
    obtain ⟨hb4p, hb4q⟩ := inR_iff.1 hb4
    refine q_seg (S := (fun x_ => St w x_ [Res.box blk2 [Value.int .i64 a0, Value.int .i64 a1, Value.int .i64 a2, Value.int .i64 a3, Value.int .i64 a4, Value.int .i64 a5, Value.int .i64 a6, Value.int .i64 a7, Value.int .i64 a8, Value.int .i64 a9, Value.int .i64 a10] 29])) [(8, Value.int .i64 a1), (7, Value.pointer (some ⟨blk2, 0 + 1, none⟩))] [.no, .v (Value.int .i64 a1)] (((inR a0 1 8) = true) ∧ ((inR a0 1 8) = true) ∧ (LoadsAt Try.prog (fun x_ => St w x_ [Res.box blk2 [Value.int .i64 a0, Value.int .i64 a1, Value.int .i64 a2, Value.int .i64 a3, Value.int .i64 a4, Value.int .i64 a5, Value.int .i64 a6, Value.int .i64 a7, Value.int .i64 a8, Value.int .i64 a9, Value.int .i64 a10] 29]) 3 ⟨blk2, 0 + 1, none⟩ (Value.int .i64 a1))) (by kernel_rfl) ⟨hb4, hb4, (ld_box (i := 0) rfl rfl (by kernel_rfl))⟩ hS3 ?_
    refine l_opg rfl (b := (inR a0 1 8)) (want := true) (by kernel_rfl) hb4 (fun K hK => op_callv (d := some 9) rfl rfl ⟨_, Try.func30, by kernel_rfl, by kernel_rfl⟩ (vs := [Value.int .i64 a1, Value.int .i64 0, Value.int .i64 5]) (by kernel_rfl) (v := Value.bool (inR a1 0 5)) (InRange_c a1 0 5 _) hS3 (fun w5 hS5 => hK _ _ ?_))
    clear hK K
    refine q_seg (S := (fun x_ => St w x_ [Res.box blk2 [Value.int .i64 a0, Value.int .i64 a1, Value.int .i64 a2, Value.int .i64 a3, Value.int .i64 a4, Value.int .i64 a5, Value.int .i64 a6, Value.int .i64 a7, Value.int .i64 a8, Value.int .i64 a9, Value.int .i64 a10] 29])) [(11, Value.bool (inR a1 0 5)), (10, Value.bool (inR a1 0 5))] [.v (.bool true), .no] (((inR a0 1 8) = true)) (by kernel_rfl) hb4 hS5 ?_
    rcases Bool.eq_false_or_eq_true (inR a1 0 5) with hb6 | hb6
    · skip
      obtain ⟨hb6p, hb6q⟩ := inR_iff.1 hb6
      refine q_seg (S := (fun x_ => St w x_ [Res.box blk2 [Value.int .i64 a0, Value.int .i64 a1, Value.int .i64 a2, Value.int .i64 a3, Value.int .i64 a4, Value.int .i64 a5, Value.int .i64 a6, Value.int .i64 a7, Value.int .i64 a8, Value.int .i64 a9, Value.int .i64 a10] 29])) [(13, Value.int .i64 a2), (12, Value.pointer (some ⟨blk2, 0 + 2, none⟩))] [.no, .v (Value.int .i64 a2)] (((inR a1 0 5) = true) ∧ ((inR a1 0 5) = true) ∧ (LoadsAt Try.prog (fun x_ => St w x_ [Res.box blk2 [Value.int .i64 a0, Value.int .i64 a1, Value.int .i64 a2, Value.int .i64 a3, Value.int .i64 a4, Value.int .i64 a5, Value.int .i64 a6, Value.int .i64 a7, Value.int .i64 a8, Value.int .i64 a9, Value.int .i64 a10] 29]) 3 ⟨blk2, 0 + 2, none⟩ (Value.int .i64 a2))) (by kernel_rfl) ⟨hb6, hb6, (ld_box (i := 0) rfl rfl (by kernel_rfl))⟩ hS5 ?_
      refine l_opg rfl (b := (inR a1 0 5)) (want := true) (by kernel_rfl) hb6 (fun K hK => op_callv (d := some 14) rfl rfl ⟨_, Try.func30, by kernel_rfl, by kernel_rfl⟩ (vs := [Value.int .i64 a2, Value.int .i64 0, Value.int .i64 999999]) (by kernel_rfl) (v := Value.bool (inR a2 0 999999)) (InRange_c a2 0 999999 _) hS5 (fun w7 hS7 => hK _ _ ?_))
      clear hK K
      refine q_seg (S := (fun x_ => St w x_ [Res.box blk2 [Value.int .i64 a0, Value.int .i64 a1, Value.int .i64 a2, Value.int .i64 a3, Value.int .i64 a4, Value.int .i64 a5, Value.int .i64 a6, Value.int .i64 a7, Value.int .i64 a8, Value.int .i64 a9, Value.int .i64 a10] 29])) [(16, Value.bool (inR a2 0 999999)), (15, Value.bool (inR a2 0 999999))] [.v (.bool true), .no] (((inR a1 0 5) = true)) (by kernel_rfl) hb6 hS7 ?_
      rcases Bool.eq_false_or_eq_true (inR a2 0 999999) with hb8 | hb8
      · skip
        obtain ⟨hb8p, hb8q⟩ := inR_iff.1 hb8
        refine q_seg (S := (fun x_ => St w x_ [Res.box blk2 [Value.int .i64 a0, Value.int .i64 a1, Value.int .i64 a2, Value.int .i64 a3, Value.int .i64 a4, Value.int .i64 a5, Value.int .i64 a6, Value.int .i64 a7, Value.int .i64 a8, Value.int .i64 a9, Value.int .i64 a10] 29])) [(18, Value.int .i64 a3), (17, Value.pointer (some ⟨blk2, 0 + 3, none⟩))] [.no, .v (Value.int .i64 a3)] (((inR a2 0 999999) = true) ∧ ((inR a2 0 999999) = true) ∧ (LoadsAt Try.prog (fun x_ => St w x_ [Res.box blk2 [Value.int .i64 a0, Value.int .i64 a1, Value.int .i64 a2, Value.int .i64 a3, Value.int .i64 a4, Value.int .i64 a5, Value.int .i64 a6, Value.int .i64 a7, Value.int .i64 a8, Value.int .i64 a9, Value.int .i64 a10] 29]) 3 ⟨blk2, 0 + 3, none⟩ (Value.int .i64 a3))) (by kernel_rfl) ⟨hb8, hb8, (ld_box (i := 0) rfl rfl (by kernel_rfl))⟩ hS7 ?_
        refine l_opg rfl (b := (inR a2 0 999999)) (want := true) (by kernel_rfl) hb8 (fun K hK => op_callv (d := some 19) rfl rfl ⟨_, Try.func30, by kernel_rfl, by kernel_rfl⟩ (vs := [Value.int .i64 a3, Value.int .i64 0, Value.int .i64 999999]) (by kernel_rfl) (v := Value.bool (inR a3 0 999999)) (InRange_c a3 0 999999 _) hS7 (fun w9 hS9 => hK _ _ ?_))
        clear hK K
        refine q_seg (S := (fun x_ => St w x_ [Res.box blk2 [Value.int .i64 a0, Value.int .i64 a1, Value.int .i64 a2, Value.int .i64 a3, Value.int .i64 a4, Value.int .i64 a5, Value.int .i64 a6, Value.int .i64 a7, Value.int .i64 a8, Value.int .i64 a9, Value.int .i64 a10] 29])) [(21, Value.bool (inR a3 0 999999)), (20, Value.bool (inR a3 0 999999))] [.v (.bool true), .no] (((inR a2 0 999999) = true)) (by kernel_rfl) hb8 hS9 ?_
        rcases Bool.eq_false_or_eq_true (inR a3 0 999999) with hb10 | hb10
        · skip
          obtain ⟨hb10p, hb10q⟩ := inR_iff.1 hb10
          refine q_seg (S := (fun x_ => St w x_ [Res.box blk2 [Value.int .i64 a0, Value.int .i64 a1, Value.int .i64 a2, Value.int .i64 a3, Value.int .i64 a4, Value.int .i64 a5, Value.int .i64 a6, Value.int .i64 a7, Value.int .i64 a8, Value.int .i64 a9, Value.int .i64 a10] 29])) [(23, Value.int .i64 a4), (22, Value.pointer (some ⟨blk2, 0 + 4, none⟩))] [.no, .v (Value.int .i64 a4)] (((inR a3 0 999999) = true) ∧ ((inR a3 0 999999) = true) ∧ (LoadsAt Try.prog (fun x_ => St w x_ [Res.box blk2 [Value.int .i64 a0, Value.int .i64 a1, Value.int .i64 a2, Value.int .i64 a3, Value.int .i64 a4, Value.int .i64 a5, Value.int .i64 a6, Value.int .i64 a7, Value.int .i64 a8, Value.int .i64 a9, Value.int .i64 a10] 29]) 3 ⟨blk2, 0 + 4, none⟩ (Value.int .i64 a4))) (by kernel_rfl) ⟨hb10, hb10, (ld_box (i := 0) rfl rfl (by kernel_rfl))⟩ hS9 ?_
          refine l_opg rfl (b := (inR a3 0 999999)) (want := true) (by kernel_rfl) hb10 (fun K hK => op_callv (d := some 24) rfl rfl ⟨_, Try.func30, by kernel_rfl, by kernel_rfl⟩ (vs := [Value.int .i64 a4, Value.int .i64 0, Value.int .i64 1000000000000]) (by kernel_rfl) (v := Value.bool (inR a4 0 1000000000000)) (InRange_c a4 0 1000000000000 _) hS9 (fun w11 hS11 => hK _ _ ?_))
          clear hK K
          refine q_seg (S := (fun x_ => St w x_ [Res.box blk2 [Value.int .i64 a0, Value.int .i64 a1, Value.int .i64 a2, Value.int .i64 a3, Value.int .i64 a4, Value.int .i64 a5, Value.int .i64 a6, Value.int .i64 a7, Value.int .i64 a8, Value.int .i64 a9, Value.int .i64 a10] 29])) [(2, Value.bool (inR a4 0 1000000000000)), (25, Value.bool (inR a4 0 1000000000000))] [.v (.bool true), .no] (((inR a3 0 999999) = true)) (by kernel_rfl) hb10 hS11 ?_
          refine l_nil rfl ?_
          refine then_n ?_
          refine wp_ret ?_
          exact c_end (S := (fun x_ => St w x_ [Res.box blk2 [Value.int .i64 a0, Value.int .i64 a1, Value.int .i64 a2, Value.int .i64 a3, Value.int .i64 a4, Value.int .i64 a5, Value.int .i64 a6, Value.int .i64 a7, Value.int .i64 a8, Value.int .i64 a9, Value.int .i64 a10] 29])) (rs := [.tmp 2]) rfl [] (v := Value.bool (inR a4 0 1000000000000)) (C := True) (by kernel_rfl) trivial hS11 ((hS11.rv (by simp [vsig, *])))
        · skip
          have hb10p := inR_neg hb10
          refine q_seg (S := (fun x_ => St w x_ [Res.box blk2 [Value.int .i64 a0, Value.int .i64 a1, Value.int .i64 a2, Value.int .i64 a3, Value.int .i64 a4, Value.int .i64 a5, Value.int .i64 a6, Value.int .i64 a7, Value.int .i64 a8, Value.int .i64 a9, Value.int .i64 a10] 29])) [(2, Value.bool false), (25, Value.bool false), (24, undef), (23, undef), (22, undef)] [.skip, .skip, .skip, .v (.bool false), .no] (((inR a3 0 999999) = !true) ∧ ((inR a3 0 999999) = !true) ∧ ((inR a3 0 999999) = !true) ∧ ((inR a3 0 999999) = false)) (by kernel_rfl) ⟨hb10, hb10, hb10, hb10⟩ hS9 ?_
          refine l_nil rfl ?_
          refine then_n ?_
          refine wp_ret ?_
          exact c_end (S := (fun x_ => St w x_ [Res.box blk2 [Value.int .i64 a0, Value.int .i64 a1, Value.int .i64 a2, Value.int .i64 a3, Value.int .i64 a4, Value.int .i64 a5, Value.int .i64 a6, Value.int .i64 a7, Value.int .i64 a8, Value.int .i64 a9, Value.int .i64 a10] 29])) (rs := [.tmp 2]) rfl [] (v := Value.bool false) (C := True) (by kernel_rfl) trivial hS9 ((hS9.rv (by simp [vsig, *])))
      · skip
        have hb8p := inR_neg hb8
        refine q_seg (S := (fun x_ => St w x_ [Res.box blk2 [Value.int .i64 a0, Value.int .i64 a1, Value.int .i64 a2, Value.int .i64 a3, Value.int .i64 a4, Value.int .i64 a5, Value.int .i64 a6, Value.int .i64 a7, Value.int .i64 a8, Value.int .i64 a9, Value.int .i64 a10] 29])) [(2, Value.bool false), (25, Value.bool false), (24, undef), (23, undef), (22, undef), (21, Value.bool false), (20, Value.bool false), (19, undef), (18, undef), (17, undef)] [.skip, .skip, .skip, .v (.bool false), .no, .skip, .skip, .skip, .v (.bool false), .no] (((inR a2 0 999999) = !true) ∧ ((inR a2 0 999999) = !true) ∧ ((inR a2 0 999999) = !true) ∧ ((inR a2 0 999999) = false) ∧ (false = !true) ∧ (false = !true) ∧ (false = !true) ∧ (false = false)) (by kernel_rfl) ⟨hb8, hb8, hb8, hb8, rfl, rfl, rfl, rfl⟩ hS7 ?_
        refine l_nil rfl ?_
        refine then_n ?_
        refine wp_ret ?_
        exact c_end (S := (fun x_ => St w x_ [Res.box blk2 [Value.int .i64 a0, Value.int .i64 a1, Value.int .i64 a2, Value.int .i64 a3, Value.int .i64 a4, Value.int .i64 a5, Value.int .i64 a6, Value.int .i64 a7, Value.int .i64 a8, Value.int .i64 a9, Value.int .i64 a10] 29])) (rs := [.tmp 2]) rfl [] (v := Value.bool false) (C := True) (by kernel_rfl) trivial hS7 ((hS7.rv (by simp [vsig, *])))
    · skip
      have hb6p := inR_neg hb6
      refine q_seg (S := (fun x_ => St w x_ [Res.box blk2 [Value.int .i64 a0, Value.int .i64 a1, Value.int .i64 a2, Value.int .i64 a3, Value.int .i64 a4, Value.int .i64 a5, Value.int .i64 a6, Value.int .i64 a7, Value.int .i64 a8, Value.int .i64 a9, Value.int .i64 a10] 29])) [(2, Value.bool false), (25, Value.bool false), (24, undef), (23, undef), (22, undef), (21, Value.bool false), (20, Value.bool false), (19, undef), (18, undef), (17, undef), (16, Value.bool false), (15, Value.bool false), (14, undef), (13, undef), (12, undef)] [.skip, .skip, .skip, .v (.bool false), .no, .skip, .skip, .skip, .v (.bool false), .no, .skip, .skip, .skip, .v (.bool false), .no] (((inR a1 0 5) = !true) ∧ ((inR a1 0 5) = !true) ∧ ((inR a1 0 5) = !true) ∧ ((inR a1 0 5) = false) ∧ (false = !true) ∧ (false = !true) ∧ (false = !true) ∧ (false = false) ∧ (false = !true) ∧ (false = !true) ∧ (false = !true) ∧ (false = false)) (by kernel_rfl) ⟨hb6, hb6, hb6, hb6, rfl, rfl, rfl, rfl, rfl, rfl, rfl, rfl⟩ hS5 ?_
      refine l_nil rfl ?_
      refine then_n ?_
      refine wp_ret ?_
      exact c_end (S := (fun x_ => St w x_ [Res.box blk2 [Value.int .i64 a0, Value.int .i64 a1, Value.int .i64 a2, Value.int .i64 a3, Value.int .i64 a4, Value.int .i64 a5, Value.int .i64 a6, Value.int .i64 a7, Value.int .i64 a8, Value.int .i64 a9, Value.int .i64 a10] 29])) (rs := [.tmp 2]) rfl [] (v := Value.bool false) (C := True) (by kernel_rfl) trivial hS5 ((hS5.rv (by simp [vsig, *])))
  · skip
    have hb4p := inR_neg hb4
    refine q_seg (S := (fun x_ => St w x_ [Res.box blk2 [Value.int .i64 a0, Value.int .i64 a1, Value.int .i64 a2, Value.int .i64 a3, Value.int .i64 a4, Value.int .i64 a5, Value.int .i64 a6, Value.int .i64 a7, Value.int .i64 a8, Value.int .i64 a9, Value.int .i64 a10] 29])) [(2, Value.bool false), (25, Value.bool false), (24, undef), (23, undef), (22, undef), (21, Value.bool false), (20, Value.bool false), (19, undef), (18, undef), (17, undef), (16, Value.bool false), (15, Value.bool false), (14, undef), (13, undef), (12, undef), (11, Value.bool false), (10, Value.bool false), (9, undef), (8, undef), (7, undef)] [.skip, .skip, .skip, .v (.bool false), .no, .skip, .skip, .skip, .v (.bool false), .no, .skip, .skip, .skip, .v (.bool false), .no, .skip, .skip, .skip, .v (.bool false), .no] (((inR a0 1 8) = !true) ∧ ((inR a0 1 8) = !true) ∧ ((inR a0 1 8) = !true) ∧ ((inR a0 1 8) = false) ∧ (false = !true) ∧ (false = !true) ∧ (false = !true) ∧ (false = false) ∧ (false = !true) ∧ (false = !true) ∧ (false = !true) ∧ (false = false) ∧ (false = !true) ∧ (false = !true) ∧ (false = !true) ∧ (false = false)) (by kernel_rfl) ⟨hb4, hb4, hb4, hb4, rfl, rfl, rfl, rfl, rfl, rfl, rfl, rfl, rfl, rfl, rfl, rfl⟩ hS3 ?_
    refine l_nil rfl ?_
    refine then_n ?_
    refine wp_ret ?_
    exact c_end (S := (fun x_ => St w x_ [Res.box blk2 [Value.int .i64 a0, Value.int .i64 a1, Value.int .i64 a2, Value.int .i64 a3, Value.int .i64 a4, Value.int .i64 a5, Value.int .i64 a6, Value.int .i64 a7, Value.int .i64 a8, Value.int .i64 a9, Value.int .i64 a10] 29])) (rs := [.tmp 2]) rfl [] (v := Value.bool false) (C := True) (by kernel_rfl) trivial hS3 ((hS3.rv (by simp [vsig, *])))

theorem IsValidSignal_s_c (a0 : Int) (a1 : Int) (a2 : Int) (a3 : Int) (a4 : Int) (a5 : Int) (a6 : Int) (a7 : Int) (a8 : Int) (a9 : Int) (a10 : Int) (w : World) : Calls Try.prog 13 #[Value.agg #[Value.int .i64 a0, Value.int .i64 a1, Value.int .i64 a2, Value.int .i64 a3, Value.int .i64 a4, Value.int .i64 a5, Value.int .i64 a6, Value.int .i64 a7, Value.int .i64 a8, Value.int .i64 a9, Value.int .i64 a10]] w (RetV w (Value.bool (vsig a0 a1 a2 a3 a4))) := by
  refine calls_FA Try.func13 rfl (n := 26) rfl (l := [(0, Value.agg #[Value.int .i64 a0, Value.int .i64 a1, Value.int .i64 a2, Value.int .i64 a3, Value.int .i64 a4, Value.int .i64 a5, Value.int .i64 a6, Value.int .i64 a7, Value.int .i64 a8, Value.int .i64 a9, Value.int .i64 a10])]) rfl (by simp) (fun g => ?_)
  have hS := St.init w
  refine wp_seq ?_
  refine c_reg ?_
  refine l_op rfl rfl (fun K hK => op_box (d := some 1) rfl rfl [Value.int .i64 a0, Value.int .i64 a1, Value.int .i64 a2, Value.int .i64 a3, Value.int .i64 a4, Value.int .i64 a5, Value.int .i64 a6, Value.int .i64 a7, Value.int .i64 a8, Value.int .i64 a9, Value.int .i64 a10] (by kernel_rfl) hS (fun blk2 w1 hS1 => hK _ _ ?_))
  clear hK K
  refine q_seg (S := (fun x_ => St w x_ [Res.box blk2 [Value.int .i64 a0, Value.int .i64 a1, Value.int .i64 a2, Value.int .i64 a3, Value.int .i64 a4, Value.int .i64 a5, Value.int .i64 a6, Value.int .i64 a7, Value.int .i64 a8, Value.int .i64 a9, Value.int .i64 a10] 29])) [(2, Value.bool false)] [.no] True (by kernel_rfl) trivial hS1 ?_
  refine l_nil rfl ?_
  refine then_n ?_
  refine wp_seq ?_
  refine c_reg ?_
  refine q_seg (S := (fun x_ => St w x_ [Res.box blk2 [Value.int .i64 a0, Value.int .i64 a1, Value.int .i64 a2, Value.int .i64 a3, Value.int .i64 a4, Value.int .i64 a5, Value.int .i64 a6, Value.int .i64 a7, Value.int .i64 a8, Value.int .i64 a9, Value.int .i64 a10] 29])) [(4, Value.int .i64 a0), (3, Value.pointer (some ⟨blk2, 0 + 0, none⟩))] [.no, .v (Value.int .i64 a0)] ((LoadsAt Try.prog (fun x_ => St w x_ [Res.box blk2 [Value.int .i64 a0, Value.int .i64 a1, Value.int .i64 a2, Value.int .i64 a3, Value.int .i64 a4, Value.int .i64 a5, Value.int .i64 a6, Value.int .i64 a7, Value.int .i64 a8, Value.int .i64 a9, Value.int .i64 a10] 29]) 3 ⟨blk2, 0 + 0, none⟩ (Value.int .i64 a0))) (by kernel_rfl) (ld_box (i := 0) rfl rfl (by kernel_rfl)) hS1 ?_
  refine l_op rfl rfl (fun K hK => op_callv (d := some 5) rfl rfl ⟨_, Try.func28, by kernel_rfl, by kernel_rfl⟩ (vs := [Value.int .i64 a0, Value.int .i64 1, Value.int .i64 8]) (by kernel_rfl) (v := Value.bool (inR a0 1 8)) (l1In_c a0 1 8 _) hS1 (fun w3 hS3 => hK _ _ ?_))
  clear hK K
  refine q_seg (S := (fun x_ => St w x_ [Res.box blk2 [Value.int .i64 a0, Value.int .i64 a1, Value.int .i64 a2, Value.int .i64 a3, Value.int .i64 a4, Value.int .i64 a5, Value.int .i64 a6, Value.int .i64 a7, Value.int .i64 a8, Value.int .i64 a9, Value.int .i64 a10] 29])) [(6, Value.bool (inR a0 1 8))] [.no] True (by kernel_rfl) trivial hS3 ?_
  rcases Bool.eq_false_or_eq_true (inR a0 1 8) with hb4 | hb4
  · skip
    obtain ⟨hb4p, hb4q⟩ := inR_iff.1 hb4
    refine q_seg (S := (fun x_ => St w x_ [Res.box blk2 [Value.int .i64 a0, Value.int .i64 a1, Value.int .i64 a2, Value.int .i64 a3, Value.int .i64 a4, Value.int .i64 a5, Value.int .i64 a6, Value.int .i64 a7, Value.int .i64 a8, Value.int .i64 a9, Value.int .i64 a10] 29])) [(8, Value.int .i64 a1), (7, Value.pointer (some ⟨blk2, 0 + 1, none⟩))] [.no, .v (Value.int .i64 a1)] (((inR a0 1 8) = true) ∧ ((inR a0 1 8) = true) ∧ (LoadsAt Try.prog (fun x_ => St w x_ [Res.box blk2 [Value.int .i64 a0, Value.int .i64 a1, Value.int .i64 a2, Value.int .i64 a3, Value.int .i64 a4, Value.int .i64 a5, Value.int .i64 a6, Value.int .i64 a7, Value.int .i64 a8, Value.int .i64 a9, Value.int .i64 a10] 29]) 3 ⟨blk2, 0 + 1, none⟩ (Value.int .i64 a1))) (by kernel_rfl) ⟨hb4, hb4, (ld_box (i := 0) rfl rfl (by kernel_rfl))⟩ hS3 ?_
    refine l_opg rfl (b := (inR a0 1 8)) (want := true) (by kernel_rfl) hb4 (fun K hK => op_callv (d := some 9) rfl rfl ⟨_, Try.func28, by kernel_rfl, by kernel_rfl⟩ (vs := [Value.int .i64 a1, Value.int .i64 0, Value.int .i64 5]) (by kernel_rfl) (v := Value.bool (inR a1 0 5)) (l1In_c a1 0 5 _) hS3 (fun w5 hS5 => hK _ _ ?_))
    clear hK K
    refine q_seg (S := (fun x_ => St w x_ [Res.box blk2 [Value.int .i64 a0, Value.int .i64 a1, Value.int .i64 a2, Value.int .i64 a3, Value.int .i64 a4, Value.int .i64 a5, Value.int .i64 a6, Value.int .i64 a7, Value.int .i64 a8, Value.int .i64 a9, Value.int .i64 a10] 29])) [(11, Value.bool (inR a1 0 5)), (10, Value.bool (inR a1 0 5))] [.v (.bool true), .no] (((inR a0 1 8) = true)) (by kernel_rfl) hb4 hS5 ?_
    rcases Bool.eq_false_or_eq_true (inR a1 0 5) with hb6 | hb6
    · skip
      obtain ⟨hb6p, hb6q⟩ := inR_iff.1 hb6
      refine q_seg (S := (fun x_ => St w x_ [Res.box blk2 [Value.int .i64 a0, Value.int .i64 a1, Value.int .i64 a2, Value.int .i64 a3, Value.int .i64 a4, Value.int .i64 a5, Value.int .i64 a6, Value.int .i64 a7, Value.int .i64 a8, Value.int .i64 a9, Value.int .i64 a10] 29])) [(13, Value.int .i64 a2), (12, Value.pointer (some ⟨blk2, 0 + 2, none⟩))] [.no, .v (Value.int .i64 a2)] (((inR a1 0 5) = true) ∧ ((inR a1 0 5) = true) ∧ (LoadsAt Try.prog (fun x_ => St w x_ [Res.box blk2 [Value.int .i64 a0, Value.int .i64 a1, Value.int .i64 a2, Value.int .i64 a3, Value.int .i64 a4, Value.int .i64 a5, Value.int .i64 a6, Value.int .i64 a7, Value.int .i64 a8, Value.int .i64 a9, Value.int .i64 a10] 29]) 3 ⟨blk2, 0 + 2, none⟩ (Value.int .i64 a2))) (by kernel_rfl) ⟨hb6, hb6, (ld_box (i := 0) rfl rfl (by kernel_rfl))⟩ hS5 ?_
      refine l_opg rfl (b := (inR a1 0 5)) (want := true) (by kernel_rfl) hb6 (fun K hK => op_callv (d := some 14) rfl rfl ⟨_, Try.func28, by kernel_rfl, by kernel_rfl⟩ (vs := [Value.int .i64 a2, Value.int .i64 0, Value.int .i64 999999]) (by kernel_rfl) (v := Value.bool (inR a2 0 999999)) (l1In_c a2 0 999999 _) hS5 (fun w7 hS7 => hK _ _ ?_))
      clear hK K
      refine q_seg (S := (fun x_ => St w x_ [Res.box blk2 [Value.int .i64 a0, Value.int .i64 a1, Value.int .i64 a2, Value.int .i64 a3, Value.int .i64 a4, Value.int .i64 a5, Value.int .i64 a6, Value.int .i64 a7, Value.int .i64 a8, Value.int .i64 a9, Value.int .i64 a10] 29])) [(16, Value.bool (inR a2 0 999999)), (15, Value.bool (inR a2 0 999999))] [.v (.bool true), .no] (((inR a1 0 5) = true)) (by kernel_rfl) hb6 hS7 ?_
      rcases Bool.eq_false_or_eq_true (inR a2 0 999999) with hb8 | hb8
      · skip
        obtain ⟨hb8p, hb8q⟩ := inR_iff.1 hb8
        refine q_seg (S := (fun x_ => St w x_ [Res.box blk2 [Value.int .i64 a0, Value.int .i64 a1, Value.int .i64 a2, Value.int .i64 a3, Value.int .i64 a4, Value.int .i64 a5, Value.int .i64 a6, Value.int .i64 a7, Value.int .i64 a8, Value.int .i64 a9, Value.int .i64 a10] 29])) [(18, Value.int .i64 a3), (17, Value.pointer (some ⟨blk2, 0 + 3, none⟩))] [.no, .v (Value.int .i64 a3)] (((inR a2 0 999999) = true) ∧ ((inR a2 0 999999) = true) ∧ (LoadsAt Try.prog (fun x_ => St w x_ [Res.box blk2 [Value.int .i64 a0, Value.int .i64 a1, Value.int .i64 a2, Value.int .i64 a3, Value.int .i64 a4, Value.int .i64 a5, Value.int .i64 a6, Value.int .i64 a7, Value.int .i64 a8, Value.int .i64 a9, Value.int .i64 a10] 29]) 3 ⟨blk2, 0 + 3, none⟩ (Value.int .i64 a3))) (by kernel_rfl) ⟨hb8, hb8, (ld_box (i := 0) rfl rfl (by kernel_rfl))⟩ hS7 ?_
        refine l_opg rfl (b := (inR a2 0 999999)) (want := true) (by kernel_rfl) hb8 (fun K hK => op_callv (d := some 19) rfl rfl ⟨_, Try.func28, by kernel_rfl, by kernel_rfl⟩ (vs := [Value.int .i64 a3, Value.int .i64 0, Value.int .i64 999999]) (by kernel_rfl) (v := Value.bool (inR a3 0 999999)) (l1In_c a3 0 999999 _) hS7 (fun w9 hS9 => hK _ _ ?_))
        clear hK K
        refine q_seg (S := (fun x_ => St w x_ [Res.box blk2 [Value.int .i64 a0, Value.int .i64 a1, Value.int .i64 a2, Value.int .i64 a3, Value.int .i64 a4, Value.int .i64 a5, Value.int .i64 a6, Value.int .i64 a7, Value.int .i64 a8, Value.int .i64 a9, Value.int .i64 a10] 29])) [(21, Value.bool (inR a3 0 999999)), (20, Value.bool (inR a3 0 999999))] [.v (.bool true), .no] (((inR a2 0 999999) = true)) (by kernel_rfl) hb8 hS9 ?_
        rcases Bool.eq_false_or_eq_true (inR a3 0 999999) with hb10 | hb10
        · skip
          obtain ⟨hb10p, hb10q⟩ := inR_iff.1 hb10
          refine q_seg (S := (fun x_ => St w x_ [Res.box blk2 [Value.int .i64 a0, Value.int .i64 a1, Value.int .i64 a2, Value.int .i64 a3, Value.int .i64 a4, Value.int .i64 a5, Value.int .i64 a6, Value.int .i64 a7, Value.int .i64 a8, Value.int .i64 a9, Value.int .i64 a10] 29])) [(23, Value.int .i64 a4), (22, Value.pointer (some ⟨blk2, 0 + 4, none⟩))] [.no, .v (Value.int .i64 a4)] (((inR a3 0 999999) = true) ∧ ((inR a3 0 999999) = true) ∧ (LoadsAt Try.prog (fun x_ => St w x_ [Res.box blk2 [Value.int .i64 a0, Value.int .i64 a1, Value.int .i64 a2, Value.int .i64 a3, Value.int .i64 a4, Value.int .i64 a5, Value.int .i64 a6, Value.int .i64 a7, Value.int .i64 a8, Value.int .i64 a9, Value.int .i64 a10] 29]) 3 ⟨blk2, 0 + 4, none⟩ (Value.int .i64 a4))) (by kernel_rfl) ⟨hb10, hb10, (ld_box (i := 0) rfl rfl (by kernel_rfl))⟩ hS9 ?_
          refine l_opg rfl (b := (inR a3 0 999999)) (want := true) (by kernel_rfl) hb10 (fun K hK => op_callv (d := some 24) rfl rfl ⟨_, Try.func28, by kernel_rfl, by kernel_rfl⟩ (vs := [Value.int .i64 a4, Value.int .i64 0, Value.int .i64 1000000000000]) (by kernel_rfl) (v := Value.bool (inR a4 0 1000000000000)) (l1In_c a4 0 1000000000000 _) hS9 (fun w11 hS11 => hK _ _ ?_))
          clear hK K
          refine q_seg (S := (fun x_ => St w x_ [Res.box blk2 [Value.int .i64 a0, Value.int .i64 a1, Value.int .i64 a2, Value.int .i64 a3, Value.int .i64 a4, Value.int .i64 a5, Value.int .i64 a6, Value.int .i64 a7, Value.int .i64 a8, Value.int .i64 a9, Value.int .i64 a10] 29])) [(2, Value.bool (inR a4 0 1000000000000)), (25, Value.bool (inR a4 0 1000000000000))] [.v (.bool true), .no] (((inR a3 0 999999) = true)) (by kernel_rfl) hb10 hS11 ?_
          refine l_nil rfl ?_
          refine then_n ?_
          refine wp_ret ?_
          exact c_end (S := (fun x_ => St w x_ [Res.box blk2 [Value.int .i64 a0, Value.int .i64 a1, Value.int .i64 a2, Value.int .i64 a3, Value.int .i64 a4, Value.int .i64 a5, Value.int .i64 a6, Value.int .i64 a7, Value.int .i64 a8, Value.int .i64 a9, Value.int .i64 a10] 29])) (rs := [.tmp 2]) rfl [] (v := Value.bool (inR a4 0 1000000000000)) (C := True) (by kernel_rfl) trivial hS11 ((hS11.rv (by simp [vsig, *])))
        · skip
          have hb10p := inR_neg hb10
          refine q_seg (S := (fun x_ => St w x_ [Res.box blk2 [Value.int .i64 a0, Value.int .i64 a1, Value.int .i64 a2, Value.int .i64 a3, Value.int .i64 a4, Value.int .i64 a5, Value.int .i64 a6, Value.int .i64 a7, Value.int .i64 a8, Value.int .i64 a9, Value.int .i64 a10] 29])) [(2, Value.bool false), (25, Value.bool false), (24, undef), (23, undef), (22, undef)] [.skip, .skip, .skip, .v (.bool false), .no] (((inR a3 0 999999) = !true) ∧ ((inR a3 0 999999) = !true) ∧ ((inR a3 0 999999) = !true) ∧ ((inR a3 0 999999) = false)) (by kernel_rfl) ⟨hb10, hb10, hb10, hb10⟩ hS9 ?_
          refine l_nil rfl ?_
          refine then_n ?_
          refine wp_ret ?_
          exact c_end (S := (fun x_ => St w x_ [Res.box blk2 [Value.int .i64 a0, Value.int .i64 a1, Value.int .i64 a2, Value.int .i64 a3, Value.int .i64 a4, Value.int .i64 a5, Value.int .i64 a6, Value.int .i64 a7, Value.int .i64 a8, Value.int .i64 a9, Value.int .i64 a10] 29])) (rs := [.tmp 2]) rfl [] (v := Value.bool false) (C := True) (by kernel_rfl) trivial hS9 ((hS9.rv (by simp [vsig, *])))
      · skip
        have hb8p := inR_neg hb8
        refine q_seg (S := (fun x_ => St w x_ [Res.box blk2 [Value.int .i64 a0, Value.int .i64 a1, Value.int .i64 a2, Value.int .i64 a3, Value.int .i64 a4, Value.int .i64 a5, Value.int .i64 a6, Value.int .i64 a7, Value.int .i64 a8, Value.int .i64 a9, Value.int .i64 a10] 29])) [(2, Value.bool false), (25, Value.bool false), (24, undef), (23, undef), (22, undef), (21, Value.bool false), (20, Value.bool false), (19, undef), (18, undef), (17, undef)] [.skip, .skip, .skip, .v (.bool false), .no, .skip, .skip, .skip, .v (.bool false), .no] (((inR a2 0 999999) = !true) ∧ ((inR a2 0 999999) = !true) ∧ ((inR a2 0 999999) = !true) ∧ ((inR a2 0 999999) = false) ∧ (false = !true) ∧ (false = !true) ∧ (false = !true) ∧ (false = false)) (by kernel_rfl) ⟨hb8, hb8, hb8, hb8, rfl, rfl, rfl, rfl⟩ hS7 ?_
        refine l_nil rfl ?_
        refine then_n ?_
        refine wp_ret ?_
        exact c_end (S := (fun x_ => St w x_ [Res.box blk2 [Value.int .i64 a0, Value.int .i64 a1, Value.int .i64 a2, Value.int .i64 a3, Value.int .i64 a4, Value.int .i64 a5, Value.int .i64 a6, Value.int .i64 a7, Value.int .i64 a8, Value.int .i64 a9, Value.int .i64 a10] 29])) (rs := [.tmp 2]) rfl [] (v := Value.bool false) (C := True) (by kernel_rfl) trivial hS7 ((hS7.rv (by simp [vsig, *])))
    · skip
      have hb6p := inR_neg hb6
      refine q_seg (S := (fun x_ => St w x_ [Res.box blk2 [Value.int .i64 a0, Value.int .i64 a1, Value.int .i64 a2, Value.int .i64 a3, Value.int .i64 a4, Value.int .i64 a5, Value.int .i64 a6, Value.int .i64 a7, Value.int .i64 a8, Value.int .i64 a9, Value.int .i64 a10] 29])) [(2, Value.bool false), (25, Value.bool false), (24, undef), (23, undef), (22, undef), (21, Value.bool false), (20, Value.bool false), (19, undef), (18, undef), (17, undef), (16, Value.bool false), (15, Value.bool false), (14, undef), (13, undef), (12, undef)] [.skip, .skip, .skip, .v (.bool false), .no, .skip, .skip, .skip, .v (.bool false), .no, .skip, .skip, .skip, .v (.bool false), .no] (((inR a1 0 5) = !true) ∧ ((inR a1 0 5) = !true) ∧ ((inR a1 0 5) = !true) ∧ ((inR a1 0 5) = false) ∧ (false = !true) ∧ (false = !true) ∧ (false = !true) ∧ (false = false) ∧ (false = !true) ∧ (false = !true) ∧ (false = !true) ∧ (false = false)) (by kernel_rfl) ⟨hb6, hb6, hb6, hb6, rfl, rfl, rfl, rfl, rfl, rfl, rfl, rfl⟩ hS5 ?_
      refine l_nil rfl ?_
      refine then_n ?_
      refine wp_ret ?_
      exact c_end (S := (fun x_ => St w x_ [Res.box blk2 [Value.int .i64 a0, Value.int .i64 a1, Value.int .i64 a2, Value.int .i64 a3, Value.int .i64 a4, Value.int .i64 a5, Value.int .i64 a6, Value.int .i64 a7, Value.int .i64 a8, Value.int .i64 a9, Value.int .i64 a10] 29])) (rs := [.tmp 2]) rfl [] (v := Value.bool false) (C := True) (by kernel_rfl) trivial hS5 ((hS5.rv (by simp [vsig, *])))
  · skip
    have hb4p := inR_neg hb4
    refine q_seg (S := (fun x_ => St w x_ [Res.box blk2 [Value.int .i64 a0, Value.int .i64 a1, Value.int .i64 a2, Value.int .i64 a3, Value.int .i64 a4, Value.int .i64 a5, Value.int .i64 a6, Value.int .i64 a7, Value.int .i64 a8, Value.int .i64 a9, Value.int .i64 a10] 29])) [(2, Value.bool false), (25, Value.bool false), (24, undef), (23, undef), (22, undef), (21, Value.bool false), (20, Value.bool false), (19, undef), (18, undef), (17, undef), (16, Value.bool false), (15, Value.bool false), (14, undef), (13, undef), (12, undef), (11, Value.bool false), (10, Value.bool false), (9, undef), (8, undef), (7, undef)] [.skip, .skip, .skip, .v (.bool false), .no, .skip, .skip, .skip, .v (.bool false), .no, .skip, .skip, .skip, .v (.bool false), .no, .skip, .skip, .skip, .v (.bool false), .no] (((inR a0 1 8) = !true) ∧ ((inR a0 1 8) = !true) ∧ ((inR a0 1 8) = !true) ∧ ((inR a0 1 8) = false) ∧ (false = !true) ∧ (false = !true) ∧ (false = !true) ∧ (false = false) ∧ (false = !true) ∧ (false = !true) ∧ (false = !true) ∧ (false = false) ∧ (false = !true) ∧ (false = !true) ∧ (false = !true) ∧ (false = false)) (by kernel_rfl) ⟨hb4, hb4, hb4, hb4, rfl, rfl, rfl, rfl, rfl, rfl, rfl, rfl, rfl, rfl, rfl, rfl⟩ hS3 ?_
    refine l_nil rfl ?_
    refine then_n ?_
    refine wp_ret ?_
    exact c_end (S := (fun x_ => St w x_ [Res.box blk2 [Value.int .i64 a0, Value.int .i64 a1, Value.int .i64 a2, Value.int .i64 a3, Value.int .i64 a4, Value.int .i64 a5, Value.int .i64 a6, Value.int .i64 a7, Value.int .i64 a8, Value.int .i64 a9, Value.int .i64 a10] 29])) (rs := [.tmp 2]) rfl [] (v := Value.bool false) (C := True) (by kernel_rfl) trivial hS3 ((hS3.rv (by simp [vsig, *])))

theorem RequiresMAC_i_c (a0 : Int) (a1 : Int) (a2 : Int) (a3 : Int) (a4 : Int) (a5 : Int) (a6 : Int) (a7 : Int) (a8 : Int) (a9 : Int) (a10 : Int) (w : World) : Calls Try.prog 12 #[Value.agg #[Value.int .i64 a0, Value.int .i64 a1, Value.int .i64 a2, Value.int .i64 a3, Value.int .i64 a4, Value.int .i64 a5, Value.int .i64 a6, Value.int .i64 a7, Value.int .i64 a8, Value.int .i64 a9, Value.int .i64 a10]] w (RetV w (Value.bool (rmac a0))) := by
  refine calls_FA Try.func12 rfl (n := 10) rfl (l := [(0, Value.agg #[Value.int .i64 a0, Value.int .i64 a1, Value.int .i64 a2, Value.int .i64 a3, Value.int .i64 a4, Value.int .i64 a5, Value.int .i64 a6, Value.int .i64 a7, Value.int .i64 a8, Value.int .i64 a9, Value.int .i64 a10])]) rfl (by simp) (fun g => ?_)
  have hS := St.init w
  refine wp_seq ?_
  refine c_reg ?_
  refine l_op rfl rfl (fun K hK => op_box (d := some 1) rfl rfl [Value.int .i64 a0, Value.int .i64 a1, Value.int .i64 a2, Value.int .i64 a3, Value.int .i64 a4, Value.int .i64 a5, Value.int .i64 a6, Value.int .i64 a7, Value.int .i64 a8, Value.int .i64 a9, Value.int .i64 a10] (by kernel_rfl) hS (fun blk2 w1 hS1 => hK _ _ ?_))
  clear hK K
  refine q_seg (S := (fun x_ => St w x_ [Res.box blk2 [Value.int .i64 a0, Value.int .i64 a1, Value.int .i64 a2, Value.int .i64 a3, Value.int .i64 a4, Value.int .i64 a5, Value.int .i64 a6, Value.int .i64 a7, Value.int .i64 a8, Value.int .i64 a9, Value.int .i64 a10] 29])) [(2, Value.bool false)] [.no] True (by kernel_rfl) trivial hS1 ?_
  refine l_nil rfl ?_
  refine then_n ?_
  refine wp_seq ?_
  refine wp_seq ?_
  refine c_reg ?_
  refine q_seg (S := (fun x_ => St w x_ [Res.box blk2 [Value.int .i64 a0, Value.int .i64 a1, Value.int .i64 a2, Value.int .i64 a3, Value.int .i64 a4, Value.int .i64 a5, Value.int .i64 a6, Value.int .i64 a7, Value.int .i64 a8, Value.int .i64 a9, Value.int .i64 a10] 29])) [(4, Value.int .i64 a0), (3, Value.pointer (some ⟨blk2, 0 + 0, none⟩))] [.no, .v (Value.int .i64 a0)] ((LoadsAt Try.prog (fun x_ => St w x_ [Res.box blk2 [Value.int .i64 a0, Value.int .i64 a1, Value.int .i64 a2, Value.int .i64 a3, Value.int .i64 a4, Value.int .i64 a5, Value.int .i64 a6, Value.int .i64 a7, Value.int .i64 a8, Value.int .i64 a9, Value.int .i64 a10] 29]) 3 ⟨blk2, 0 + 0, none⟩ (Value.int .i64 a0))) (by kernel_rfl) (ld_box (i := 0) rfl rfl (by kernel_rfl)) hS1 ?_
  refine l_nil rfl ?_
  refine then_n ?_
  refine wp_block ?_
  refine wp_seq ?_
  refine wp_seq ?_
  refine c_reg ?_
  refine q_seg (S := (fun x_ => St w x_ [Res.box blk2 [Value.int .i64 a0, Value.int .i64 a1, Value.int .i64 a2, Value.int .i64 a3, Value.int .i64 a4, Value.int .i64 a5, Value.int .i64 a6, Value.int .i64 a7, Value.int .i64 a8, Value.int .i64 a9, Value.int .i64 a10] 29])) [(5, Value.bool (decide (a0 = (4 : Int)))), (6, Value.bool (decide (a0 = (4 : Int))))] [.no, .no] True (by kernel_rfl) trivial hS1 ?_
  refine l_nil rfl ?_
  refine then_n ?_
  rcases Bool.eq_false_or_eq_true (decide (a0 = (4 : Int))) with hb3 | hb3
  · skip
    have hb3p := of_decide_eq_true hb3
    refine c_true (b := (decide (a0 = (4 : Int)))) (by kernel_rfl) hb3 ?_
    refine wp_skip ?_
    refine then_n ?_
    refine c_true (b := (decide (a0 = (4 : Int)))) (by kernel_rfl) hb3 ?_
    refine wp_seq ?_
    refine c_reg ?_
    refine q_seg (S := (fun x_ => St w x_ [Res.box blk2 [Value.int .i64 a0, Value.int .i64 a1, Value.int .i64 a2, Value.int .i64 a3, Value.int .i64 a4, Value.int .i64 a5, Value.int .i64 a6, Value.int .i64 a7, Value.int .i64 a8, Value.int .i64 a9, Value.int .i64 a10] 29])) [(2, Value.bool true)] [.no] True (by kernel_rfl) trivial hS1 ?_
    refine l_nil rfl ?_
    refine then_n ?_
    refine wp_ret ?_
    refine blk_r ?_
    refine then_r ?_
    exact c_end (S := (fun x_ => St w x_ [Res.box blk2 [Value.int .i64 a0, Value.int .i64 a1, Value.int .i64 a2, Value.int .i64 a3, Value.int .i64 a4, Value.int .i64 a5, Value.int .i64 a6, Value.int .i64 a7, Value.int .i64 a8, Value.int .i64 a9, Value.int .i64 a10] 29])) (rs := [.tmp 2]) rfl [] (v := Value.bool true) (C := True) (by kernel_rfl) trivial hS1 ((hS1.rv (congrArg Value.bool (by unfold rmac; first | (symm; simp only [decide_eq_true_eq, decide_eq_false_iff_not]; omega) | (rw [Bool.eq_iff_iff]; simp only [decide_eq_true_eq]; omega)))))
  · skip
    have hb3p := of_decide_eq_false hb3
    refine c_false (b := (decide (a0 = (4 : Int)))) (by kernel_rfl) hb3 ?_
    refine wp_seq ?_
    refine c_reg ?_
    refine q_seg (S := (fun x_ => St w x_ [Res.box blk2 [Value.int .i64 a0, Value.int .i64 a1, Value.int .i64 a2, Value.int .i64 a3, Value.int .i64 a4, Value.int .i64 a5, Value.int .i64 a6, Value.int .i64 a7, Value.int .i64 a8, Value.int .i64 a9, Value.int .i64 a10] 29])) [(5, Value.bool (decide (a0 = (5 : Int)))), (7, Value.bool (decide (a0 = (5 : Int))))] [.no, .no] True (by kernel_rfl) trivial hS1 ?_
    refine l_nil rfl ?_
    refine then_n ?_
    rcases Bool.eq_false_or_eq_true (decide (a0 = (5 : Int))) with hb4 | hb4
    · skip
      have hb4p := of_decide_eq_true hb4
      refine c_true (b := (decide (a0 = (5 : Int)))) (by kernel_rfl) hb4 ?_
      refine wp_skip ?_
      refine then_n ?_
      refine c_true (b := (decide (a0 = (5 : Int)))) (by kernel_rfl) hb4 ?_
      refine wp_seq ?_
      refine c_reg ?_
      refine q_seg (S := (fun x_ => St w x_ [Res.box blk2 [Value.int .i64 a0, Value.int .i64 a1, Value.int .i64 a2, Value.int .i64 a3, Value.int .i64 a4, Value.int .i64 a5, Value.int .i64 a6, Value.int .i64 a7, Value.int .i64 a8, Value.int .i64 a9, Value.int .i64 a10] 29])) [(2, Value.bool true)] [.no] True (by kernel_rfl) trivial hS1 ?_
      refine l_nil rfl ?_
      refine then_n ?_
      refine wp_ret ?_
      refine blk_r ?_
      refine then_r ?_
      exact c_end (S := (fun x_ => St w x_ [Res.box blk2 [Value.int .i64 a0, Value.int .i64 a1, Value.int .i64 a2, Value.int .i64 a3, Value.int .i64 a4, Value.int .i64 a5, Value.int .i64 a6, Value.int .i64 a7, Value.int .i64 a8, Value.int .i64 a9, Value.int .i64 a10] 29])) (rs := [.tmp 2]) rfl [] (v := Value.bool true) (C := True) (by kernel_rfl) trivial hS1 ((hS1.rv (congrArg Value.bool (by unfold rmac; first | (symm; simp only [decide_eq_true_eq, decide_eq_false_iff_not]; omega) | (rw [Bool.eq_iff_iff]; simp only [decide_eq_true_eq]; omega)))))
    · skip
      have hb4p := of_decide_eq_false hb4
      refine c_false (b := (decide (a0 = (5 : Int)))) (by kernel_rfl) hb4 ?_
      refine wp_seq ?_
      refine c_reg ?_
      refine q_seg (S := (fun x_ => St w x_ [Res.box blk2 [Value.int .i64 a0, Value.int .i64 a1, Value.int .i64 a2, Value.int .i64 a3, Value.int .i64 a4, Value.int .i64 a5, Value.int .i64 a6, Value.int .i64 a7, Value.int .i64 a8, Value.int .i64 a9, Value.int .i64 a10] 29])) [(5, Value.bool (decide (a0 = (6 : Int)))), (8, Value.bool (decide (a0 = (6 : Int))))] [.no, .no] True (by kernel_rfl) trivial hS1 ?_
      refine l_nil rfl ?_
      refine then_n ?_
      rcases Bool.eq_false_or_eq_true (decide (a0 = (6 : Int))) with hb5 | hb5
      · skip
        have hb5p := of_decide_eq_true hb5
        refine c_true (b := (decide (a0 = (6 : Int)))) (by kernel_rfl) hb5 ?_
        refine wp_skip ?_
        refine then_n ?_
        refine c_true (b := (decide (a0 = (6 : Int)))) (by kernel_rfl) hb5 ?_
        refine wp_seq ?_
        refine c_reg ?_
        refine q_seg (S := (fun x_ => St w x_ [Res.box blk2 [Value.int .i64 a0, Value.int .i64 a1, Value.int .i64 a2, Value.int .i64 a3, Value.int .i64 a4, Value.int .i64 a5, Value.int .i64 a6, Value.int .i64 a7, Value.int .i64 a8, Value.int .i64 a9, Value.int .i64 a10] 29])) [(2, Value.bool true)] [.no] True (by kernel_rfl) trivial hS1 ?_
        refine l_nil rfl ?_
        refine then_n ?_
        refine wp_ret ?_
        refine blk_r ?_
        refine then_r ?_
        exact c_end (S := (fun x_ => St w x_ [Res.box blk2 [Value.int .i64 a0, Value.int .i64 a1, Value.int .i64 a2, Value.int .i64 a3, Value.int .i64 a4, Value.int .i64 a5, Value.int .i64 a6, Value.int .i64 a7, Value.int .i64 a8, Value.int .i64 a9, Value.int .i64 a10] 29])) (rs := [.tmp 2]) rfl [] (v := Value.bool true) (C := True) (by kernel_rfl) trivial hS1 ((hS1.rv (congrArg Value.bool (by unfold rmac; first | (symm; simp only [decide_eq_true_eq, decide_eq_false_iff_not]; omega) | (rw [Bool.eq_iff_iff]; simp only [decide_eq_true_eq]; omega)))))
      · skip
        have hb5p := of_decide_eq_false hb5
        refine c_false (b := (decide (a0 = (6 : Int)))) (by kernel_rfl) hb5 ?_
        refine c_reg ?_
        refine q_seg (S := (fun x_ => St w x_ [Res.box blk2 [Value.int .i64 a0, Value.int .i64 a1, Value.int .i64 a2, Value.int .i64 a3, Value.int .i64 a4, Value.int .i64 a5, Value.int .i64 a6, Value.int .i64 a7, Value.int .i64 a8, Value.int .i64 a9, Value.int .i64 a10] 29])) [(5, Value.bool (decide (a0 = (8 : Int)))), (9, Value.bool (decide (a0 = (8 : Int))))] [.no, .no] True (by kernel_rfl) trivial hS1 ?_
        refine l_nil rfl ?_
        refine then_n ?_
        rcases Bool.eq_false_or_eq_true (decide (a0 = (8 : Int))) with hb6 | hb6
        · skip
          have hb6p := of_decide_eq_true hb6
          refine c_true (b := (decide (a0 = (8 : Int)))) (by kernel_rfl) hb6 ?_
          refine wp_seq ?_
          refine c_reg ?_
          refine q_seg (S := (fun x_ => St w x_ [Res.box blk2 [Value.int .i64 a0, Value.int .i64 a1, Value.int .i64 a2, Value.int .i64 a3, Value.int .i64 a4, Value.int .i64 a5, Value.int .i64 a6, Value.int .i64 a7, Value.int .i64 a8, Value.int .i64 a9, Value.int .i64 a10] 29])) [(2, Value.bool true)] [.no] True (by kernel_rfl) trivial hS1 ?_
          refine l_nil rfl ?_
          refine then_n ?_
          refine wp_ret ?_
          refine blk_r ?_
          refine then_r ?_
          exact c_end (S := (fun x_ => St w x_ [Res.box blk2 [Value.int .i64 a0, Value.int .i64 a1, Value.int .i64 a2, Value.int .i64 a3, Value.int .i64 a4, Value.int .i64 a5, Value.int .i64 a6, Value.int .i64 a7, Value.int .i64 a8, Value.int .i64 a9, Value.int .i64 a10] 29])) (rs := [.tmp 2]) rfl [] (v := Value.bool true) (C := True) (by kernel_rfl) trivial hS1 ((hS1.rv (congrArg Value.bool (by unfold rmac; first | (symm; simp only [decide_eq_true_eq, decide_eq_false_iff_not]; omega) | (rw [Bool.eq_iff_iff]; simp only [decide_eq_true_eq]; omega)))))
        · skip
          have hb6p := of_decide_eq_false hb6
          refine c_false (b := (decide (a0 = (8 : Int)))) (by kernel_rfl) hb6 ?_
          refine wp_skip ?_
          refine blk_n ?_
          refine then_n ?_
          refine wp_seq ?_
          refine c_reg ?_
          refine q_seg (S := (fun x_ => St w x_ [Res.box blk2 [Value.int .i64 a0, Value.int .i64 a1, Value.int .i64 a2, Value.int .i64 a3, Value.int .i64 a4, Value.int .i64 a5, Value.int .i64 a6, Value.int .i64 a7, Value.int .i64 a8, Value.int .i64 a9, Value.int .i64 a10] 29])) [(2, Value.bool false)] [.no] True (by kernel_rfl) trivial hS1 ?_
          refine l_nil rfl ?_
          refine then_n ?_
          refine wp_ret ?_
          exact c_end (S := (fun x_ => St w x_ [Res.box blk2 [Value.int .i64 a0, Value.int .i64 a1, Value.int .i64 a2, Value.int .i64 a3, Value.int .i64 a4, Value.int .i64 a5, Value.int .i64 a6, Value.int .i64 a7, Value.int .i64 a8, Value.int .i64 a9, Value.int .i64 a10] 29])) (rs := [.tmp 2]) rfl [] (v := Value.bool false) (C := True) (by kernel_rfl) trivial hS1 ((hS1.rv (congrArg Value.bool (by unfold rmac; first | (symm; simp only [decide_eq_true_eq, decide_eq_false_iff_not]; omega) | (rw [Bool.eq_iff_iff]; simp only [decide_eq_true_eq]; omega)))))

theorem RequiresMAC_s_c (a0 : Int) (a1 : Int) (a2 : Int) (a3 : Int) (a4 : Int) (a5 : Int) (a6 : Int) (a7 : Int) (a8 : Int) (a9 : Int) (a10 : Int) (w : World) : Calls Try.prog 10 #[Value.agg #[Value.int .i64 a0, Value.int .i64 a1, Value.int .i64 a2, Value.int .i64 a3, Value.int .i64 a4, Value.int .i64 a5, Value.int .i64 a6, Value.int .i64 a7, Value.int .i64 a8, Value.int .i64 a9, Value.int .i64 a10]] w (RetV w (Value.bool (rmac a0))) := by
  refine calls_FA Try.func10 rfl (n := 11) rfl (l := [(0, Value.agg #[Value.int .i64 a0, Value.int .i64 a1, Value.int .i64 a2, Value.int .i64 a3, Value.int .i64 a4, Value.int .i64 a5, Value.int .i64 a6, Value.int .i64 a7, Value.int .i64 a8, Value.int .i64 a9, Value.int .i64 a10])]) rfl (by simp) (fun g => ?_)
  have hS := St.init w
  refine wp_seq ?_
  refine c_reg ?_
  refine l_op rfl rfl (fun K hK => op_box (d := some 1) rfl rfl [Value.int .i64 a0, Value.int .i64 a1, Value.int .i64 a2, Value.int .i64 a3, Value.int .i64 a4, Value.int .i64 a5, Value.int .i64 a6, Value.int .i64 a7, Value.int .i64 a8, Value.int .i64 a9, Value.int .i64 a10] (by kernel_rfl) hS (fun blk2 w1 hS1 => hK _ _ ?_))
  clear hK K
  refine q_seg (S := (fun x_ => St w x_ [Res.box blk2 [Value.int .i64 a0, Value.int .i64 a1, Value.int .i64 a2, Value.int .i64 a3, Value.int .i64 a4, Value.int .i64 a5, Value.int .i64 a6, Value.int .i64 a7, Value.int .i64 a8, Value.int .i64 a9, Value.int .i64 a10] 29])) [(2, Value.bool false)] [.no] True (by kernel_rfl) trivial hS1 ?_
  refine l_nil rfl ?_
  refine then_n ?_
  refine wp_seq ?_
  refine c_reg ?_
  refine q_seg (S := (fun x_ => St w x_ [Res.box blk2 [Value.int .i64 a0, Value.int .i64 a1, Value.int .i64 a2, Value.int .i64 a3, Value.int .i64 a4, Value.int .i64 a5, Value.int .i64 a6, Value.int .i64 a7, Value.int .i64 a8, Value.int .i64 a9, Value.int .i64 a10] 29])) [(4, Value.int .i64 a0), (3, Value.pointer (some ⟨blk2, 0 + 0, none⟩))] [.no, .v (Value.int .i64 a0)] ((LoadsAt Try.prog (fun x_ => St w x_ [Res.box blk2 [Value.int .i64 a0, Value.int .i64 a1, Value.int .i64 a2, Value.int .i64 a3, Value.int .i64 a4, Value.int .i64 a5, Value.int .i64 a6, Value.int .i64 a7, Value.int .i64 a8, Value.int .i64 a9, Value.int .i64 a10] 29]) 3 ⟨blk2, 0 + 0, none⟩ (Value.int .i64 a0))) (by kernel_rfl) (ld_box (i := 0) rfl rfl (by kernel_rfl)) hS1 ?_
  refine l_op rfl rfl (fun K hK => op_callv (d := some 5) rfl rfl ⟨_, Try.func28, by kernel_rfl, by kernel_rfl⟩ (vs := [Value.int .i64 a0, Value.int .i64 4, Value.int .i64 6]) (by kernel_rfl) (v := Value.bool (inR a0 4 6)) (l1In_c a0 4 6 _) hS1 (fun w3 hS3 => hK _ _ ?_))
  clear hK K
  refine q_seg (S := (fun x_ => St w x_ [Res.box blk2 [Value.int .i64 a0, Value.int .i64 a1, Value.int .i64 a2, Value.int .i64 a3, Value.int .i64 a4, Value.int .i64 a5, Value.int .i64 a6, Value.int .i64 a7, Value.int .i64 a8, Value.int .i64 a9, Value.int .i64 a10] 29])) [(6, Value.bool (inR a0 4 6))] [.no] True (by kernel_rfl) trivial hS3 ?_
  rcases Bool.eq_false_or_eq_true (inR a0 4 6) with hb4 | hb4
  · skip
    obtain ⟨hb4p, hb4q⟩ := inR_iff.1 hb4
    refine q_seg (S := (fun x_ => St w x_ [Res.box blk2 [Value.int .i64 a0, Value.int .i64 a1, Value.int .i64 a2, Value.int .i64 a3, Value.int .i64 a4, Value.int .i64 a5, Value.int .i64 a6, Value.int .i64 a7, Value.int .i64 a8, Value.int .i64 a9, Value.int .i64 a10] 29])) [(2, Value.bool true), (10, Value.bool true), (9, undef), (8, undef), (7, undef)] [.skip, .skip, .skip, .v (.bool true), .no] (((inR a0 4 6) = !false) ∧ ((inR a0 4 6) = !false) ∧ ((inR a0 4 6) = !false) ∧ ((inR a0 4 6) = true)) (by kernel_rfl) ⟨hb4, hb4, hb4, hb4⟩ hS3 ?_
    refine l_nil rfl ?_
    refine then_n ?_
    refine wp_ret ?_
    exact c_end (S := (fun x_ => St w x_ [Res.box blk2 [Value.int .i64 a0, Value.int .i64 a1, Value.int .i64 a2, Value.int .i64 a3, Value.int .i64 a4, Value.int .i64 a5, Value.int .i64 a6, Value.int .i64 a7, Value.int .i64 a8, Value.int .i64 a9, Value.int .i64 a10] 29])) (rs := [.tmp 2]) rfl [] (v := Value.bool true) (C := True) (by kernel_rfl) trivial hS3 ((hS3.rv (congrArg Value.bool (by unfold rmac; first | (symm; simp only [decide_eq_true_eq, decide_eq_false_iff_not]; omega) | (rw [Bool.eq_iff_iff]; simp only [decide_eq_true_eq]; omega)))))
  · skip
    have hb4p := inR_neg hb4
    refine q_seg (S := (fun x_ => St w x_ [Res.box blk2 [Value.int .i64 a0, Value.int .i64 a1, Value.int .i64 a2, Value.int .i64 a3, Value.int .i64 a4, Value.int .i64 a5, Value.int .i64 a6, Value.int .i64 a7, Value.int .i64 a8, Value.int .i64 a9, Value.int .i64 a10] 29])) [(2, Value.bool (decide (a0 = (8 : Int)))), (10, Value.bool (decide (a0 = (8 : Int)))), (9, Value.bool (decide (a0 = (8 : Int)))), (8, Value.int .i64 a0), (7, Value.pointer (some ⟨blk2, 0 + 0, none⟩))] [.no, .v (Value.int .i64 a0), .no, .v (.bool false), .no] (((inR a0 4 6) = false) ∧ ((inR a0 4 6) = false) ∧ (LoadsAt Try.prog (fun x_ => St w x_ [Res.box blk2 [Value.int .i64 a0, Value.int .i64 a1, Value.int .i64 a2, Value.int .i64 a3, Value.int .i64 a4, Value.int .i64 a5, Value.int .i64 a6, Value.int .i64 a7, Value.int .i64 a8, Value.int .i64 a9, Value.int .i64 a10] 29]) 3 ⟨blk2, 0 + 0, none⟩ (Value.int .i64 a0)) ∧ ((inR a0 4 6) = false) ∧ ((inR a0 4 6) = false)) (by kernel_rfl) ⟨hb4, hb4, (ld_box (i := 0) rfl rfl (by kernel_rfl)), hb4, hb4⟩ hS3 ?_
    refine l_nil rfl ?_
    refine then_n ?_
    refine wp_ret ?_
    exact c_end (S := (fun x_ => St w x_ [Res.box blk2 [Value.int .i64 a0, Value.int .i64 a1, Value.int .i64 a2, Value.int .i64 a3, Value.int .i64 a4, Value.int .i64 a5, Value.int .i64 a6, Value.int .i64 a7, Value.int .i64 a8, Value.int .i64 a9, Value.int .i64 a10] 29])) (rs := [.tmp 2]) rfl [] (v := Value.bool (decide (a0 = (8 : Int)))) (C := True) (by kernel_rfl) trivial hS3 ((hS3.rv (congrArg Value.bool (by unfold rmac; first | (symm; simp only [decide_eq_true_eq, decide_eq_false_iff_not]; omega) | (rw [Bool.eq_iff_iff]; simp only [decide_eq_true_eq]; omega)))))

theorem ChallengeRand_i_c (a0 : Int) (a1 : Int) (b : Int) (ha0 : I64 a0) (ha1 : I64 a1) (hb : I64 b) (w : World) : Calls Try.prog 17 #[Value.agg #[Value.int .i64 a0, Value.int .i64 a1], Value.int .i64 b] w (RetV w (Value.int .i64 (khash 29 [a0, a1, b]))) := by
  obtain ⟨ha01, ha02⟩ := ha0
  obtain ⟨ha11, ha12⟩ := ha1
  obtain ⟨hb1, hb2⟩ := hb
  refine calls_FA Try.func17 rfl (n := 12) rfl (l := [(0, Value.agg #[Value.int .i64 a0, Value.int .i64 a1]), (1, Value.int .i64 b)]) rfl (by simp) (fun g => ?_)
  have hS := St.init w
  refine wp_seq ?_
  refine c_reg ?_
  refine l_op rfl rfl (fun K hK => op_box (d := some 2) rfl rfl [Value.int .i64 a0, Value.int .i64 a1] (by kernel_rfl) hS (fun blk2 w1 hS1 => hK _ _ ?_))
  clear hK K
  refine q_seg (S := (fun x_ => St w x_ [Res.box blk2 [Value.int .i64 a0, Value.int .i64 a1] 35])) [(4, Value.int .i64 0)] [.no] True (by kernel_rfl) trivial hS1 ?_
  refine l_nil rfl ?_
  refine then_n ?_
  refine wp_seq ?_
  refine c_reg ?_
  refine q_seg (S := (fun x_ => St w x_ [Res.box blk2 [Value.int .i64 a0, Value.int .i64 a1] 35])) [(9, Value.int .i64 b), (8, Value.int .i64 a1), (7, Value.pointer (some ⟨blk2, 0 + 1, none⟩)), (6, Value.int .i64 a0), (5, Value.pointer (some ⟨blk2, 0 + 0, none⟩))] [.no, .v (Value.int .i64 a0), .no, .v (Value.int .i64 a1), .no] ((LoadsAt Try.prog (fun x_ => St w x_ [Res.box blk2 [Value.int .i64 a0, Value.int .i64 a1] 35]) 3 ⟨blk2, 0 + 0, none⟩ (Value.int .i64 a0)) ∧ (LoadsAt Try.prog (fun x_ => St w x_ [Res.box blk2 [Value.int .i64 a0, Value.int .i64 a1] 35]) 3 ⟨blk2, 0 + 1, none⟩ (Value.int .i64 a1))) (by kernel_rfl) ⟨(ld_box (i := 0) rfl rfl (by kernel_rfl)), (ld_box (i := 0) rfl rfl (by kernel_rfl))⟩ hS1 ?_
  refine l_op rfl rfl (fun K hK => op_buildSlice (d := some 10) rfl rfl (e := 3) (by kernel_rfl) 1 (by kernel_rfl) (by decide) (by decide) [Value.int .i64 a0, Value.int .i64 a1, Value.int .i64 b] (by kernel_rfl) rfl hS1 (fun blk4 w3 hS3 => hK _ _ ?_))
  clear hK K
  refine l_op rfl rfl (fun K hK => op_callv (d := some 11) rfl rfl ⟨_, Try.func32, by kernel_rfl, by kernel_rfl⟩ (vs := [Value.int .i64 29, Value.slice (some ⟨blk4, 0, none⟩) 3 3]) (by kernel_rfl) (v := Value.int .i64 (khash (29 : Int) [a0, a1, b])) (KeyedHashI_c (29 : Int) _ 3 3 [a0, a1, b] w3 (i64 (by omega) (by omega)) (all64_cons (i64 (by omega) (by omega)) (all64_cons (i64 (by omega) (by omega)) (all64_cons (i64 (by omega) (by omega)) all64_nil))) (by decide) (hS3.rd (List.mem_of_getElem? (i := 0) rfl))) hS3 (fun w5 hS5 => hK _ _ ?_))
  clear hK K
  have hkq6 := khash_bd (29 : Int) [a0, a1, b]
  refine q_seg (S := (fun x_ => St w x_ [Res.row (Value.slice (some ⟨blk4, 0, none⟩) 3 3) 3 1 3 ([Value.int .i64 a0, Value.int .i64 a1, Value.int .i64 b]), Res.box blk2 [Value.int .i64 a0, Value.int .i64 a1] 35])) [(4, Value.int .i64 (khash (29 : Int) [a0, a1, b]))] [.no] True (by kernel_rfl) trivial hS5 ?_
  refine l_nil rfl ?_
  refine then_n ?_
  refine wp_ret ?_
  exact c_end (S := (fun x_ => St w x_ [Res.row (Value.slice (some ⟨blk4, 0, none⟩) 3 3) 3 1 3 ([Value.int .i64 a0, Value.int .i64 a1, Value.int .i64 b]), Res.box blk2 [Value.int .i64 a0, Value.int .i64 a1] 35])) (rs := [.tmp 4]) rfl [] (v := Value.int .i64 (khash (29 : Int) [a0, a1, b])) (C := True) (by kernel_rfl) trivial hS5 ((hS5.rv rfl))

theorem ChallengeRand_s_c (a0 : Int) (a1 : Int) (b : Int) (ha0 : I64 a0) (ha1 : I64 a1) (hb : I64 b) (w : World) : Calls Try.prog 15 #[Value.agg #[Value.int .i64 a0, Value.int .i64 a1], Value.int .i64 b] w (RetV w (Value.int .i64 (khash 29 [a0, a1, b]))) := by
  obtain ⟨ha01, ha02⟩ := ha0
  obtain ⟨ha11, ha12⟩ := ha1
  obtain ⟨hb1, hb2⟩ := hb
  refine calls_FA Try.func15 rfl (n := 12) rfl (l := [(0, Value.agg #[Value.int .i64 a0, Value.int .i64 a1]), (1, Value.int .i64 b)]) rfl (by simp) (fun g => ?_)
  have hS := St.init w
  refine wp_seq ?_
  refine c_reg ?_
  refine l_op rfl rfl (fun K hK => op_box (d := some 2) rfl rfl [Value.int .i64 a0, Value.int .i64 a1] (by kernel_rfl) hS (fun blk2 w1 hS1 => hK _ _ ?_))
  clear hK K
  refine q_seg (S := (fun x_ => St w x_ [Res.box blk2 [Value.int .i64 a0, Value.int .i64 a1] 35])) [(4, Value.int .i64 0)] [.no] True (by kernel_rfl) trivial hS1 ?_
  refine l_nil rfl ?_
  refine then_n ?_
  refine wp_seq ?_
  refine c_reg ?_
  refine q_seg (S := (fun x_ => St w x_ [Res.box blk2 [Value.int .i64 a0, Value.int .i64 a1] 35])) [(9, Value.int .i64 b), (8, Value.int .i64 a1), (7, Value.pointer (some ⟨blk2, 0 + 1, none⟩)), (6, Value.int .i64 a0), (5, Value.pointer (some ⟨blk2, 0 + 0, none⟩))] [.no, .v (Value.int .i64 a0), .no, .v (Value.int .i64 a1), .no] ((LoadsAt Try.prog (fun x_ => St w x_ [Res.box blk2 [Value.int .i64 a0, Value.int .i64 a1] 35]) 3 ⟨blk2, 0 + 0, none⟩ (Value.int .i64 a0)) ∧ (LoadsAt Try.prog (fun x_ => St w x_ [Res.box blk2 [Value.int .i64 a0, Value.int .i64 a1] 35]) 3 ⟨blk2, 0 + 1, none⟩ (Value.int .i64 a1))) (by kernel_rfl) ⟨(ld_box (i := 0) rfl rfl (by kernel_rfl)), (ld_box (i := 0) rfl rfl (by kernel_rfl))⟩ hS1 ?_
  refine l_op rfl rfl (fun K hK => op_buildSlice (d := some 10) rfl rfl (e := 3) (by kernel_rfl) 1 (by kernel_rfl) (by decide) (by decide) [Value.int .i64 a0, Value.int .i64 a1, Value.int .i64 b] (by kernel_rfl) rfl hS1 (fun blk4 w3 hS3 => hK _ _ ?_))
  clear hK K
  refine l_op rfl rfl (fun K hK => op_callv (d := some 11) rfl rfl ⟨_, Try.func31, by kernel_rfl, by kernel_rfl⟩ (vs := [Value.int .i64 29, Value.slice (some ⟨blk4, 0, none⟩) 3 3]) (by kernel_rfl) (v := Value.int .i64 (khash (29 : Int) [a0, a1, b])) (KeyedHashS_c (29 : Int) _ 3 3 [a0, a1, b] w3 (i64 (by omega) (by omega)) (all64_cons (i64 (by omega) (by omega)) (all64_cons (i64 (by omega) (by omega)) (all64_cons (i64 (by omega) (by omega)) all64_nil))) (by decide) (hS3.rd (List.mem_of_getElem? (i := 0) rfl))) hS3 (fun w5 hS5 => hK _ _ ?_))
  clear hK K
  have hkq6 := khash_bd (29 : Int) [a0, a1, b]
  refine q_seg (S := (fun x_ => St w x_ [Res.row (Value.slice (some ⟨blk4, 0, none⟩) 3 3) 3 1 3 ([Value.int .i64 a0, Value.int .i64 a1, Value.int .i64 b]), Res.box blk2 [Value.int .i64 a0, Value.int .i64 a1] 35])) [(4, Value.int .i64 (khash (29 : Int) [a0, a1, b]))] [.no] True (by kernel_rfl) trivial hS5 ?_
  refine l_nil rfl ?_
  refine then_n ?_
  refine wp_ret ?_
  exact c_end (S := (fun x_ => St w x_ [Res.row (Value.slice (some ⟨blk4, 0, none⟩) 3 3) 3 1 3 ([Value.int .i64 a0, Value.int .i64 a1, Value.int .i64 b]), Res.box blk2 [Value.int .i64 a0, Value.int .i64 a1] 35])) (rs := [.tmp 4]) rfl [] (v := Value.int .i64 (khash (29 : Int) [a0, a1, b])) (C := True) (by kernel_rfl) trivial hS5 ((hS5.rv rfl))
theorem deriveSteps_c (key : Int) (A : Option Addr) (n c : Nat) (zs : List Int) (w : World) (hk : I64 key) (hz : ∀ z ∈ zs, I64 z) (hn : n ≤ 1000000000000) (hr : Rd w w.heap.size A n (zs.map (Value.int .i64))) : Calls Try.prog 42 #[.int .i64 key, .slice A n c] w (RetV w (.int .i64 (dsteps key zs))) := by
  obtain ⟨hk1, hk2⟩ := hk
  refine calls_FA Try.func42 rfl (n := 18) rfl (l := [(0, Value.int .i64 key), (1, Value.slice A n c)]) rfl (by simp) (fun g => ?_)
  have hS := St.init w
  refine wp_seq ?_
  refine c_reg ?_
  refine q_seg (S := (fun x_ => St w x_ [])) [(4, Value.int .i64 0)] [.no] True (by kernel_rfl) trivial hS ?_
  refine l_nil rfl ?_
  refine then_n ?_
  refine wp_seq ?_
  refine wp_seq ?_
  refine c_reg ?_
  refine q_seg (S := (fun x_ => St w x_ [])) [(9, Value.int .i64 0), (8, Value.int .i64 ((n : Nat) : Int)), (7, Value.slice A n c)] [.no, .no, .no] True (by kernel_rfl) trivial hS ?_
  refine l_nil rfl ?_
  refine then_n ?_
  refine wp_block ?_
  refine c_loop (X := Nat) (fun (k : Nat) => [(7, Value.slice A n c), (8, Value.int .i64 ((n : Nat) : Int)), (9, Value.int .i64 ((k : Nat) : Int)), (0, Value.int .i64 (dsteps key (zs.take k)))]) (fun (k : Nat) (wr : World) => (k ≤ n) ∧ St w wr []) (fun (k : Nat) => n - k) 0 ?_ ?_ ?_
  · exact (agree_cons (by kernel_rfl) (agree_cons (by kernel_rfl) (agree_cons (by kernel_rfl) (agree_cons (by kernel_rfl) agree_nil))))
  · exact ⟨Nat.zero_le _, hS⟩
  rintro k g2 w1 ⟨hkn, hS1⟩
  obtain ⟨hd1, hd2⟩ := dsteps_I64 (i64 hk1 hk2) (zs.take k)
  refine wp_seq ?_
  refine c_reg ?_
  refine q_seg (S := (fun x_ => St w x_ [])) [(10, Value.bool (decide (((k : Nat) : Int) < ((n : Nat) : Int))))] [.no] True (by kernel_rfl) trivial hS1 ?_
  refine l_nil rfl ?_
  refine then_n ?_
  refine wp_seq ?_
  rcases Bool.eq_false_or_eq_true (decide (((k : Nat) : Int) < ((n : Nat) : Int))) with hb3 | hb3
  · skip
    have hb3p := of_decide_eq_true hb3
    obtain ⟨b, off, rfl, hbB, hcl⟩ := hr.2 (by omega)
    obtain ⟨z, hzk, hzm⟩ := get_of_lt (l := zs) (k := k) (by have := hr.len; omega)
    obtain ⟨hz1, hz2⟩ := hz _ hzm
    refine c_true (b := (decide (((k : Nat) : Int) < ((n : Nat) : Int)))) (by kernel_rfl) hb3 ?_
    refine wp_skip ?_
    refine then_n ?_
    refine wp_seq ?_
    refine wp_block ?_
    refine wp_seq ?_
    refine c_reg ?_
    refine q_seg (S := (fun x_ => St w x_ [])) [(6, Value.int .i64 z), (12, Value.int .i64 z), (11, Value.pointer (some ⟨b, off + Int.toNat ((k : Nat) : Int) * 1, none⟩))] [.no, .v (Value.int .i64 z), .no] (((0 : Int) ≤ ((k : Nat) : Int)) ∧ (((k : Nat) : Int) < ((n : Nat) : Int)) ∧ (LoadsAt Try.prog (fun x_ => St w x_ []) 3 ⟨b, off + Int.toNat ((k : Nat) : Int) * 1, none⟩ (Value.int .i64 z))) (by kernel_rfl) ⟨(by omega), (by omega), (ld_low (hcl _ _ (by simp [hzk])) (by kernel_rfl))⟩ hS1 ?_
    refine l_nil rfl ?_
    refine then_n ?_
    refine c_reg ?_
    refine q_seg (S := (fun x_ => St w x_ [])) [(14, Value.int .i64 z), (13, Value.int .i64 (dsteps key (zs.take k)))] [.no, .no] True (by kernel_rfl) trivial hS1 ?_
    refine l_op rfl rfl (fun K hK => op_callv (d := some 15) rfl rfl ⟨_, Try.func47, by kernel_rfl, by kernel_rfl⟩ (vs := [Value.int .i64 (dsteps key (zs.take k)), Value.int .i64 z]) (by kernel_rfl) (v := Value.int .i64 (dkey (dsteps key (zs.take k)) z)) (DeriveKeyI_c (dsteps key (zs.take k)) z (i64 (by omega) (by omega)) (i64 (by omega) (by omega)) _) hS1 (fun w4 hS4 => hK _ _ ?_))
    clear hK K
    have hdq5 := dkey_bd (dsteps key (zs.take k)) z
    refine q_seg (S := (fun x_ => St w x_ [])) [(0, Value.int .i64 (dkey (dsteps key (zs.take k)) z))] [.no] True (by kernel_rfl) trivial hS4 ?_
    refine l_nil rfl ?_
    refine blk_n ?_
    refine then_n ?_
    refine c_reg ?_
    refine q_seg (S := (fun x_ => St w x_ [])) [(9, Value.int .i64 (((k : Nat) : Int) + (1 : Int))), (16, Value.int .i64 (((k : Nat) : Int) + (1 : Int)))] [.no, .no] ((InK .i64 (((k : Nat) : Int) + (1 : Int)))) (by kernel_rfl) (in64 (by omega) (by omega)) hS4 ?_
    refine l_nil rfl ?_
    refine then_n ?_
    refine round_end (k + 1) ?_ ?_ ?_
    · exact (agree_cons (by kernel_rfl) (agree_cons (by kernel_rfl) (agree_cons (by kernel_rfl) (agree_eq (v0 := Value.int .i64 (dkey (dsteps key (zs.take k)) z)) (by kernel_rfl) (congrArg (Value.int .i64) (dsteps_get hzk _).symm) agree_nil))))
    · exact ⟨(by omega), hS4⟩
    · exact (by first | omega | (dsimp only; omega))
  · skip
    have hb3p := of_decide_eq_false hb3
    refine c_false (b := (decide (((k : Nat) : Int) < ((n : Nat) : Int)))) (by kernel_rfl) hb3 ?_
    refine wp_exit ?_
    refine then_x ?_
    refine then_x ?_
    refine blk_hit ?_
    refine then_n ?_
    refine wp_seq ?_
    refine c_reg ?_
    refine q_seg (S := (fun x_ => St w x_ [])) [(4, Value.int .i64 (dsteps key (zs.take k))), (17, Value.int .i64 (dsteps key (zs.take k)))] [.no, .no] True (by kernel_rfl) trivial hS1 ?_
    refine l_nil rfl ?_
    refine then_n ?_
    refine wp_ret ?_
    exact c_end (S := (fun x_ => St w x_ [])) (rs := [.tmp 4]) rfl [] (v := Value.int .i64 (dsteps key (zs.take k))) (C := True) (by kernel_rfl) trivial hS1 ((hS1.rv (by rw [take_all (by have := hr.len; omega)])))
theorem KeyForPathI_c (key : Int) (A : Option Addr) (n c : Nat) (zs : List Int) (w : World) (hk : I64 key) (hz : ∀ z ∈ zs, I64 z) (hn : n ≤ 1000000000000) (hr : Rd w w.heap.size A n (zs.map (Value.int .i64))) : Calls Try.prog 35 #[.int .i64 key, .agg #[.slice A n c]] w (RetV w (.int .i64 (dsteps key zs))) := by
  obtain ⟨hk1, hk2⟩ := hk
  refine calls_FA Try.func35 rfl (n := 9) rfl (l := [(0, Value.int .i64 key), (1, Value.agg #[Value.slice A n c])]) rfl (by simp) (fun g => ?_)
  have hS := St.init w
  refine wp_seq ?_
  refine c_reg ?_
  refine l_op rfl rfl (fun K hK => op_box (d := some 3) rfl rfl [Value.slice A n c] (by kernel_rfl) hS (fun blk2 w1 hS1 => hK _ _ ?_))
  clear hK K
  refine q_seg (S := (fun x_ => St w x_ [Res.box blk2 [Value.slice A n c] 54])) [(4, Value.int .i64 0)] [.no] True (by kernel_rfl) trivial hS1 ?_
  refine l_nil rfl ?_
  refine then_n ?_
  refine wp_seq ?_
  refine c_reg ?_
  refine q_seg (S := (fun x_ => St w x_ [Res.box blk2 [Value.slice A n c] 54])) [(7, Value.slice A n c), (6, Value.pointer (some ⟨blk2, 0 + 0, none⟩)), (5, Value.int .i64 key)] [.no, .no, .v (Value.slice A n c)] ((LoadsAt Try.prog (fun x_ => St w x_ [Res.box blk2 [Value.slice A n c] 54]) 51 ⟨blk2, 0 + 0, none⟩ (Value.slice A n c))) (by kernel_rfl) (ld_box (i := 0) rfl rfl (by kernel_rfl)) hS1 ?_
  refine l_op rfl rfl (fun K hK => op_callv (d := some 8) rfl rfl ⟨_, Try.func42, by kernel_rfl, by kernel_rfl⟩ (vs := [Value.int .i64 key, Value.slice A n c]) (by kernel_rfl) (v := Value.int .i64 (dsteps key zs)) (deriveSteps_c key A n c zs w1 (i64 hk1 hk2) hz hn (hS1.rdlow hr)) hS1 (fun w3 hS3 => hK _ _ ?_))
  clear hK K
  refine q_seg (S := (fun x_ => St w x_ [Res.box blk2 [Value.slice A n c] 54])) [(4, Value.int .i64 (dsteps key zs))] [.no] True (by kernel_rfl) trivial hS3 ?_
  refine l_nil rfl ?_
  refine then_n ?_
  refine wp_ret ?_
  exact c_end (S := (fun x_ => St w x_ [Res.box blk2 [Value.slice A n c] 54])) (rs := [.tmp 4]) rfl [] (v := Value.int .i64 (dsteps key zs)) (C := True) (by kernel_rfl) trivial hS3 ((hS3.rv rfl))
theorem KeyForPathS_c (key : Int) (A : Option Addr) (n c : Nat) (zs : List Int) (w : World) (hk : I64 key) (hz : ∀ z ∈ zs, I64 z) (hn : n ≤ 1000000000000) (hr : Rd w w.heap.size A n (zs.map (Value.int .i64))) : Calls Try.prog 33 #[.int .i64 key, .agg #[.slice A n c]] w (RetV w (.int .i64 (dsteps key zs))) := by
  obtain ⟨hk1, hk2⟩ := hk
  refine calls_FA Try.func33 rfl (n := 23) rfl (l := [(0, Value.int .i64 key), (1, Value.agg #[Value.slice A n c])]) rfl (by simp) (fun g => ?_)
  have hS := St.init w
  refine wp_seq ?_
  refine c_reg ?_
  refine l_op rfl rfl (fun K hK => op_box (d := some 3) rfl rfl [Value.slice A n c] (by kernel_rfl) hS (fun blk2 w1 hS1 => hK _ _ ?_))
  clear hK K
  refine q_seg (S := (fun x_ => St w x_ [Res.box blk2 [Value.slice A n c] 54])) [(4, Value.int .i64 0)] [.no] True (by kernel_rfl) trivial hS1 ?_
  refine l_nil rfl ?_
  refine then_n ?_
  refine wp_seq ?_
  refine c_reg ?_
  refine q_seg (S := (fun x_ => St w x_ [Res.box blk2 [Value.slice A n c] 54])) [(5, Value.int .i64 key), (7, Value.int .i64 key)] [.no, .no] True (by kernel_rfl) trivial hS1 ?_
  refine l_nil rfl ?_
  refine then_n ?_
  refine wp_seq ?_
  refine wp_seq ?_
  refine c_reg ?_
  refine q_seg (S := (fun x_ => St w x_ [Res.box blk2 [Value.slice A n c] 54])) [(6, Value.int .i64 0)] [.no] True (by kernel_rfl) trivial hS1 ?_
  refine l_nil rfl ?_
  refine then_n ?_
  refine wp_block ?_
  refine c_loop (X := Nat) (fun (k : Nat) => [(3, Value.pointer (some ⟨blk2, 0, none⟩)), (6, Value.int .i64 ((k : Nat) : Int)), (5, Value.int .i64 (dsteps key (zs.take k)))]) (fun (k : Nat) (wr : World) => (k ≤ n) ∧ St w wr [Res.box blk2 [Value.slice A n c] 54]) (fun (k : Nat) => n - k) 0 ?_ ?_ ?_
  · exact (agree_cons (by kernel_rfl) (agree_cons (by kernel_rfl) (agree_cons (by kernel_rfl) agree_nil)))
  · exact ⟨Nat.zero_le _, hS1⟩
  rintro k g4 w3 ⟨hkn, hS3⟩
  obtain ⟨hd1, hd2⟩ := dsteps_I64 (i64 hk1 hk2) (zs.take k)
  refine wp_seq ?_
  refine wp_seq ?_
  refine c_reg ?_
  refine q_seg (S := (fun x_ => St w x_ [Res.box blk2 [Value.slice A n c] 54])) [(12, Value.bool (decide (((k : Nat) : Int) < ((n : Nat) : Int)))), (11, Value.int .i64 ((n : Nat) : Int)), (10, Value.slice A n c), (9, Value.pointer (some ⟨blk2, 0 + 0, none⟩)), (8, Value.int .i64 ((k : Nat) : Int))] [.no, .no, .v (Value.slice A n c), .no, .no] ((LoadsAt Try.prog (fun x_ => St w x_ [Res.box blk2 [Value.slice A n c] 54]) 51 ⟨blk2, 0 + 0, none⟩ (Value.slice A n c))) (by kernel_rfl) (ld_box (i := 0) rfl rfl (by kernel_rfl)) hS3 ?_
  refine l_nil rfl ?_
  refine then_n ?_
  rcases Bool.eq_false_or_eq_true (decide (((k : Nat) : Int) < ((n : Nat) : Int))) with hb5 | hb5
  · skip
    have hb5p := of_decide_eq_true hb5
    obtain ⟨b, off, rfl, hbB, hcl⟩ := hr.2 (by omega)
    obtain ⟨z, hzk, hzm⟩ := get_of_lt (l := zs) (k := k) (by have := hr.len; omega)
    obtain ⟨hz1, hz2⟩ := hz _ hzm
    refine c_true (b := (decide (((k : Nat) : Int) < ((n : Nat) : Int)))) (by kernel_rfl) hb5 ?_
    refine wp_skip ?_
    refine then_n ?_
    refine wp_seq ?_
    refine wp_block ?_
    refine c_reg ?_
    refine q_seg (S := (fun x_ => St w x_ [Res.box blk2 [Value.slice (some ⟨b, off, none⟩) n c] 54])) [(20, Value.int .i64 z), (19, Value.pointer (some ⟨b, off + Int.toNat ((k : Nat) : Int) * 1, none⟩)), (18, Value.int .i64 ((k : Nat) : Int)), (17, Value.slice (some ⟨b, off, none⟩) n c), (16, Value.pointer (some ⟨blk2, 0 + 0, none⟩)), (15, Value.int .i64 (dsteps key (zs.take k)))] [.no, .no, .v (Value.slice (some ⟨b, off, none⟩) n c), .no, .no, .v (Value.int .i64 z)] ((LoadsAt Try.prog (fun x_ => St w x_ [Res.box blk2 [Value.slice (some ⟨b, off, none⟩) n c] 54]) 51 ⟨blk2, 0 + 0, none⟩ (Value.slice (some ⟨b, off, none⟩) n c)) ∧ ((0 : Int) ≤ ((k : Nat) : Int)) ∧ (((k : Nat) : Int) < ((n : Nat) : Int)) ∧ (LoadsAt Try.prog (fun x_ => St w x_ [Res.box blk2 [Value.slice (some ⟨b, off, none⟩) n c] 54]) 3 ⟨b, off + Int.toNat ((k : Nat) : Int) * 1, none⟩ (Value.int .i64 z))) (by kernel_rfl) ⟨(ld_box (i := 0) rfl rfl (by kernel_rfl)), (by omega), (by omega), (ld_low (hcl _ _ (by simp [hzk])) (by kernel_rfl))⟩ hS3 ?_
    refine l_op rfl rfl (fun K hK => op_callv (d := some 21) rfl rfl ⟨_, Try.func41, by kernel_rfl, by kernel_rfl⟩ (vs := [Value.int .i64 (dsteps key (zs.take k)), Value.int .i64 z]) (by kernel_rfl) (v := Value.int .i64 (dkey (dsteps key (zs.take k)) z)) (DeriveKeyS_c (dsteps key (zs.take k)) z (i64 (by omega) (by omega)) (i64 (by omega) (by omega)) _) hS3 (fun w6 hS6 => hK _ _ ?_))
    clear hK K
    have hdq7 := dkey_bd (dsteps key (zs.take k)) z
    refine q_seg (S := (fun x_ => St w x_ [Res.box blk2 [Value.slice (some ⟨b, off, none⟩) n c] 54])) [(5, Value.int .i64 (dkey (dsteps key (zs.take k)) z))] [.no] True (by kernel_rfl) trivial hS6 ?_
    refine l_nil rfl ?_
    refine blk_n ?_
    refine then_n ?_
    refine c_reg ?_
    refine q_seg (S := (fun x_ => St w x_ [Res.box blk2 [Value.slice (some ⟨b, off, none⟩) n c] 54])) [(6, Value.int .i64 (((k : Nat) : Int) + (1 : Int))), (14, Value.int .i64 (((k : Nat) : Int) + (1 : Int))), (13, Value.int .i64 ((k : Nat) : Int))] [.no, .no, .no] ((InK .i64 (((k : Nat) : Int) + (1 : Int)))) (by kernel_rfl) (in64 (by omega) (by omega)) hS6 ?_
    refine l_nil rfl ?_
    refine then_n ?_
    refine round_end (k + 1) ?_ ?_ ?_
    · exact (agree_cons (by kernel_rfl) (agree_cons (by kernel_rfl) (agree_eq (v0 := Value.int .i64 (dkey (dsteps key (zs.take k)) z)) (by kernel_rfl) (congrArg (Value.int .i64) (dsteps_get hzk _).symm) agree_nil)))
    · exact ⟨(by omega), hS6⟩
    · exact (by first | omega | (dsimp only; omega))
  · skip
    have hb5p := of_decide_eq_false hb5
    refine c_false (b := (decide (((k : Nat) : Int) < ((n : Nat) : Int)))) (by kernel_rfl) hb5 ?_
    refine wp_exit ?_
    refine then_x ?_
    refine then_x ?_
    refine blk_hit ?_
    refine then_n ?_
    refine wp_seq ?_
    refine c_reg ?_
    refine q_seg (S := (fun x_ => St w x_ [Res.box blk2 [Value.slice A n c] 54])) [(4, Value.int .i64 (dsteps key (zs.take k))), (22, Value.int .i64 (dsteps key (zs.take k)))] [.no, .no] True (by kernel_rfl) trivial hS3 ?_
    refine l_nil rfl ?_
    refine then_n ?_
    refine wp_ret ?_
    exact c_end (S := (fun x_ => St w x_ [Res.box blk2 [Value.slice A n c] 54])) (rs := [.tmp 4]) rfl [] (v := Value.int .i64 (dsteps key (zs.take k))) (C := True) (by kernel_rfl) trivial hS3 ((hS3.rv (by rw [take_all (by have := hr.len; omega)])))
theorem SignalingKeyPath_i_c (w : World) : Calls Try.prog 36 #[] w (Ret w (fun v new => ∃ b, v = .agg #[.slice (some ⟨b, 0, none⟩) 2 2] ∧ new = [.row (.slice (some ⟨b, 0, none⟩) 2 2) 3 1 2 [.int .i64 1, .int .i64 2]])) := by
  refine calls_FA Try.func36 rfl (n := 3) rfl (l := []) rfl (by simp) (fun g => ?_)
  have hS := St.init w
  refine wp_seq ?_
  refine c_reg ?_
  refine l_op rfl rfl (fun K hK => op_alloc (d := some 0) rfl rfl [Value.slice none 0 0] (by kernel_rfl) hS (fun blk2 w1 hS1 => hK _ _ ?_))
  clear hK K
  refine l_nil rfl ?_
  refine then_n ?_
  refine wp_seq ?_
  refine c_reg ?_
  refine l_op rfl rfl (fun K hK => op_buildSlice (d := some 1) rfl rfl (e := 3) (by kernel_rfl) 1 (by kernel_rfl) (by decide) (by decide) [Value.int .i64 1, Value.int .i64 2] (by kernel_rfl) rfl hS1 (fun blk4 w3 hS3 => hK _ _ ?_))
  clear hK K
  refine q_seg (S := (fun x_ => St w x_ [Res.row (Value.slice (some ⟨blk4, 0, none⟩) 2 2) 3 1 2 ([Value.int .i64 1, Value.int .i64 2]), Res.box blk2 [Value.slice none 0 0] 54])) [(2, Value.agg #[Value.slice (some ⟨blk4, 0, none⟩) 2 2])] [.no] True (by kernel_rfl) trivial hS3 ?_
  refine l_op rfl rfl (fun K hK => op_store (d := none) rfl rfl (i := 1) (b := blk2) (off := 0) (cs := [Value.slice none 0 0]) (bt := 54) (by kernel_rfl) (by kernel_rfl) [Value.slice (some ⟨blk4, 0, none⟩) 2 2] (by kernel_rfl) (by kernel_rfl) (Nat.le_of_ble_eq_true (by kernel_rfl)) (by kernel_rfl) [Res.row (Value.slice (some ⟨blk4, 0, none⟩) 2 2) 3 1 2 ([Value.int .i64 1, Value.int .i64 2]), Res.box blk2 [Value.slice (some ⟨blk4, 0, none⟩) 2 2] 54] (by kernel_rfl) hS3 (fun w5 hS5 => hK _ _ ?_))
  clear hK K
  refine l_nil rfl ?_
  refine then_n ?_
  refine wp_ret ?_
  exact c_end (S := (fun x_ => St w x_ [Res.row (Value.slice (some ⟨blk4, 0, none⟩) 2 2) 3 1 2 ([Value.int .i64 1, Value.int .i64 2]), Res.box blk2 [Value.slice (some ⟨blk4, 0, none⟩) 2 2] 54])) (rs := [.cell 0 54]) rfl [Value.agg #[Value.slice (some ⟨blk4, 0, none⟩) 2 2]] (v := Value.agg #[Value.slice (some ⟨blk4, 0, none⟩) 2 2]) (C := ((LoadsAt Try.prog (fun x_ => St w x_ [Res.row (Value.slice (some ⟨blk4, 0, none⟩) 2 2) 3 1 2 ([Value.int .i64 1, Value.int .i64 2]), Res.box blk2 [Value.slice (some ⟨blk4, 0, none⟩) 2 2] 54]) 54 ⟨blk2, 0, none⟩ (Value.agg #[Value.slice (some ⟨blk4, 0, none⟩) 2 2])))) (by kernel_rfl) (ld_boxN (i := 1) (k := 1) rfl rfl rfl (by kernel_rfl)) hS5 (((hS5.sub (List.Sublist.cons_cons _ (List.Sublist.cons _ List.Sublist.slnil))).rt ⟨_, rfl, rfl⟩))
theorem SignalingKeyPath_s_c (w : World) : Calls Try.prog 34 #[] w (Ret w (fun v new => ∃ b, v = .agg #[.slice (some ⟨b, 0, none⟩) 2 2] ∧ new = [.row (.slice (some ⟨b, 0, none⟩) 2 2) 3 1 2 [.int .i64 1, .int .i64 2]])) := by
  refine calls_FA Try.func34 rfl (n := 3) rfl (l := []) rfl (by simp) (fun g => ?_)
  have hS := St.init w
  refine wp_seq ?_
  refine c_reg ?_
  refine l_op rfl rfl (fun K hK => op_alloc (d := some 0) rfl rfl [Value.slice none 0 0] (by kernel_rfl) hS (fun blk2 w1 hS1 => hK _ _ ?_))
  clear hK K
  refine l_nil rfl ?_
  refine then_n ?_
  refine wp_seq ?_
  refine c_reg ?_
  refine l_op rfl rfl (fun K hK => op_buildSlice (d := some 1) rfl rfl (e := 3) (by kernel_rfl) 1 (by kernel_rfl) (by decide) (by decide) [Value.int .i64 1, Value.int .i64 2] (by kernel_rfl) rfl hS1 (fun blk4 w3 hS3 => hK _ _ ?_))
  clear hK K
  refine q_seg (S := (fun x_ => St w x_ [Res.row (Value.slice (some ⟨blk4, 0, none⟩) 2 2) 3 1 2 ([Value.int .i64 1, Value.int .i64 2]), Res.box blk2 [Value.slice none 0 0] 54])) [(2, Value.agg #[Value.slice (some ⟨blk4, 0, none⟩) 2 2])] [.no] True (by kernel_rfl) trivial hS3 ?_
  refine l_op rfl rfl (fun K hK => op_store (d := none) rfl rfl (i := 1) (b := blk2) (off := 0) (cs := [Value.slice none 0 0]) (bt := 54) (by kernel_rfl) (by kernel_rfl) [Value.slice (some ⟨blk4, 0, none⟩) 2 2] (by kernel_rfl) (by kernel_rfl) (Nat.le_of_ble_eq_true (by kernel_rfl)) (by kernel_rfl) [Res.row (Value.slice (some ⟨blk4, 0, none⟩) 2 2) 3 1 2 ([Value.int .i64 1, Value.int .i64 2]), Res.box blk2 [Value.slice (some ⟨blk4, 0, none⟩) 2 2] 54] (by kernel_rfl) hS3 (fun w5 hS5 => hK _ _ ?_))
  clear hK K
  refine l_nil rfl ?_
  refine then_n ?_
  refine wp_ret ?_
  exact c_end (S := (fun x_ => St w x_ [Res.row (Value.slice (some ⟨blk4, 0, none⟩) 2 2) 3 1 2 ([Value.int .i64 1, Value.int .i64 2]), Res.box blk2 [Value.slice (some ⟨blk4, 0, none⟩) 2 2] 54])) (rs := [.cell 0 54]) rfl [Value.agg #[Value.slice (some ⟨blk4, 0, none⟩) 2 2]] (v := Value.agg #[Value.slice (some ⟨blk4, 0, none⟩) 2 2]) (C := ((LoadsAt Try.prog (fun x_ => St w x_ [Res.row (Value.slice (some ⟨blk4, 0, none⟩) 2 2) 3 1 2 ([Value.int .i64 1, Value.int .i64 2]), Res.box blk2 [Value.slice (some ⟨blk4, 0, none⟩) 2 2] 54]) 54 ⟨blk2, 0, none⟩ (Value.agg #[Value.slice (some ⟨blk4, 0, none⟩) 2 2])))) (by kernel_rfl) (ld_boxN (i := 1) (k := 1) rfl rfl rfl (by kernel_rfl)) hS5 (((hS5.sub (List.Sublist.cons_cons _ (List.Sublist.cons _ List.Sublist.slnil))).rt ⟨_, rfl, rfl⟩))

theorem SignalMAC_i_c (a : Int) (b0 : Int) (b1 : Int) (b2 : Int) (b3 : Int) (b4 : Int) (b5 : Int) (b6 : Int) (b7 : Int) (b8 : Int) (b9 : Int) (b10 : Int) (ha : I64 a) (hb0 : I64 b0) (hb1 : I64 b1) (hb2 : I64 b2) (hb3 : I64 b3) (hb4 : I64 b4) (hb5 : I64 b5) (hb6 : I64 b6) (hb7 : I64 b7) (hb8 : I64 b8) (hb9 : I64 b9) (hb10 : I64 b10) (w : World) : Calls Try.prog 19 #[Value.int .i64 a, Value.agg #[Value.int .i64 b0, Value.int .i64 b1, Value.int .i64 b2, Value.int .i64 b3, Value.int .i64 b4, Value.int .i64 b5, Value.int .i64 b6, Value.int .i64 b7, Value.int .i64 b8, Value.int .i64 b9, Value.int .i64 b10]] w (RetV w (Value.int .i64 (smac a b0 b1 b2 b3 b4))) := by
  obtain ⟨ha1, ha2⟩ := ha
  obtain ⟨hb01, hb02⟩ := hb0
  obtain ⟨hb11, hb12⟩ := hb1
  obtain ⟨hb21, hb22⟩ := hb2
  obtain ⟨hb31, hb32⟩ := hb3
  obtain ⟨hb41, hb42⟩ := hb4
  obtain ⟨hb51, hb52⟩ := hb5
  obtain ⟨hb61, hb62⟩ := hb6
  obtain ⟨hb71, hb72⟩ := hb7
  obtain ⟨hb81, hb82⟩ := hb8
  obtain ⟨hb91, hb92⟩ := hb9
  obtain ⟨hb101, hb102⟩ := hb10
  refine calls_FA Try.func19 rfl (n := 22) rfl (l := [(0, Value.int .i64 a), (1, Value.agg #[Value.int .i64 b0, Value.int .i64 b1, Value.int .i64 b2, Value.int .i64 b3, Value.int .i64 b4, Value.int .i64 b5, Value.int .i64 b6, Value.int .i64 b7, Value.int .i64 b8, Value.int .i64 b9, Value.int .i64 b10])]) rfl (by simp) (fun g => ?_)
  have hS := St.init w
  refine wp_seq ?_
  refine c_reg ?_
  refine l_op rfl rfl (fun K hK => op_box (d := some 3) rfl rfl [Value.int .i64 b0, Value.int .i64 b1, Value.int .i64 b2, Value.int .i64 b3, Value.int .i64 b4, Value.int .i64 b5, Value.int .i64 b6, Value.int .i64 b7, Value.int .i64 b8, Value.int .i64 b9, Value.int .i64 b10] (by kernel_rfl) hS (fun blk2 w1 hS1 => hK _ _ ?_))
  clear hK K
  refine q_seg (S := (fun x_ => St w x_ [Res.box blk2 [Value.int .i64 b0, Value.int .i64 b1, Value.int .i64 b2, Value.int .i64 b3, Value.int .i64 b4, Value.int .i64 b5, Value.int .i64 b6, Value.int .i64 b7, Value.int .i64 b8, Value.int .i64 b9, Value.int .i64 b10] 29])) [(4, Value.int .i64 0)] [.no] True (by kernel_rfl) trivial hS1 ?_
  refine l_nil rfl ?_
  refine then_n ?_
  refine wp_seq ?_
  refine c_reg ?_
  refine q_seg (S := (fun x_ => St w x_ [Res.box blk2 [Value.int .i64 b0, Value.int .i64 b1, Value.int .i64 b2, Value.int .i64 b3, Value.int .i64 b4, Value.int .i64 b5, Value.int .i64 b6, Value.int .i64 b7, Value.int .i64 b8, Value.int .i64 b9, Value.int .i64 b10] 29])) [(6, Value.int .i64 a)] [.no] True (by kernel_rfl) trivial hS1 ?_
  refine l_op rfl rfl (fun K hK => op_call (d := some 7) rfl rfl ⟨_, Try.func36, by kernel_rfl, by kernel_rfl⟩ (vs := []) (by kernel_rfl) (SignalingKeyPath_i_c _) hS1 (fun v4 new5 w3 Rw3 hS3 => hK _ _ ?_))
  clear hK K
  obtain ⟨blk6, rfl, rfl⟩ := Rw3
  refine l_op rfl rfl (fun K hK => op_callv (d := some 8) rfl rfl ⟨_, Try.func35, by kernel_rfl, by kernel_rfl⟩ (vs := [Value.int .i64 a, Value.agg #[Value.slice (some ⟨blk6, 0, none⟩) 2 2]]) (by kernel_rfl) (v := Value.int .i64 (dsteps a [1, 2])) (KeyForPathI_c a _ 2 2 [1, 2] w3 (i64 (by omega) (by omega)) (all64_cons (i64 (by omega) (by omega)) (all64_cons (i64 (by omega) (by omega)) all64_nil)) (by decide) (hS3.rd (List.mem_of_getElem? (i := 0) rfl))) hS3 (fun w7 hS7 => hK _ _ ?_))
  clear hK K
  obtain ⟨hds1, hds2⟩ := dsteps_I64 (a := a) (i64 (by omega) (by omega)) [1, 2]
  refine q_seg (S := (fun x_ => St w x_ [Res.row (Value.slice (some ⟨blk6, 0, none⟩) 2 2) 3 1 2 ([Value.int .i64 1, Value.int .i64 2]), Res.box blk2 [Value.int .i64 b0, Value.int .i64 b1, Value.int .i64 b2, Value.int .i64 b3, Value.int .i64 b4, Value.int .i64 b5, Value.int .i64 b6, Value.int .i64 b7, Value.int .i64 b8, Value.int .i64 b9, Value.int .i64 b10] 29])) [(5, Value.int .i64 (dsteps a [1, 2]))] [.no] True (by kernel_rfl) trivial hS7 ?_
  refine l_nil rfl ?_
  refine then_n ?_
  refine wp_seq ?_
  refine c_reg ?_
  refine q_seg (S := (fun x_ => St w x_ [Res.row (Value.slice (some ⟨blk6, 0, none⟩) 2 2) 3 1 2 ([Value.int .i64 1, Value.int .i64 2]), Res.box blk2 [Value.int .i64 b0, Value.int .i64 b1, Value.int .i64 b2, Value.int .i64 b3, Value.int .i64 b4, Value.int .i64 b5, Value.int .i64 b6, Value.int .i64 b7, Value.int .i64 b8, Value.int .i64 b9, Value.int .i64 b10] 29])) [(19, Value.int .i64 b4), (18, Value.pointer (some ⟨blk2, 0 + 4, none⟩)), (17, Value.int .i64 b3), (16, Value.pointer (some ⟨blk2, 0 + 3, none⟩)), (15, Value.int .i64 b2), (14, Value.pointer (some ⟨blk2, 0 + 2, none⟩)), (13, Value.int .i64 b1), (12, Value.pointer (some ⟨blk2, 0 + 1, none⟩)), (11, Value.int .i64 b0), (10, Value.pointer (some ⟨blk2, 0 + 0, none⟩)), (9, Value.int .i64 (dsteps a [1, 2]))] [.no, .no, .v (Value.int .i64 b0), .no, .v (Value.int .i64 b1), .no, .v (Value.int .i64 b2), .no, .v (Value.int .i64 b3), .no, .v (Value.int .i64 b4)] ((LoadsAt Try.prog (fun x_ => St w x_ [Res.row (Value.slice (some ⟨blk6, 0, none⟩) 2 2) 3 1 2 ([Value.int .i64 1, Value.int .i64 2]), Res.box blk2 [Value.int .i64 b0, Value.int .i64 b1, Value.int .i64 b2, Value.int .i64 b3, Value.int .i64 b4, Value.int .i64 b5, Value.int .i64 b6, Value.int .i64 b7, Value.int .i64 b8, Value.int .i64 b9, Value.int .i64 b10] 29]) 3 ⟨blk2, 0 + 0, none⟩ (Value.int .i64 b0)) ∧ (LoadsAt Try.prog (fun x_ => St w x_ [Res.row (Value.slice (some ⟨blk6, 0, none⟩) 2 2) 3 1 2 ([Value.int .i64 1, Value.int .i64 2]), Res.box blk2 [Value.int .i64 b0, Value.int .i64 b1, Value.int .i64 b2, Value.int .i64 b3, Value.int .i64 b4, Value.int .i64 b5, Value.int .i64 b6, Value.int .i64 b7, Value.int .i64 b8, Value.int .i64 b9, Value.int .i64 b10] 29]) 3 ⟨blk2, 0 + 1, none⟩ (Value.int .i64 b1)) ∧ (LoadsAt Try.prog (fun x_ => St w x_ [Res.row (Value.slice (some ⟨blk6, 0, none⟩) 2 2) 3 1 2 ([Value.int .i64 1, Value.int .i64 2]), Res.box blk2 [Value.int .i64 b0, Value.int .i64 b1, Value.int .i64 b2, Value.int .i64 b3, Value.int .i64 b4, Value.int .i64 b5, Value.int .i64 b6, Value.int .i64 b7, Value.int .i64 b8, Value.int .i64 b9, Value.int .i64 b10] 29]) 3 ⟨blk2, 0 + 2, none⟩ (Value.int .i64 b2)) ∧ (LoadsAt Try.prog (fun x_ => St w x_ [Res.row (Value.slice (some ⟨blk6, 0, none⟩) 2 2) 3 1 2 ([Value.int .i64 1, Value.int .i64 2]), Res.box blk2 [Value.int .i64 b0, Value.int .i64 b1, Value.int .i64 b2, Value.int .i64 b3, Value.int .i64 b4, Value.int .i64 b5, Value.int .i64 b6, Value.int .i64 b7, Value.int .i64 b8, Value.int .i64 b9, Value.int .i64 b10] 29]) 3 ⟨blk2, 0 + 3, none⟩ (Value.int .i64 b3)) ∧ (LoadsAt Try.prog (fun x_ => St w x_ [Res.row (Value.slice (some ⟨blk6, 0, none⟩) 2 2) 3 1 2 ([Value.int .i64 1, Value.int .i64 2]), Res.box blk2 [Value.int .i64 b0, Value.int .i64 b1, Value.int .i64 b2, Value.int .i64 b3, Value.int .i64 b4, Value.int .i64 b5, Value.int .i64 b6, Value.int .i64 b7, Value.int .i64 b8, Value.int .i64 b9, Value.int .i64 b10] 29]) 3 ⟨blk2, 0 + 4, none⟩ (Value.int .i64 b4))) (by kernel_rfl) ⟨(ld_box (i := 1) rfl rfl (by kernel_rfl)), (ld_box (i := 1) rfl rfl (by kernel_rfl)), (ld_box (i := 1) rfl rfl (by kernel_rfl)), (ld_box (i := 1) rfl rfl (by kernel_rfl)), (ld_box (i := 1) rfl rfl (by kernel_rfl))⟩ hS7 ?_
  refine l_op rfl rfl (fun K hK => op_buildSlice (d := some 20) rfl rfl (e := 3) (by kernel_rfl) 1 (by kernel_rfl) (by decide) (by decide) [Value.int .i64 23, Value.int .i64 b0, Value.int .i64 b1, Value.int .i64 b2, Value.int .i64 b3, Value.int .i64 b4] (by kernel_rfl) rfl hS7 (fun blk9 w8 hS8 => hK _ _ ?_))
  clear hK K
  refine l_op rfl rfl (fun K hK => op_callv (d := some 21) rfl rfl ⟨_, Try.func32, by kernel_rfl, by kernel_rfl⟩ (vs := [Value.int .i64 (dsteps a [1, 2]), Value.slice (some ⟨blk9, 0, none⟩) 6 6]) (by kernel_rfl) (v := Value.int .i64 (khash (dsteps a [1, 2]) [23, b0, b1, b2, b3, b4])) (KeyedHashI_c (dsteps a [1, 2]) _ 6 6 [23, b0, b1, b2, b3, b4] w8 (i64 (by omega) (by omega)) (all64_cons (i64 (by omega) (by omega)) (all64_cons (i64 (by omega) (by omega)) (all64_cons (i64 (by omega) (by omega)) (all64_cons (i64 (by omega) (by omega)) (all64_cons (i64 (by omega) (by omega)) (all64_cons (i64 (by omega) (by omega)) all64_nil)))))) (by decide) (hS8.rd (List.mem_of_getElem? (i := 0) rfl))) hS8 (fun w10 hS10 => hK _ _ ?_))
  clear hK K
  have hkq11 := khash_bd (dsteps a [1, 2]) [23, b0, b1, b2, b3, b4]
  refine q_seg (S := (fun x_ => St w x_ [Res.row (Value.slice (some ⟨blk9, 0, none⟩) 6 6) 3 1 6 ([Value.int .i64 23, Value.int .i64 b0, Value.int .i64 b1, Value.int .i64 b2, Value.int .i64 b3, Value.int .i64 b4]), Res.row (Value.slice (some ⟨blk6, 0, none⟩) 2 2) 3 1 2 ([Value.int .i64 1, Value.int .i64 2]), Res.box blk2 [Value.int .i64 b0, Value.int .i64 b1, Value.int .i64 b2, Value.int .i64 b3, Value.int .i64 b4, Value.int .i64 b5, Value.int .i64 b6, Value.int .i64 b7, Value.int .i64 b8, Value.int .i64 b9, Value.int .i64 b10] 29])) [(4, Value.int .i64 (khash (dsteps a [1, 2]) [23, b0, b1, b2, b3, b4]))] [.no] True (by kernel_rfl) trivial hS10 ?_
  refine l_nil rfl ?_
  refine then_n ?_
  refine wp_ret ?_
  exact c_end (S := (fun x_ => St w x_ [Res.row (Value.slice (some ⟨blk9, 0, none⟩) 6 6) 3 1 6 ([Value.int .i64 23, Value.int .i64 b0, Value.int .i64 b1, Value.int .i64 b2, Value.int .i64 b3, Value.int .i64 b4]), Res.row (Value.slice (some ⟨blk6, 0, none⟩) 2 2) 3 1 2 ([Value.int .i64 1, Value.int .i64 2]), Res.box blk2 [Value.int .i64 b0, Value.int .i64 b1, Value.int .i64 b2, Value.int .i64 b3, Value.int .i64 b4, Value.int .i64 b5, Value.int .i64 b6, Value.int .i64 b7, Value.int .i64 b8, Value.int .i64 b9, Value.int .i64 b10] 29])) (rs := [.tmp 4]) rfl [] (v := Value.int .i64 (khash (dsteps a [1, 2]) [23, b0, b1, b2, b3, b4])) (C := True) (by kernel_rfl) trivial hS10 ((hS10.rv rfl))

theorem SignalMAC_s_c (a : Int) (b0 : Int) (b1 : Int) (b2 : Int) (b3 : Int) (b4 : Int) (b5 : Int) (b6 : Int) (b7 : Int) (b8 : Int) (b9 : Int) (b10 : Int) (ha : I64 a) (hb0 : I64 b0) (hb1 : I64 b1) (hb2 : I64 b2) (hb3 : I64 b3) (hb4 : I64 b4) (hb5 : I64 b5) (hb6 : I64 b6) (hb7 : I64 b7) (hb8 : I64 b8) (hb9 : I64 b9) (hb10 : I64 b10) (w : World) : Calls Try.prog 18 #[Value.int .i64 a, Value.agg #[Value.int .i64 b0, Value.int .i64 b1, Value.int .i64 b2, Value.int .i64 b3, Value.int .i64 b4, Value.int .i64 b5, Value.int .i64 b6, Value.int .i64 b7, Value.int .i64 b8, Value.int .i64 b9, Value.int .i64 b10]] w (RetV w (Value.int .i64 (smac a b0 b1 b2 b3 b4))) := by
  obtain ⟨ha1, ha2⟩ := ha
  obtain ⟨hb01, hb02⟩ := hb0
  obtain ⟨hb11, hb12⟩ := hb1
  obtain ⟨hb21, hb22⟩ := hb2
  obtain ⟨hb31, hb32⟩ := hb3
  obtain ⟨hb41, hb42⟩ := hb4
  obtain ⟨hb51, hb52⟩ := hb5
  obtain ⟨hb61, hb62⟩ := hb6
  obtain ⟨hb71, hb72⟩ := hb7
  obtain ⟨hb81, hb82⟩ := hb8
  obtain ⟨hb91, hb92⟩ := hb9
  obtain ⟨hb101, hb102⟩ := hb10
  refine calls_FA Try.func18 rfl (n := 20) rfl (l := [(0, Value.int .i64 a), (1, Value.agg #[Value.int .i64 b0, Value.int .i64 b1, Value.int .i64 b2, Value.int .i64 b3, Value.int .i64 b4, Value.int .i64 b5, Value.int .i64 b6, Value.int .i64 b7, Value.int .i64 b8, Value.int .i64 b9, Value.int .i64 b10])]) rfl (by simp) (fun g => ?_)
  have hS := St.init w
  refine wp_seq ?_
  refine c_reg ?_
  refine l_op rfl rfl (fun K hK => op_box (d := some 3) rfl rfl [Value.int .i64 b0, Value.int .i64 b1, Value.int .i64 b2, Value.int .i64 b3, Value.int .i64 b4, Value.int .i64 b5, Value.int .i64 b6, Value.int .i64 b7, Value.int .i64 b8, Value.int .i64 b9, Value.int .i64 b10] (by kernel_rfl) hS (fun blk2 w1 hS1 => hK _ _ ?_))
  clear hK K
  refine q_seg (S := (fun x_ => St w x_ [Res.box blk2 [Value.int .i64 b0, Value.int .i64 b1, Value.int .i64 b2, Value.int .i64 b3, Value.int .i64 b4, Value.int .i64 b5, Value.int .i64 b6, Value.int .i64 b7, Value.int .i64 b8, Value.int .i64 b9, Value.int .i64 b10] 29])) [(4, Value.int .i64 0)] [.no] True (by kernel_rfl) trivial hS1 ?_
  refine l_nil rfl ?_
  refine then_n ?_
  refine wp_seq ?_
  refine c_cut (fun a_ w_ => ∃ (g_ : Nat → Value), a_ = FA 20 [(4, Value.int .i64 (khash (dsteps a [1, 2]) [23, b0, b1, b2, b3, b4]))] g_ ∧ St w w_ [Res.box blk2 [Value.int .i64 b0, Value.int .i64 b1, Value.int .i64 b2, Value.int .i64 b3, Value.int .i64 b4, Value.int .i64 b5, Value.int .i64 b6, Value.int .i64 b7, Value.int .i64 b8, Value.int .i64 b9, Value.int .i64 b10] 29]) ?_ ?_
  · skip
    refine c_drawn [] (by kernel_rfl) hS1 (fun w3 hS3 => ?_)
    refine t_seg (S := (fun x_ => St w x_ [Res.box blk2 [Value.int .i64 b0, Value.int .i64 b1, Value.int .i64 b2, Value.int .i64 b3, Value.int .i64 b4, Value.int .i64 b5, Value.int .i64 b6, Value.int .i64 b7, Value.int .i64 b8, Value.int .i64 b9, Value.int .i64 b10] 29])) [(0, .no), (3, .no), (5, .no), (7, .no), (9, .no), (11, .no), (4, .v (Value.int .i64 b0)), (6, .v (Value.int .i64 b1)), (8, .v (Value.int .i64 b2)), (10, .v (Value.int .i64 b3)), (12, .v (Value.int .i64 b4))] 5 #[true, false, false, true, true, true, true, true, true, true, true, true, true, false, false, false] [(17, Value.int .i64 b4), (15, Value.int .i64 b3), (13, Value.int .i64 b2), (11, Value.int .i64 b1), (9, Value.int .i64 b0), (16, Value.pointer (some ⟨blk2, 0 + 4, none⟩)), (14, Value.pointer (some ⟨blk2, 0 + 3, none⟩)), (12, Value.pointer (some ⟨blk2, 0 + 2, none⟩)), (10, Value.pointer (some ⟨blk2, 0 + 1, none⟩)), (8, Value.pointer (some ⟨blk2, 0 + 0, none⟩)), (5, Value.int .i64 a)] ((LoadsAt Try.prog (fun x_ => St w x_ [Res.box blk2 [Value.int .i64 b0, Value.int .i64 b1, Value.int .i64 b2, Value.int .i64 b3, Value.int .i64 b4, Value.int .i64 b5, Value.int .i64 b6, Value.int .i64 b7, Value.int .i64 b8, Value.int .i64 b9, Value.int .i64 b10] 29]) 3 ⟨blk2, 0 + 0, none⟩ (Value.int .i64 b0)) ∧ (LoadsAt Try.prog (fun x_ => St w x_ [Res.box blk2 [Value.int .i64 b0, Value.int .i64 b1, Value.int .i64 b2, Value.int .i64 b3, Value.int .i64 b4, Value.int .i64 b5, Value.int .i64 b6, Value.int .i64 b7, Value.int .i64 b8, Value.int .i64 b9, Value.int .i64 b10] 29]) 3 ⟨blk2, 0 + 1, none⟩ (Value.int .i64 b1)) ∧ (LoadsAt Try.prog (fun x_ => St w x_ [Res.box blk2 [Value.int .i64 b0, Value.int .i64 b1, Value.int .i64 b2, Value.int .i64 b3, Value.int .i64 b4, Value.int .i64 b5, Value.int .i64 b6, Value.int .i64 b7, Value.int .i64 b8, Value.int .i64 b9, Value.int .i64 b10] 29]) 3 ⟨blk2, 0 + 2, none⟩ (Value.int .i64 b2)) ∧ (LoadsAt Try.prog (fun x_ => St w x_ [Res.box blk2 [Value.int .i64 b0, Value.int .i64 b1, Value.int .i64 b2, Value.int .i64 b3, Value.int .i64 b4, Value.int .i64 b5, Value.int .i64 b6, Value.int .i64 b7, Value.int .i64 b8, Value.int .i64 b9, Value.int .i64 b10] 29]) 3 ⟨blk2, 0 + 3, none⟩ (Value.int .i64 b3)) ∧ (LoadsAt Try.prog (fun x_ => St w x_ [Res.box blk2 [Value.int .i64 b0, Value.int .i64 b1, Value.int .i64 b2, Value.int .i64 b3, Value.int .i64 b4, Value.int .i64 b5, Value.int .i64 b6, Value.int .i64 b7, Value.int .i64 b8, Value.int .i64 b9, Value.int .i64 b10] 29]) 3 ⟨blk2, 0 + 4, none⟩ (Value.int .i64 b4))) (by kernel_rfl) (Qpanic.then (Qpanic.then Qpanic.bp)) rfl (by kernel_rfl) ⟨(ld_box (i := 0) rfl rfl (by kernel_rfl)), (ld_box (i := 0) rfl rfl (by kernel_rfl)), (ld_box (i := 0) rfl rfl (by kernel_rfl)), (ld_box (i := 0) rfl rfl (by kernel_rfl)), (ld_box (i := 0) rfl rfl (by kernel_rfl))⟩ hS3 ?_
    refine a_op2 (i := 1) (j := 13) (fuel := 4) (li := #[true, true, false, true, true, true, true, true, true, true, true, true, true, false, false, false]) (lj := #[true, false, false, true, true, true, true, true, true, true, true, true, true, true, false, false]) rfl rfl rfl (by kernel_rfl) (by kernel_rfl) (by kernel_rfl) rfl rfl ?_ ?_
    · intro K hK
      refine op_call (d := some 6) rfl rfl ⟨_, Try.func34, by kernel_rfl, by kernel_rfl⟩ (vs := []) (by kernel_rfl) (SignalingKeyPath_s_c _) hS3 (fun v5 new6 w4 Rw4 hS4 => (hK _ _ (fun _ => hS4.after) ?_))
      clear hK K
      obtain ⟨blk7, rfl, rfl⟩ := Rw4
      refine a_op2 (i := 2) (j := 13) (fuel := 3) (li := #[true, true, true, true, true, true, true, true, true, true, true, true, true, false, false, false]) (lj := #[true, true, false, true, true, true, true, true, true, true, true, true, true, true, false, false]) rfl rfl rfl (by kernel_rfl) (by kernel_rfl) (by kernel_rfl) rfl rfl ?_ ?_
      · intro K hK
        refine op_callv (d := some 7) rfl rfl ⟨_, Try.func33, by kernel_rfl, by kernel_rfl⟩ (vs := [Value.int .i64 a, Value.agg #[Value.slice (some ⟨blk7, 0, none⟩) 2 2]]) (by kernel_rfl) (v := Value.int .i64 (dsteps a [1, 2])) (KeyForPathS_c a _ 2 2 [1, 2] w4 (i64 (by omega) (by omega)) (all64_cons (i64 (by omega) (by omega)) (all64_cons (i64 (by omega) (by omega)) all64_nil)) (by decide) (hS4.rd (List.mem_of_getElem? (i := 0) rfl))) hS4 (fun w8 hS8 => (hK _ _ (fun _ => hS8.drop) ?_))
        clear hK K
        obtain ⟨hds1, hds2⟩ := dsteps_I64 (a := a) (i64 (by omega) (by omega)) [1, 2]
        refine a_op (i := 13) (fuel := 2) (listed' := #[true, true, true, true, true, true, true, true, true, true, true, true, true, true, false, false]) rfl rfl (by kernel_rfl) (by kernel_rfl) rfl (fun K hK => op_buildSlice (d := some 18) rfl rfl (e := 3) (by kernel_rfl) 1 (by kernel_rfl) (by decide) (by decide) [Value.int .i64 23, Value.int .i64 b0, Value.int .i64 b1, Value.int .i64 b2, Value.int .i64 b3, Value.int .i64 b4] (by kernel_rfl) rfl hS8 (fun blk10 w9 hS9 => hK _ _ (fun _ => hS9.drop.drop) ?_))
        clear hK K
        refine a_op (i := 14) (fuel := 1) (listed' := #[true, true, true, true, true, true, true, true, true, true, true, true, true, true, true, false]) rfl rfl (by kernel_rfl) (by kernel_rfl) rfl (fun K hK => op_callv (d := some 19) rfl rfl ⟨_, Try.func31, by kernel_rfl, by kernel_rfl⟩ (vs := [Value.int .i64 (dsteps a [1, 2]), Value.slice (some ⟨blk10, 0, none⟩) 6 6]) (by kernel_rfl) (v := Value.int .i64 (khash (dsteps a [1, 2]) [23, b0, b1, b2, b3, b4])) (KeyedHashS_c (dsteps a [1, 2]) _ 6 6 [23, b0, b1, b2, b3, b4] w9 (i64 (by omega) (by omega)) (all64_cons (i64 (by omega) (by omega)) (all64_cons (i64 (by omega) (by omega)) (all64_cons (i64 (by omega) (by omega)) (all64_cons (i64 (by omega) (by omega)) (all64_cons (i64 (by omega) (by omega)) (all64_cons (i64 (by omega) (by omega)) all64_nil)))))) (by decide) (hS9.rd (List.mem_of_getElem? (i := 0) rfl))) hS9 (fun w11 hS11 => hK _ _ (fun _ => hS11.drop.drop) ?_))
        clear hK K
        have hkq12 := khash_bd (dsteps a [1, 2]) [23, b0, b1, b2, b3, b4]
        refine t_seg (S := (fun x_ => St w x_ [Res.box blk2 [Value.int .i64 b0, Value.int .i64 b1, Value.int .i64 b2, Value.int .i64 b3, Value.int .i64 b4, Value.int .i64 b5, Value.int .i64 b6, Value.int .i64 b7, Value.int .i64 b8, Value.int .i64 b9, Value.int .i64 b10] 29])) [(15, .no)] 0 #[true, true, true, true, true, true, true, true, true, true, true, true, true, true, true, true] [(4, Value.int .i64 (khash (dsteps a [1, 2]) [23, b0, b1, b2, b3, b4]))] True (by kernel_rfl) (Qpanic.then (Qpanic.then Qpanic.bp)) rfl (by kernel_rfl) trivial (hS11.drop.drop) ?_
        refine a_done (by kernel_rfl) ?_
        refine then_n ?_
        have hS11s1 : St w w11 [Res.box blk2 [Value.int .i64 b0, Value.int .i64 b1, Value.int .i64 b2, Value.int .i64 b3, Value.int .i64 b4, Value.int .i64 b5, Value.int .i64 b6, Value.int .i64 b7, Value.int .i64 b8, Value.int .i64 b9, Value.int .i64 b10] 29] := (hS11.sub (List.Sublist.cons _ (List.Sublist.cons _ (List.Sublist.cons_cons _ List.Sublist.slnil))))
        exact ⟨_, FA_reset _ (agree_cons (by kernel_rfl) agree_nil), hS11s1⟩
      · intro K hK
        refine op_buildSlice (d := some 18) rfl rfl (e := 3) (by kernel_rfl) 1 (by kernel_rfl) (by decide) (by decide) [Value.int .i64 23, Value.int .i64 b0, Value.int .i64 b1, Value.int .i64 b2, Value.int .i64 b3, Value.int .i64 b4] (by kernel_rfl) rfl hS4 (fun blk14 w13 hS13 => (hK _ _ (fun _ => hS13.drop.drop) ?_))
        clear hK K
        refine a_op (i := 2) (fuel := 2) (listed' := #[true, true, true, true, true, true, true, true, true, true, true, true, true, true, false, false]) rfl rfl (by kernel_rfl) (by kernel_rfl) rfl (fun K hK => op_callv (d := some 7) rfl rfl ⟨_, Try.func33, by kernel_rfl, by kernel_rfl⟩ (vs := [Value.int .i64 a, Value.agg #[Value.slice (some ⟨blk7, 0, none⟩) 2 2]]) (by kernel_rfl) (v := Value.int .i64 (dsteps a [1, 2])) (KeyForPathS_c a _ 2 2 [1, 2] w13 (i64 (by omega) (by omega)) (all64_cons (i64 (by omega) (by omega)) (all64_cons (i64 (by omega) (by omega)) all64_nil)) (by decide) (hS13.rd (List.mem_of_getElem? (i := 1) rfl))) hS13 (fun w15 hS15 => hK _ _ (fun _ => hS15.drop.drop) ?_))
        clear hK K
        obtain ⟨hds1, hds2⟩ := dsteps_I64 (a := a) (i64 (by omega) (by omega)) [1, 2]
        refine a_op (i := 14) (fuel := 1) (listed' := #[true, true, true, true, true, true, true, true, true, true, true, true, true, true, true, false]) rfl rfl (by kernel_rfl) (by kernel_rfl) rfl (fun K hK => op_callv (d := some 19) rfl rfl ⟨_, Try.func31, by kernel_rfl, by kernel_rfl⟩ (vs := [Value.int .i64 (dsteps a [1, 2]), Value.slice (some ⟨blk14, 0, none⟩) 6 6]) (by kernel_rfl) (v := Value.int .i64 (khash (dsteps a [1, 2]) [23, b0, b1, b2, b3, b4])) (KeyedHashS_c (dsteps a [1, 2]) _ 6 6 [23, b0, b1, b2, b3, b4] w15 (i64 (by omega) (by omega)) (all64_cons (i64 (by omega) (by omega)) (all64_cons (i64 (by omega) (by omega)) (all64_cons (i64 (by omega) (by omega)) (all64_cons (i64 (by omega) (by omega)) (all64_cons (i64 (by omega) (by omega)) (all64_cons (i64 (by omega) (by omega)) all64_nil)))))) (by decide) (hS15.rd (List.mem_of_getElem? (i := 0) rfl))) hS15 (fun w16 hS16 => hK _ _ (fun _ => hS16.drop.drop) ?_))
        clear hK K
        have hkq17 := khash_bd (dsteps a [1, 2]) [23, b0, b1, b2, b3, b4]
        refine t_seg (S := (fun x_ => St w x_ [Res.box blk2 [Value.int .i64 b0, Value.int .i64 b1, Value.int .i64 b2, Value.int .i64 b3, Value.int .i64 b4, Value.int .i64 b5, Value.int .i64 b6, Value.int .i64 b7, Value.int .i64 b8, Value.int .i64 b9, Value.int .i64 b10] 29])) [(15, .no)] 0 #[true, true, true, true, true, true, true, true, true, true, true, true, true, true, true, true] [(4, Value.int .i64 (khash (dsteps a [1, 2]) [23, b0, b1, b2, b3, b4]))] True (by kernel_rfl) (Qpanic.then (Qpanic.then Qpanic.bp)) rfl (by kernel_rfl) trivial (hS16.drop.drop) ?_
        refine a_done (by kernel_rfl) ?_
        refine then_n ?_
        have hS16s2 : St w w16 [Res.box blk2 [Value.int .i64 b0, Value.int .i64 b1, Value.int .i64 b2, Value.int .i64 b3, Value.int .i64 b4, Value.int .i64 b5, Value.int .i64 b6, Value.int .i64 b7, Value.int .i64 b8, Value.int .i64 b9, Value.int .i64 b10] 29] := (hS16.sub (List.Sublist.cons _ (List.Sublist.cons _ (List.Sublist.cons_cons _ List.Sublist.slnil))))
        exact ⟨_, FA_reset _ (agree_cons (by kernel_rfl) agree_nil), hS16s2⟩
    · intro K hK
      refine op_buildSlice (d := some 18) rfl rfl (e := 3) (by kernel_rfl) 1 (by kernel_rfl) (by decide) (by decide) [Value.int .i64 23, Value.int .i64 b0, Value.int .i64 b1, Value.int .i64 b2, Value.int .i64 b3, Value.int .i64 b4] (by kernel_rfl) rfl hS3 (fun blk19 w18 hS18 => (hK _ _ (fun _ => hS18.drop) ?_))
      clear hK K
      refine a_op (i := 1) (fuel := 3) (listed' := #[true, true, false, true, true, true, true, true, true, true, true, true, true, true, false, false]) rfl rfl (by kernel_rfl) (by kernel_rfl) rfl (fun K hK => op_call (d := some 6) rfl rfl ⟨_, Try.func34, by kernel_rfl, by kernel_rfl⟩ (vs := []) (by kernel_rfl) (SignalingKeyPath_s_c _) hS18 (fun v21 new22 w20 Rw20 hS20 => hK _ _ (fun _ => hS20.after.drop) ?_))
      clear hK K
      obtain ⟨blk23, rfl, rfl⟩ := Rw20
      refine a_op (i := 2) (fuel := 2) (listed' := #[true, true, true, true, true, true, true, true, true, true, true, true, true, true, false, false]) rfl rfl (by kernel_rfl) (by kernel_rfl) rfl (fun K hK => op_callv (d := some 7) rfl rfl ⟨_, Try.func33, by kernel_rfl, by kernel_rfl⟩ (vs := [Value.int .i64 a, Value.agg #[Value.slice (some ⟨blk23, 0, none⟩) 2 2]]) (by kernel_rfl) (v := Value.int .i64 (dsteps a [1, 2])) (KeyForPathS_c a _ 2 2 [1, 2] w20 (i64 (by omega) (by omega)) (all64_cons (i64 (by omega) (by omega)) (all64_cons (i64 (by omega) (by omega)) all64_nil)) (by decide) (hS20.rd (List.mem_of_getElem? (i := 0) rfl))) hS20 (fun w24 hS24 => hK _ _ (fun _ => hS24.drop.drop) ?_))
      clear hK K
      obtain ⟨hds1, hds2⟩ := dsteps_I64 (a := a) (i64 (by omega) (by omega)) [1, 2]
      refine a_op (i := 14) (fuel := 1) (listed' := #[true, true, true, true, true, true, true, true, true, true, true, true, true, true, true, false]) rfl rfl (by kernel_rfl) (by kernel_rfl) rfl (fun K hK => op_callv (d := some 19) rfl rfl ⟨_, Try.func31, by kernel_rfl, by kernel_rfl⟩ (vs := [Value.int .i64 (dsteps a [1, 2]), Value.slice (some ⟨blk19, 0, none⟩) 6 6]) (by kernel_rfl) (v := Value.int .i64 (khash (dsteps a [1, 2]) [23, b0, b1, b2, b3, b4])) (KeyedHashS_c (dsteps a [1, 2]) _ 6 6 [23, b0, b1, b2, b3, b4] w24 (i64 (by omega) (by omega)) (all64_cons (i64 (by omega) (by omega)) (all64_cons (i64 (by omega) (by omega)) (all64_cons (i64 (by omega) (by omega)) (all64_cons (i64 (by omega) (by omega)) (all64_cons (i64 (by omega) (by omega)) (all64_cons (i64 (by omega) (by omega)) all64_nil)))))) (by decide) (hS24.rd (List.mem_of_getElem? (i := 1) rfl))) hS24 (fun w25 hS25 => hK _ _ (fun _ => hS25.drop.drop) ?_))
      clear hK K
      have hkq26 := khash_bd (dsteps a [1, 2]) [23, b0, b1, b2, b3, b4]
      refine t_seg (S := (fun x_ => St w x_ [Res.box blk2 [Value.int .i64 b0, Value.int .i64 b1, Value.int .i64 b2, Value.int .i64 b3, Value.int .i64 b4, Value.int .i64 b5, Value.int .i64 b6, Value.int .i64 b7, Value.int .i64 b8, Value.int .i64 b9, Value.int .i64 b10] 29])) [(15, .no)] 0 #[true, true, true, true, true, true, true, true, true, true, true, true, true, true, true, true] [(4, Value.int .i64 (khash (dsteps a [1, 2]) [23, b0, b1, b2, b3, b4]))] True (by kernel_rfl) (Qpanic.then (Qpanic.then Qpanic.bp)) rfl (by kernel_rfl) trivial (hS25.drop.drop) ?_
      refine a_done (by kernel_rfl) ?_
      refine then_n ?_
      have hS25s3 : St w w25 [Res.box blk2 [Value.int .i64 b0, Value.int .i64 b1, Value.int .i64 b2, Value.int .i64 b3, Value.int .i64 b4, Value.int .i64 b5, Value.int .i64 b6, Value.int .i64 b7, Value.int .i64 b8, Value.int .i64 b9, Value.int .i64 b10] 29] := (hS25.sub (List.Sublist.cons _ (List.Sublist.cons _ (List.Sublist.cons_cons _ List.Sublist.slnil))))
      exact ⟨_, FA_reset _ (agree_cons (by kernel_rfl) agree_nil), hS25s3⟩
  · skip
    rintro _ w27 ⟨g28, rfl, hS27⟩
    obtain ⟨hds1, hds2⟩ := dsteps_I64 (a := a) (i64 (by omega) (by omega)) [1, 2]
    have hkq12 := khash_bd (dsteps a [1, 2]) [23, b0, b1, b2, b3, b4]
    refine then_n ?_
    refine wp_ret ?_
    exact c_end (S := (fun x_ => St w x_ [Res.box blk2 [Value.int .i64 b0, Value.int .i64 b1, Value.int .i64 b2, Value.int .i64 b3, Value.int .i64 b4, Value.int .i64 b5, Value.int .i64 b6, Value.int .i64 b7, Value.int .i64 b8, Value.int .i64 b9, Value.int .i64 b10] 29])) (rs := [.tmp 4]) rfl [] (v := Value.int .i64 (khash (dsteps a [1, 2]) [23, b0, b1, b2, b3, b4])) (C := True) (by kernel_rfl) trivial hS27 ((hS27.rv rfl))

theorem VerifySignal_i_c (a : Int) (b0 : Int) (b1 : Int) (b2 : Int) (b3 : Int) (b4 : Int) (b5 : Int) (b6 : Int) (b7 : Int) (b8 : Int) (b9 : Int) (b10 : Int) (ha : I64 a) (hb0 : I64 b0) (hb1 : I64 b1) (hb2 : I64 b2) (hb3 : I64 b3) (hb4 : I64 b4) (hb5 : I64 b5) (hb6 : I64 b6) (hb7 : I64 b7) (hb8 : I64 b8) (hb9 : I64 b9) (hb10 : I64 b10) (w : World) : Calls Try.prog 21 #[Value.int .i64 a, Value.agg #[Value.int .i64 b0, Value.int .i64 b1, Value.int .i64 b2, Value.int .i64 b3, Value.int .i64 b4, Value.int .i64 b5, Value.int .i64 b6, Value.int .i64 b7, Value.int .i64 b8, Value.int .i64 b9, Value.int .i64 b10]] w (RetV w (Value.bool (decide (b10 = (smac a b0 b1 b2 b3 b4))))) := by
  obtain ⟨ha1, ha2⟩ := ha
  obtain ⟨hb01, hb02⟩ := hb0
  obtain ⟨hb11, hb12⟩ := hb1
  obtain ⟨hb21, hb22⟩ := hb2
  obtain ⟨hb31, hb32⟩ := hb3
  obtain ⟨hb41, hb42⟩ := hb4
  obtain ⟨hb51, hb52⟩ := hb5
  obtain ⟨hb61, hb62⟩ := hb6
  obtain ⟨hb71, hb72⟩ := hb7
  obtain ⟨hb81, hb82⟩ := hb8
  obtain ⟨hb91, hb92⟩ := hb9
  obtain ⟨hb101, hb102⟩ := hb10
  refine calls_FA Try.func21 rfl (n := 11) rfl (l := [(0, Value.int .i64 a), (1, Value.agg #[Value.int .i64 b0, Value.int .i64 b1, Value.int .i64 b2, Value.int .i64 b3, Value.int .i64 b4, Value.int .i64 b5, Value.int .i64 b6, Value.int .i64 b7, Value.int .i64 b8, Value.int .i64 b9, Value.int .i64 b10])]) rfl (by simp) (fun g => ?_)
  have hS := St.init w
  refine wp_seq ?_
  refine c_reg ?_
  refine l_op rfl rfl (fun K hK => op_box (d := some 3) rfl rfl [Value.int .i64 b0, Value.int .i64 b1, Value.int .i64 b2, Value.int .i64 b3, Value.int .i64 b4, Value.int .i64 b5, Value.int .i64 b6, Value.int .i64 b7, Value.int .i64 b8, Value.int .i64 b9, Value.int .i64 b10] (by kernel_rfl) hS (fun blk2 w1 hS1 => hK _ _ ?_))
  clear hK K
  refine q_seg (S := (fun x_ => St w x_ [Res.box blk2 [Value.int .i64 b0, Value.int .i64 b1, Value.int .i64 b2, Value.int .i64 b3, Value.int .i64 b4, Value.int .i64 b5, Value.int .i64 b6, Value.int .i64 b7, Value.int .i64 b8, Value.int .i64 b9, Value.int .i64 b10] 29])) [(4, Value.bool false)] [.no] True (by kernel_rfl) trivial hS1 ?_
  refine l_nil rfl ?_
  refine then_n ?_
  refine wp_seq ?_
  refine c_drawn [] (by kernel_rfl) hS1 (fun w3 hS3 => ?_)
  refine t_seg (S := (fun x_ => St w x_ [Res.box blk2 [Value.int .i64 b0, Value.int .i64 b1, Value.int .i64 b2, Value.int .i64 b3, Value.int .i64 b4, Value.int .i64 b5, Value.int .i64 b6, Value.int .i64 b7, Value.int .i64 b8, Value.int .i64 b9, Value.int .i64 b10] 29])) [(0, .no), (2, .no), (3, .v (Value.agg #[Value.int .i64 b0, Value.int .i64 b1, Value.int .i64 b2, Value.int .i64 b3, Value.int .i64 b4, Value.int .i64 b5, Value.int .i64 b6, Value.int .i64 b7, Value.int .i64 b8, Value.int .i64 b9, Value.int .i64 b10])), (1, .v (Value.int .i64 b10))] 3 #[true, true, true, true, false, false, false] [(6, Value.int .i64 b10), (8, Value.agg #[Value.int .i64 b0, Value.int .i64 b1, Value.int .i64 b2, Value.int .i64 b3, Value.int .i64 b4, Value.int .i64 b5, Value.int .i64 b6, Value.int .i64 b7, Value.int .i64 b8, Value.int .i64 b9, Value.int .i64 b10]), (7, Value.int .i64 a), (5, Value.pointer (some ⟨blk2, 0 + 10, none⟩))] ((LoadsAt Try.prog (fun x_ => St w x_ [Res.box blk2 [Value.int .i64 b0, Value.int .i64 b1, Value.int .i64 b2, Value.int .i64 b3, Value.int .i64 b4, Value.int .i64 b5, Value.int .i64 b6, Value.int .i64 b7, Value.int .i64 b8, Value.int .i64 b9, Value.int .i64 b10] 29]) 29 ⟨blk2, 0, none⟩ (Value.agg #[Value.int .i64 b0, Value.int .i64 b1, Value.int .i64 b2, Value.int .i64 b3, Value.int .i64 b4, Value.int .i64 b5, Value.int .i64 b6, Value.int .i64 b7, Value.int .i64 b8, Value.int .i64 b9, Value.int .i64 b10])) ∧ (LoadsAt Try.prog (fun x_ => St w x_ [Res.box blk2 [Value.int .i64 b0, Value.int .i64 b1, Value.int .i64 b2, Value.int .i64 b3, Value.int .i64 b4, Value.int .i64 b5, Value.int .i64 b6, Value.int .i64 b7, Value.int .i64 b8, Value.int .i64 b9, Value.int .i64 b10] 29]) 3 ⟨blk2, 0 + 10, none⟩ (Value.int .i64 b10))) (by kernel_rfl) (Qpanic.then Qpanic.bp) rfl (by kernel_rfl) ⟨(ld_boxN (i := 0) (k := 11) rfl rfl rfl (by kernel_rfl)), (ld_box (i := 0) rfl rfl (by kernel_rfl))⟩ hS3 ?_
  refine a_op (i := 4) (fuel := 2) (listed' := #[true, true, true, true, true, false, false]) rfl rfl (by kernel_rfl) (by kernel_rfl) rfl (fun K hK => op_callv (d := some 9) rfl rfl ⟨_, Try.func19, by kernel_rfl, by kernel_rfl⟩ (vs := [Value.int .i64 a, Value.agg #[Value.int .i64 b0, Value.int .i64 b1, Value.int .i64 b2, Value.int .i64 b3, Value.int .i64 b4, Value.int .i64 b5, Value.int .i64 b6, Value.int .i64 b7, Value.int .i64 b8, Value.int .i64 b9, Value.int .i64 b10]]) (by kernel_rfl) (v := Value.int .i64 (smac a b0 b1 b2 b3 b4)) (SignalMAC_i_c a b0 b1 b2 b3 b4 b5 b6 b7 b8 b9 b10 (i64 (by omega) (by omega)) (i64 (by omega) (by omega)) (i64 (by omega) (by omega)) (i64 (by omega) (by omega)) (i64 (by omega) (by omega)) (i64 (by omega) (by omega)) (i64 (by omega) (by omega)) (i64 (by omega) (by omega)) (i64 (by omega) (by omega)) (i64 (by omega) (by omega)) (i64 (by omega) (by omega)) (i64 (by omega) (by omega)) _) hS3 (fun w4 hS4 => hK _ _ (fun _ => hS4) ?_))
  clear hK K
  have hsmq5 := smac_bd a b0 b1 b2 b3 b4
  refine t_seg (S := (fun x_ => St w x_ [Res.box blk2 [Value.int .i64 b0, Value.int .i64 b1, Value.int .i64 b2, Value.int .i64 b3, Value.int .i64 b4, Value.int .i64 b5, Value.int .i64 b6, Value.int .i64 b7, Value.int .i64 b8, Value.int .i64 b9, Value.int .i64 b10] 29])) [(5, .no), (6, .no)] 0 #[true, true, true, true, true, true, true] [(4, Value.bool (decide (b10 = (smac a b0 b1 b2 b3 b4)))), (10, Value.bool (decide (b10 = (smac a b0 b1 b2 b3 b4))))] True (by kernel_rfl) (Qpanic.then Qpanic.bp) rfl (by kernel_rfl) trivial hS4 ?_
  refine a_done (by kernel_rfl) ?_
  refine then_n ?_
  refine wp_ret ?_
  exact c_end (S := (fun x_ => St w x_ [Res.box blk2 [Value.int .i64 b0, Value.int .i64 b1, Value.int .i64 b2, Value.int .i64 b3, Value.int .i64 b4, Value.int .i64 b5, Value.int .i64 b6, Value.int .i64 b7, Value.int .i64 b8, Value.int .i64 b9, Value.int .i64 b10] 29])) (rs := [.tmp 4]) rfl [] (v := Value.bool (decide (b10 = (smac a b0 b1 b2 b3 b4)))) (C := True) (by kernel_rfl) trivial hS4 ((hS4.rv rfl))

theorem VerifySignal_s_c (a : Int) (b0 : Int) (b1 : Int) (b2 : Int) (b3 : Int) (b4 : Int) (b5 : Int) (b6 : Int) (b7 : Int) (b8 : Int) (b9 : Int) (b10 : Int) (ha : I64 a) (hb0 : I64 b0) (hb1 : I64 b1) (hb2 : I64 b2) (hb3 : I64 b3) (hb4 : I64 b4) (hb5 : I64 b5) (hb6 : I64 b6) (hb7 : I64 b7) (hb8 : I64 b8) (hb9 : I64 b9) (hb10 : I64 b10) (w : World) : Calls Try.prog 20 #[Value.int .i64 a, Value.agg #[Value.int .i64 b0, Value.int .i64 b1, Value.int .i64 b2, Value.int .i64 b3, Value.int .i64 b4, Value.int .i64 b5, Value.int .i64 b6, Value.int .i64 b7, Value.int .i64 b8, Value.int .i64 b9, Value.int .i64 b10]] w (RetV w (Value.bool (decide (b10 = (smac a b0 b1 b2 b3 b4))))) := by
  obtain ⟨ha1, ha2⟩ := ha
  obtain ⟨hb01, hb02⟩ := hb0
  obtain ⟨hb11, hb12⟩ := hb1
  obtain ⟨hb21, hb22⟩ := hb2
  obtain ⟨hb31, hb32⟩ := hb3
  obtain ⟨hb41, hb42⟩ := hb4
  obtain ⟨hb51, hb52⟩ := hb5
  obtain ⟨hb61, hb62⟩ := hb6
  obtain ⟨hb71, hb72⟩ := hb7
  obtain ⟨hb81, hb82⟩ := hb8
  obtain ⟨hb91, hb92⟩ := hb9
  obtain ⟨hb101, hb102⟩ := hb10
  refine calls_FA Try.func20 rfl (n := 11) rfl (l := [(0, Value.int .i64 a), (1, Value.agg #[Value.int .i64 b0, Value.int .i64 b1, Value.int .i64 b2, Value.int .i64 b3, Value.int .i64 b4, Value.int .i64 b5, Value.int .i64 b6, Value.int .i64 b7, Value.int .i64 b8, Value.int .i64 b9, Value.int .i64 b10])]) rfl (by simp) (fun g => ?_)
  have hS := St.init w
  refine wp_seq ?_
  refine c_reg ?_
  refine l_op rfl rfl (fun K hK => op_box (d := some 3) rfl rfl [Value.int .i64 b0, Value.int .i64 b1, Value.int .i64 b2, Value.int .i64 b3, Value.int .i64 b4, Value.int .i64 b5, Value.int .i64 b6, Value.int .i64 b7, Value.int .i64 b8, Value.int .i64 b9, Value.int .i64 b10] (by kernel_rfl) hS (fun blk2 w1 hS1 => hK _ _ ?_))
  clear hK K
  refine q_seg (S := (fun x_ => St w x_ [Res.box blk2 [Value.int .i64 b0, Value.int .i64 b1, Value.int .i64 b2, Value.int .i64 b3, Value.int .i64 b4, Value.int .i64 b5, Value.int .i64 b6, Value.int .i64 b7, Value.int .i64 b8, Value.int .i64 b9, Value.int .i64 b10] 29])) [(4, Value.bool false)] [.no] True (by kernel_rfl) trivial hS1 ?_
  refine l_nil rfl ?_
  refine then_n ?_
  refine wp_seq ?_
  refine c_drawn [] (by kernel_rfl) hS1 (fun w3 hS3 => ?_)
  refine t_seg (S := (fun x_ => St w x_ [Res.box blk2 [Value.int .i64 b0, Value.int .i64 b1, Value.int .i64 b2, Value.int .i64 b3, Value.int .i64 b4, Value.int .i64 b5, Value.int .i64 b6, Value.int .i64 b7, Value.int .i64 b8, Value.int .i64 b9, Value.int .i64 b10] 29])) [(0, .no), (2, .no), (3, .v (Value.agg #[Value.int .i64 b0, Value.int .i64 b1, Value.int .i64 b2, Value.int .i64 b3, Value.int .i64 b4, Value.int .i64 b5, Value.int .i64 b6, Value.int .i64 b7, Value.int .i64 b8, Value.int .i64 b9, Value.int .i64 b10])), (1, .v (Value.int .i64 b10))] 3 #[true, true, true, true, false, false, false] [(6, Value.int .i64 b10), (8, Value.agg #[Value.int .i64 b0, Value.int .i64 b1, Value.int .i64 b2, Value.int .i64 b3, Value.int .i64 b4, Value.int .i64 b5, Value.int .i64 b6, Value.int .i64 b7, Value.int .i64 b8, Value.int .i64 b9, Value.int .i64 b10]), (7, Value.int .i64 a), (5, Value.pointer (some ⟨blk2, 0 + 10, none⟩))] ((LoadsAt Try.prog (fun x_ => St w x_ [Res.box blk2 [Value.int .i64 b0, Value.int .i64 b1, Value.int .i64 b2, Value.int .i64 b3, Value.int .i64 b4, Value.int .i64 b5, Value.int .i64 b6, Value.int .i64 b7, Value.int .i64 b8, Value.int .i64 b9, Value.int .i64 b10] 29]) 29 ⟨blk2, 0, none⟩ (Value.agg #[Value.int .i64 b0, Value.int .i64 b1, Value.int .i64 b2, Value.int .i64 b3, Value.int .i64 b4, Value.int .i64 b5, Value.int .i64 b6, Value.int .i64 b7, Value.int .i64 b8, Value.int .i64 b9, Value.int .i64 b10])) ∧ (LoadsAt Try.prog (fun x_ => St w x_ [Res.box blk2 [Value.int .i64 b0, Value.int .i64 b1, Value.int .i64 b2, Value.int .i64 b3, Value.int .i64 b4, Value.int .i64 b5, Value.int .i64 b6, Value.int .i64 b7, Value.int .i64 b8, Value.int .i64 b9, Value.int .i64 b10] 29]) 3 ⟨blk2, 0 + 10, none⟩ (Value.int .i64 b10))) (by kernel_rfl) (Qpanic.then Qpanic.bp) rfl (by kernel_rfl) ⟨(ld_boxN (i := 0) (k := 11) rfl rfl rfl (by kernel_rfl)), (ld_box (i := 0) rfl rfl (by kernel_rfl))⟩ hS3 ?_
  refine a_op (i := 4) (fuel := 2) (listed' := #[true, true, true, true, true, false, false]) rfl rfl (by kernel_rfl) (by kernel_rfl) rfl (fun K hK => op_callv (d := some 9) rfl rfl ⟨_, Try.func18, by kernel_rfl, by kernel_rfl⟩ (vs := [Value.int .i64 a, Value.agg #[Value.int .i64 b0, Value.int .i64 b1, Value.int .i64 b2, Value.int .i64 b3, Value.int .i64 b4, Value.int .i64 b5, Value.int .i64 b6, Value.int .i64 b7, Value.int .i64 b8, Value.int .i64 b9, Value.int .i64 b10]]) (by kernel_rfl) (v := Value.int .i64 (smac a b0 b1 b2 b3 b4)) (SignalMAC_s_c a b0 b1 b2 b3 b4 b5 b6 b7 b8 b9 b10 (i64 (by omega) (by omega)) (i64 (by omega) (by omega)) (i64 (by omega) (by omega)) (i64 (by omega) (by omega)) (i64 (by omega) (by omega)) (i64 (by omega) (by omega)) (i64 (by omega) (by omega)) (i64 (by omega) (by omega)) (i64 (by omega) (by omega)) (i64 (by omega) (by omega)) (i64 (by omega) (by omega)) (i64 (by omega) (by omega)) _) hS3 (fun w4 hS4 => hK _ _ (fun _ => hS4) ?_))
  clear hK K
  have hsmq5 := smac_bd a b0 b1 b2 b3 b4
  refine t_seg (S := (fun x_ => St w x_ [Res.box blk2 [Value.int .i64 b0, Value.int .i64 b1, Value.int .i64 b2, Value.int .i64 b3, Value.int .i64 b4, Value.int .i64 b5, Value.int .i64 b6, Value.int .i64 b7, Value.int .i64 b8, Value.int .i64 b9, Value.int .i64 b10] 29])) [(5, .no), (6, .no)] 0 #[true, true, true, true, true, true, true] [(4, Value.bool (decide (b10 = (smac a b0 b1 b2 b3 b4)))), (10, Value.bool (decide (b10 = (smac a b0 b1 b2 b3 b4))))] True (by kernel_rfl) (Qpanic.then Qpanic.bp) rfl (by kernel_rfl) trivial hS4 ?_
  refine a_done (by kernel_rfl) ?_
  refine then_n ?_
  refine wp_ret ?_
  exact c_end (S := (fun x_ => St w x_ [Res.box blk2 [Value.int .i64 b0, Value.int .i64 b1, Value.int .i64 b2, Value.int .i64 b3, Value.int .i64 b4, Value.int .i64 b5, Value.int .i64 b6, Value.int .i64 b7, Value.int .i64 b8, Value.int .i64 b9, Value.int .i64 b10] 29])) (rs := [.tmp 4]) rfl [] (v := Value.bool (decide (b10 = (smac a b0 b1 b2 b3 b4)))) (C := True) (by kernel_rfl) trivial hS4 ((hS4.rv rfl))

theorem SignSignal_i_c (a : Int) (b0 : Int) (b1 : Int) (b2 : Int) (b3 : Int) (b4 : Int) (b5 : Int) (b6 : Int) (b7 : Int) (b8 : Int) (b9 : Int) (b10 : Int) (ha : I64 a) (hb0 : I64 b0) (hb1 : I64 b1) (hb2 : I64 b2) (hb3 : I64 b3) (hb4 : I64 b4) (hb5 : I64 b5) (hb6 : I64 b6) (hb7 : I64 b7) (hb8 : I64 b8) (hb9 : I64 b9) (hb10 : I64 b10) (w : World) : Calls Try.prog 23 #[Value.int .i64 a, Value.agg #[Value.int .i64 b0, Value.int .i64 b1, Value.int .i64 b2, Value.int .i64 b3, Value.int .i64 b4, Value.int .i64 b5, Value.int .i64 b6, Value.int .i64 b7, Value.int .i64 b8, Value.int .i64 b9, Value.int .i64 b10]] w (RetV w (Value.agg #[Value.int .i64 b0, Value.int .i64 b1, Value.int .i64 b2, Value.int .i64 b3, Value.int .i64 b4, Value.int .i64 b5, Value.int .i64 b6, Value.int .i64 b7, Value.int .i64 b8, Value.int .i64 b9, Value.int .i64 (smac a b0 b1 b2 b3 b4)])) := by
  obtain ⟨ha1, ha2⟩ := ha
  obtain ⟨hb01, hb02⟩ := hb0
  obtain ⟨hb11, hb12⟩ := hb1
  obtain ⟨hb21, hb22⟩ := hb2
  obtain ⟨hb31, hb32⟩ := hb3
  obtain ⟨hb41, hb42⟩ := hb4
  obtain ⟨hb51, hb52⟩ := hb5
  obtain ⟨hb61, hb62⟩ := hb6
  obtain ⟨hb71, hb72⟩ := hb7
  obtain ⟨hb81, hb82⟩ := hb8
  obtain ⟨hb91, hb92⟩ := hb9
  obtain ⟨hb101, hb102⟩ := hb10
  refine calls_FA Try.func23 rfl (n := 10) rfl (l := [(0, Value.int .i64 a), (1, Value.agg #[Value.int .i64 b0, Value.int .i64 b1, Value.int .i64 b2, Value.int .i64 b3, Value.int .i64 b4, Value.int .i64 b5, Value.int .i64 b6, Value.int .i64 b7, Value.int .i64 b8, Value.int .i64 b9, Value.int .i64 b10])]) rfl (by simp) (fun g => ?_)
  have hS := St.init w
  refine wp_seq ?_
  refine c_reg ?_
  refine l_op rfl rfl (fun K hK => op_box (d := some 3) rfl rfl [Value.int .i64 b0, Value.int .i64 b1, Value.int .i64 b2, Value.int .i64 b3, Value.int .i64 b4, Value.int .i64 b5, Value.int .i64 b6, Value.int .i64 b7, Value.int .i64 b8, Value.int .i64 b9, Value.int .i64 b10] (by kernel_rfl) hS (fun blk2 w1 hS1 => hK _ _ ?_))
  clear hK K
  refine l_op rfl rfl (fun K hK => op_alloc (d := some 4) rfl rfl [Value.int .i64 0, Value.int .i64 0, Value.int .i64 0, Value.int .i64 0, Value.int .i64 0, Value.int .i64 0, Value.int .i64 0, Value.int .i64 0, Value.int .i64 0, Value.int .i64 0, Value.int .i64 0] (by kernel_rfl) hS1 (fun blk4 w3 hS3 => hK _ _ ?_))
  clear hK K
  refine l_nil rfl ?_
  refine then_n ?_
  refine wp_seq ?_
  refine c_reg ?_
  refine q_seg (S := (fun x_ => St w x_ [Res.box blk4 [Value.int .i64 0, Value.int .i64 0, Value.int .i64 0, Value.int .i64 0, Value.int .i64 0, Value.int .i64 0, Value.int .i64 0, Value.int .i64 0, Value.int .i64 0, Value.int .i64 0, Value.int .i64 0] 29, Res.box blk2 [Value.int .i64 b0, Value.int .i64 b1, Value.int .i64 b2, Value.int .i64 b3, Value.int .i64 b4, Value.int .i64 b5, Value.int .i64 b6, Value.int .i64 b7, Value.int .i64 b8, Value.int .i64 b9, Value.int .i64 b10] 29])) [(6, Value.agg #[Value.int .i64 b0, Value.int .i64 b1, Value.int .i64 b2, Value.int .i64 b3, Value.int .i64 b4, Value.int .i64 b5, Value.int .i64 b6, Value.int .i64 b7, Value.int .i64 b8, Value.int .i64 b9, Value.int .i64 b10]), (5, Value.int .i64 a)] [.no, .v (Value.agg #[Value.int .i64 b0, Value.int .i64 b1, Value.int .i64 b2, Value.int .i64 b3, Value.int .i64 b4, Value.int .i64 b5, Value.int .i64 b6, Value.int .i64 b7, Value.int .i64 b8, Value.int .i64 b9, Value.int .i64 b10])] ((LoadsAt Try.prog (fun x_ => St w x_ [Res.box blk4 [Value.int .i64 0, Value.int .i64 0, Value.int .i64 0, Value.int .i64 0, Value.int .i64 0, Value.int .i64 0, Value.int .i64 0, Value.int .i64 0, Value.int .i64 0, Value.int .i64 0, Value.int .i64 0] 29, Res.box blk2 [Value.int .i64 b0, Value.int .i64 b1, Value.int .i64 b2, Value.int .i64 b3, Value.int .i64 b4, Value.int .i64 b5, Value.int .i64 b6, Value.int .i64 b7, Value.int .i64 b8, Value.int .i64 b9, Value.int .i64 b10] 29]) 29 ⟨blk2, 0, none⟩ (Value.agg #[Value.int .i64 b0, Value.int .i64 b1, Value.int .i64 b2, Value.int .i64 b3, Value.int .i64 b4, Value.int .i64 b5, Value.int .i64 b6, Value.int .i64 b7, Value.int .i64 b8, Value.int .i64 b9, Value.int .i64 b10]))) (by kernel_rfl) (ld_boxN (i := 1) (k := 11) rfl rfl rfl (by kernel_rfl)) hS3 ?_
  refine l_op rfl rfl (fun K hK => op_callv (d := some 7) rfl rfl ⟨_, Try.func19, by kernel_rfl, by kernel_rfl⟩ (vs := [Value.int .i64 a, Value.agg #[Value.int .i64 b0, Value.int .i64 b1, Value.int .i64 b2, Value.int .i64 b3, Value.int .i64 b4, Value.int .i64 b5, Value.int .i64 b6, Value.int .i64 b7, Value.int .i64 b8, Value.int .i64 b9, Value.int .i64 b10]]) (by kernel_rfl) (v := Value.int .i64 (smac a b0 b1 b2 b3 b4)) (SignalMAC_i_c a b0 b1 b2 b3 b4 b5 b6 b7 b8 b9 b10 (i64 (by omega) (by omega)) (i64 (by omega) (by omega)) (i64 (by omega) (by omega)) (i64 (by omega) (by omega)) (i64 (by omega) (by omega)) (i64 (by omega) (by omega)) (i64 (by omega) (by omega)) (i64 (by omega) (by omega)) (i64 (by omega) (by omega)) (i64 (by omega) (by omega)) (i64 (by omega) (by omega)) (i64 (by omega) (by omega)) _) hS3 (fun w5 hS5 => hK _ _ ?_))
  clear hK K
  have hsmq6 := smac_bd a b0 b1 b2 b3 b4
  refine q_seg (S := (fun x_ => St w x_ [Res.box blk4 [Value.int .i64 0, Value.int .i64 0, Value.int .i64 0, Value.int .i64 0, Value.int .i64 0, Value.int .i64 0, Value.int .i64 0, Value.int .i64 0, Value.int .i64 0, Value.int .i64 0, Value.int .i64 0] 29, Res.box blk2 [Value.int .i64 b0, Value.int .i64 b1, Value.int .i64 b2, Value.int .i64 b3, Value.int .i64 b4, Value.int .i64 b5, Value.int .i64 b6, Value.int .i64 b7, Value.int .i64 b8, Value.int .i64 b9, Value.int .i64 b10] 29])) [(8, Value.pointer (some ⟨blk2, 0 + 10, none⟩))] [.no] True (by kernel_rfl) trivial hS5 ?_
  refine l_op rfl rfl (fun K hK => op_store (d := none) rfl rfl (i := 1) (b := blk2) (off := 0 + 10) (cs := [Value.int .i64 b0, Value.int .i64 b1, Value.int .i64 b2, Value.int .i64 b3, Value.int .i64 b4, Value.int .i64 b5, Value.int .i64 b6, Value.int .i64 b7, Value.int .i64 b8, Value.int .i64 b9, Value.int .i64 b10]) (bt := 29) (by kernel_rfl) (by kernel_rfl) [Value.int .i64 (smac a b0 b1 b2 b3 b4)] (by kernel_rfl) (by kernel_rfl) (Nat.le_of_ble_eq_true (by kernel_rfl)) (by kernel_rfl) [Res.box blk4 [Value.int .i64 0, Value.int .i64 0, Value.int .i64 0, Value.int .i64 0, Value.int .i64 0, Value.int .i64 0, Value.int .i64 0, Value.int .i64 0, Value.int .i64 0, Value.int .i64 0, Value.int .i64 0] 29, Res.box blk2 [Value.int .i64 b0, Value.int .i64 b1, Value.int .i64 b2, Value.int .i64 b3, Value.int .i64 b4, Value.int .i64 b5, Value.int .i64 b6, Value.int .i64 b7, Value.int .i64 b8, Value.int .i64 b9, Value.int .i64 (smac a b0 b1 b2 b3 b4)] 29] (by kernel_rfl) hS5 (fun w7 hS7 => hK _ _ ?_))
  clear hK K
  refine l_nil rfl ?_
  refine then_n ?_
  refine wp_seq ?_
  refine c_reg ?_
  refine q_seg (S := (fun x_ => St w x_ [Res.box blk4 [Value.int .i64 0, Value.int .i64 0, Value.int .i64 0, Value.int .i64 0, Value.int .i64 0, Value.int .i64 0, Value.int .i64 0, Value.int .i64 0, Value.int .i64 0, Value.int .i64 0, Value.int .i64 0] 29, Res.box blk2 [Value.int .i64 b0, Value.int .i64 b1, Value.int .i64 b2, Value.int .i64 b3, Value.int .i64 b4, Value.int .i64 b5, Value.int .i64 b6, Value.int .i64 b7, Value.int .i64 b8, Value.int .i64 b9, Value.int .i64 (smac a b0 b1 b2 b3 b4)] 29])) [(9, Value.agg #[Value.int .i64 b0, Value.int .i64 b1, Value.int .i64 b2, Value.int .i64 b3, Value.int .i64 b4, Value.int .i64 b5, Value.int .i64 b6, Value.int .i64 b7, Value.int .i64 b8, Value.int .i64 b9, Value.int .i64 (smac a b0 b1 b2 b3 b4)])] [.v (Value.agg #[Value.int .i64 b0, Value.int .i64 b1, Value.int .i64 b2, Value.int .i64 b3, Value.int .i64 b4, Value.int .i64 b5, Value.int .i64 b6, Value.int .i64 b7, Value.int .i64 b8, Value.int .i64 b9, Value.int .i64 (smac a b0 b1 b2 b3 b4)])] ((LoadsAt Try.prog (fun x_ => St w x_ [Res.box blk4 [Value.int .i64 0, Value.int .i64 0, Value.int .i64 0, Value.int .i64 0, Value.int .i64 0, Value.int .i64 0, Value.int .i64 0, Value.int .i64 0, Value.int .i64 0, Value.int .i64 0, Value.int .i64 0] 29, Res.box blk2 [Value.int .i64 b0, Value.int .i64 b1, Value.int .i64 b2, Value.int .i64 b3, Value.int .i64 b4, Value.int .i64 b5, Value.int .i64 b6, Value.int .i64 b7, Value.int .i64 b8, Value.int .i64 b9, Value.int .i64 (smac a b0 b1 b2 b3 b4)] 29]) 29 ⟨blk2, 0, none⟩ (Value.agg #[Value.int .i64 b0, Value.int .i64 b1, Value.int .i64 b2, Value.int .i64 b3, Value.int .i64 b4, Value.int .i64 b5, Value.int .i64 b6, Value.int .i64 b7, Value.int .i64 b8, Value.int .i64 b9, Value.int .i64 (smac a b0 b1 b2 b3 b4)]))) (by kernel_rfl) (ld_boxN (i := 1) (k := 11) rfl rfl rfl (by kernel_rfl)) hS7 ?_
  refine l_op rfl rfl (fun K hK => op_store (d := none) rfl rfl (i := 0) (b := blk4) (off := 0) (cs := [Value.int .i64 0, Value.int .i64 0, Value.int .i64 0, Value.int .i64 0, Value.int .i64 0, Value.int .i64 0, Value.int .i64 0, Value.int .i64 0, Value.int .i64 0, Value.int .i64 0, Value.int .i64 0]) (bt := 29) (by kernel_rfl) (by kernel_rfl) [Value.int .i64 b0, Value.int .i64 b1, Value.int .i64 b2, Value.int .i64 b3, Value.int .i64 b4, Value.int .i64 b5, Value.int .i64 b6, Value.int .i64 b7, Value.int .i64 b8, Value.int .i64 b9, Value.int .i64 (smac a b0 b1 b2 b3 b4)] (by kernel_rfl) (by kernel_rfl) (Nat.le_of_ble_eq_true (by kernel_rfl)) (by kernel_rfl) [Res.box blk4 [Value.int .i64 b0, Value.int .i64 b1, Value.int .i64 b2, Value.int .i64 b3, Value.int .i64 b4, Value.int .i64 b5, Value.int .i64 b6, Value.int .i64 b7, Value.int .i64 b8, Value.int .i64 b9, Value.int .i64 (smac a b0 b1 b2 b3 b4)] 29, Res.box blk2 [Value.int .i64 b0, Value.int .i64 b1, Value.int .i64 b2, Value.int .i64 b3, Value.int .i64 b4, Value.int .i64 b5, Value.int .i64 b6, Value.int .i64 b7, Value.int .i64 b8, Value.int .i64 b9, Value.int .i64 (smac a b0 b1 b2 b3 b4)] 29] (by kernel_rfl) hS7 (fun w8 hS8 => hK _ _ ?_))
  clear hK K
  refine l_nil rfl ?_
  refine then_n ?_
  refine wp_ret ?_
  exact c_end (S := (fun x_ => St w x_ [Res.box blk4 [Value.int .i64 b0, Value.int .i64 b1, Value.int .i64 b2, Value.int .i64 b3, Value.int .i64 b4, Value.int .i64 b5, Value.int .i64 b6, Value.int .i64 b7, Value.int .i64 b8, Value.int .i64 b9, Value.int .i64 (smac a b0 b1 b2 b3 b4)] 29, Res.box blk2 [Value.int .i64 b0, Value.int .i64 b1, Value.int .i64 b2, Value.int .i64 b3, Value.int .i64 b4, Value.int .i64 b5, Value.int .i64 b6, Value.int .i64 b7, Value.int .i64 b8, Value.int .i64 b9, Value.int .i64 (smac a b0 b1 b2 b3 b4)] 29])) (rs := [.cell 4 29]) rfl [Value.agg #[Value.int .i64 b0, Value.int .i64 b1, Value.int .i64 b2, Value.int .i64 b3, Value.int .i64 b4, Value.int .i64 b5, Value.int .i64 b6, Value.int .i64 b7, Value.int .i64 b8, Value.int .i64 b9, Value.int .i64 (smac a b0 b1 b2 b3 b4)]] (v := Value.agg #[Value.int .i64 b0, Value.int .i64 b1, Value.int .i64 b2, Value.int .i64 b3, Value.int .i64 b4, Value.int .i64 b5, Value.int .i64 b6, Value.int .i64 b7, Value.int .i64 b8, Value.int .i64 b9, Value.int .i64 (smac a b0 b1 b2 b3 b4)]) (C := ((LoadsAt Try.prog (fun x_ => St w x_ [Res.box blk4 [Value.int .i64 b0, Value.int .i64 b1, Value.int .i64 b2, Value.int .i64 b3, Value.int .i64 b4, Value.int .i64 b5, Value.int .i64 b6, Value.int .i64 b7, Value.int .i64 b8, Value.int .i64 b9, Value.int .i64 (smac a b0 b1 b2 b3 b4)] 29, Res.box blk2 [Value.int .i64 b0, Value.int .i64 b1, Value.int .i64 b2, Value.int .i64 b3, Value.int .i64 b4, Value.int .i64 b5, Value.int .i64 b6, Value.int .i64 b7, Value.int .i64 b8, Value.int .i64 b9, Value.int .i64 (smac a b0 b1 b2 b3 b4)] 29]) 29 ⟨blk4, 0, none⟩ (Value.agg #[Value.int .i64 b0, Value.int .i64 b1, Value.int .i64 b2, Value.int .i64 b3, Value.int .i64 b4, Value.int .i64 b5, Value.int .i64 b6, Value.int .i64 b7, Value.int .i64 b8, Value.int .i64 b9, Value.int .i64 (smac a b0 b1 b2 b3 b4)])))) (by kernel_rfl) (ld_boxN (i := 0) (k := 11) rfl rfl rfl (by kernel_rfl)) hS8 ((hS8.rv rfl))

theorem SignSignal_s_c (a : Int) (b0 : Int) (b1 : Int) (b2 : Int) (b3 : Int) (b4 : Int) (b5 : Int) (b6 : Int) (b7 : Int) (b8 : Int) (b9 : Int) (b10 : Int) (ha : I64 a) (hb0 : I64 b0) (hb1 : I64 b1) (hb2 : I64 b2) (hb3 : I64 b3) (hb4 : I64 b4) (hb5 : I64 b5) (hb6 : I64 b6) (hb7 : I64 b7) (hb8 : I64 b8) (hb9 : I64 b9) (hb10 : I64 b10) (w : World) : Calls Try.prog 22 #[Value.int .i64 a, Value.agg #[Value.int .i64 b0, Value.int .i64 b1, Value.int .i64 b2, Value.int .i64 b3, Value.int .i64 b4, Value.int .i64 b5, Value.int .i64 b6, Value.int .i64 b7, Value.int .i64 b8, Value.int .i64 b9, Value.int .i64 b10]] w (RetV w (Value.agg #[Value.int .i64 b0, Value.int .i64 b1, Value.int .i64 b2, Value.int .i64 b3, Value.int .i64 b4, Value.int .i64 b5, Value.int .i64 b6, Value.int .i64 b7, Value.int .i64 b8, Value.int .i64 b9, Value.int .i64 (smac a b0 b1 b2 b3 b4)])) := by
  obtain ⟨ha1, ha2⟩ := ha
  obtain ⟨hb01, hb02⟩ := hb0
  obtain ⟨hb11, hb12⟩ := hb1
  obtain ⟨hb21, hb22⟩ := hb2
  obtain ⟨hb31, hb32⟩ := hb3
  obtain ⟨hb41, hb42⟩ := hb4
  obtain ⟨hb51, hb52⟩ := hb5
  obtain ⟨hb61, hb62⟩ := hb6
  obtain ⟨hb71, hb72⟩ := hb7
  obtain ⟨hb81, hb82⟩ := hb8
  obtain ⟨hb91, hb92⟩ := hb9
  obtain ⟨hb101, hb102⟩ := hb10
  refine calls_FA Try.func22 rfl (n := 12) rfl (l := [(0, Value.int .i64 a), (1, Value.agg #[Value.int .i64 b0, Value.int .i64 b1, Value.int .i64 b2, Value.int .i64 b3, Value.int .i64 b4, Value.int .i64 b5, Value.int .i64 b6, Value.int .i64 b7, Value.int .i64 b8, Value.int .i64 b9, Value.int .i64 b10])]) rfl (by simp) (fun g => ?_)
  have hS := St.init w
  refine wp_seq ?_
  refine c_reg ?_
  refine l_op rfl rfl (fun K hK => op_box (d := some 3) rfl rfl [Value.int .i64 b0, Value.int .i64 b1, Value.int .i64 b2, Value.int .i64 b3, Value.int .i64 b4, Value.int .i64 b5, Value.int .i64 b6, Value.int .i64 b7, Value.int .i64 b8, Value.int .i64 b9, Value.int .i64 b10] (by kernel_rfl) hS (fun blk2 w1 hS1 => hK _ _ ?_))
  clear hK K
  refine l_op rfl rfl (fun K hK => op_alloc (d := some 4) rfl rfl [Value.int .i64 0, Value.int .i64 0, Value.int .i64 0, Value.int .i64 0, Value.int .i64 0, Value.int .i64 0, Value.int .i64 0, Value.int .i64 0, Value.int .i64 0, Value.int .i64 0, Value.int .i64 0] (by kernel_rfl) hS1 (fun blk4 w3 hS3 => hK _ _ ?_))
  clear hK K
  refine l_nil rfl ?_
  refine then_n ?_
  refine wp_seq ?_
  refine c_reg ?_
  refine q_seg (S := (fun x_ => St w x_ [Res.box blk4 [Value.int .i64 0, Value.int .i64 0, Value.int .i64 0, Value.int .i64 0, Value.int .i64 0, Value.int .i64 0, Value.int .i64 0, Value.int .i64 0, Value.int .i64 0, Value.int .i64 0, Value.int .i64 0] 29, Res.box blk2 [Value.int .i64 b0, Value.int .i64 b1, Value.int .i64 b2, Value.int .i64 b3, Value.int .i64 b4, Value.int .i64 b5, Value.int .i64 b6, Value.int .i64 b7, Value.int .i64 b8, Value.int .i64 b9, Value.int .i64 b10] 29])) [(6, Value.agg #[Value.int .i64 b0, Value.int .i64 b1, Value.int .i64 b2, Value.int .i64 b3, Value.int .i64 b4, Value.int .i64 b5, Value.int .i64 b6, Value.int .i64 b7, Value.int .i64 b8, Value.int .i64 b9, Value.int .i64 b10])] [.v (Value.agg #[Value.int .i64 b0, Value.int .i64 b1, Value.int .i64 b2, Value.int .i64 b3, Value.int .i64 b4, Value.int .i64 b5, Value.int .i64 b6, Value.int .i64 b7, Value.int .i64 b8, Value.int .i64 b9, Value.int .i64 b10])] ((LoadsAt Try.prog (fun x_ => St w x_ [Res.box blk4 [Value.int .i64 0, Value.int .i64 0, Value.int .i64 0, Value.int .i64 0, Value.int .i64 0, Value.int .i64 0, Value.int .i64 0, Value.int .i64 0, Value.int .i64 0, Value.int .i64 0, Value.int .i64 0] 29, Res.box blk2 [Value.int .i64 b0, Value.int .i64 b1, Value.int .i64 b2, Value.int .i64 b3, Value.int .i64 b4, Value.int .i64 b5, Value.int .i64 b6, Value.int .i64 b7, Value.int .i64 b8, Value.int .i64 b9, Value.int .i64 b10] 29]) 29 ⟨blk2, 0, none⟩ (Value.agg #[Value.int .i64 b0, Value.int .i64 b1, Value.int .i64 b2, Value.int .i64 b3, Value.int .i64 b4, Value.int .i64 b5, Value.int .i64 b6, Value.int .i64 b7, Value.int .i64 b8, Value.int .i64 b9, Value.int .i64 b10]))) (by kernel_rfl) (ld_boxN (i := 1) (k := 11) rfl rfl rfl (by kernel_rfl)) hS3 ?_
  refine l_op rfl rfl (fun K hK => op_alloc (d := some 5) rfl rfl [Value.int .i64 0, Value.int .i64 0, Value.int .i64 0, Value.int .i64 0, Value.int .i64 0, Value.int .i64 0, Value.int .i64 0, Value.int .i64 0, Value.int .i64 0, Value.int .i64 0, Value.int .i64 0] (by kernel_rfl) hS3 (fun blk6 w5 hS5 => hK _ _ ?_))
  clear hK K
  refine l_op rfl rfl (fun K hK => op_store (d := none) rfl rfl (i := 0) (b := blk6) (off := 0) (cs := [Value.int .i64 0, Value.int .i64 0, Value.int .i64 0, Value.int .i64 0, Value.int .i64 0, Value.int .i64 0, Value.int .i64 0, Value.int .i64 0, Value.int .i64 0, Value.int .i64 0, Value.int .i64 0]) (bt := 29) (by kernel_rfl) (by kernel_rfl) [Value.int .i64 b0, Value.int .i64 b1, Value.int .i64 b2, Value.int .i64 b3, Value.int .i64 b4, Value.int .i64 b5, Value.int .i64 b6, Value.int .i64 b7, Value.int .i64 b8, Value.int .i64 b9, Value.int .i64 b10] (by kernel_rfl) (by kernel_rfl) (Nat.le_of_ble_eq_true (by kernel_rfl)) (by kernel_rfl) [Res.box blk6 [Value.int .i64 b0, Value.int .i64 b1, Value.int .i64 b2, Value.int .i64 b3, Value.int .i64 b4, Value.int .i64 b5, Value.int .i64 b6, Value.int .i64 b7, Value.int .i64 b8, Value.int .i64 b9, Value.int .i64 b10] 29, Res.box blk4 [Value.int .i64 0, Value.int .i64 0, Value.int .i64 0, Value.int .i64 0, Value.int .i64 0, Value.int .i64 0, Value.int .i64 0, Value.int .i64 0, Value.int .i64 0, Value.int .i64 0, Value.int .i64 0] 29, Res.box blk2 [Value.int .i64 b0, Value.int .i64 b1, Value.int .i64 b2, Value.int .i64 b3, Value.int .i64 b4, Value.int .i64 b5, Value.int .i64 b6, Value.int .i64 b7, Value.int .i64 b8, Value.int .i64 b9, Value.int .i64 b10] 29] (by kernel_rfl) hS5 (fun w7 hS7 => hK _ _ ?_))
  clear hK K
  refine l_nil rfl ?_
  refine then_n ?_
  refine wp_seq ?_
  refine c_reg ?_
  refine q_seg (S := (fun x_ => St w x_ [Res.box blk6 [Value.int .i64 b0, Value.int .i64 b1, Value.int .i64 b2, Value.int .i64 b3, Value.int .i64 b4, Value.int .i64 b5, Value.int .i64 b6, Value.int .i64 b7, Value.int .i64 b8, Value.int .i64 b9, Value.int .i64 b10] 29, Res.box blk4 [Value.int .i64 0, Value.int .i64 0, Value.int .i64 0, Value.int .i64 0, Value.int .i64 0, Value.int .i64 0, Value.int .i64 0, Value.int .i64 0, Value.int .i64 0, Value.int .i64 0, Value.int .i64 0] 29, Res.box blk2 [Value.int .i64 b0, Value.int .i64 b1, Value.int .i64 b2, Value.int .i64 b3, Value.int .i64 b4, Value.int .i64 b5, Value.int .i64 b6, Value.int .i64 b7, Value.int .i64 b8, Value.int .i64 b9, Value.int .i64 b10] 29])) [(8, Value.agg #[Value.int .i64 b0, Value.int .i64 b1, Value.int .i64 b2, Value.int .i64 b3, Value.int .i64 b4, Value.int .i64 b5, Value.int .i64 b6, Value.int .i64 b7, Value.int .i64 b8, Value.int .i64 b9, Value.int .i64 b10]), (7, Value.int .i64 a)] [.no, .v (Value.agg #[Value.int .i64 b0, Value.int .i64 b1, Value.int .i64 b2, Value.int .i64 b3, Value.int .i64 b4, Value.int .i64 b5, Value.int .i64 b6, Value.int .i64 b7, Value.int .i64 b8, Value.int .i64 b9, Value.int .i64 b10])] ((LoadsAt Try.prog (fun x_ => St w x_ [Res.box blk6 [Value.int .i64 b0, Value.int .i64 b1, Value.int .i64 b2, Value.int .i64 b3, Value.int .i64 b4, Value.int .i64 b5, Value.int .i64 b6, Value.int .i64 b7, Value.int .i64 b8, Value.int .i64 b9, Value.int .i64 b10] 29, Res.box blk4 [Value.int .i64 0, Value.int .i64 0, Value.int .i64 0, Value.int .i64 0, Value.int .i64 0, Value.int .i64 0, Value.int .i64 0, Value.int .i64 0, Value.int .i64 0, Value.int .i64 0, Value.int .i64 0] 29, Res.box blk2 [Value.int .i64 b0, Value.int .i64 b1, Value.int .i64 b2, Value.int .i64 b3, Value.int .i64 b4, Value.int .i64 b5, Value.int .i64 b6, Value.int .i64 b7, Value.int .i64 b8, Value.int .i64 b9, Value.int .i64 b10] 29]) 29 ⟨blk2, 0, none⟩ (Value.agg #[Value.int .i64 b0, Value.int .i64 b1, Value.int .i64 b2, Value.int .i64 b3, Value.int .i64 b4, Value.int .i64 b5, Value.int .i64 b6, Value.int .i64 b7, Value.int .i64 b8, Value.int .i64 b9, Value.int .i64 b10]))) (by kernel_rfl) (ld_boxN (i := 2) (k := 11) rfl rfl rfl (by kernel_rfl)) hS7 ?_
  refine l_op rfl rfl (fun K hK => op_callv (d := some 9) rfl rfl ⟨_, Try.func18, by kernel_rfl, by kernel_rfl⟩ (vs := [Value.int .i64 a, Value.agg #[Value.int .i64 b0, Value.int .i64 b1, Value.int .i64 b2, Value.int .i64 b3, Value.int .i64 b4, Value.int .i64 b5, Value.int .i64 b6, Value.int .i64 b7, Value.int .i64 b8, Value.int .i64 b9, Value.int .i64 b10]]) (by kernel_rfl) (v := Value.int .i64 (smac a b0 b1 b2 b3 b4)) (SignalMAC_s_c a b0 b1 b2 b3 b4 b5 b6 b7 b8 b9 b10 (i64 (by omega) (by omega)) (i64 (by omega) (by omega)) (i64 (by omega) (by omega)) (i64 (by omega) (by omega)) (i64 (by omega) (by omega)) (i64 (by omega) (by omega)) (i64 (by omega) (by omega)) (i64 (by omega) (by omega)) (i64 (by omega) (by omega)) (i64 (by omega) (by omega)) (i64 (by omega) (by omega)) (i64 (by omega) (by omega)) _) hS7 (fun w8 hS8 => hK _ _ ?_))
  clear hK K
  have hsmq9 := smac_bd a b0 b1 b2 b3 b4
  refine q_seg (S := (fun x_ => St w x_ [Res.box blk6 [Value.int .i64 b0, Value.int .i64 b1, Value.int .i64 b2, Value.int .i64 b3, Value.int .i64 b4, Value.int .i64 b5, Value.int .i64 b6, Value.int .i64 b7, Value.int .i64 b8, Value.int .i64 b9, Value.int .i64 b10] 29, Res.box blk4 [Value.int .i64 0, Value.int .i64 0, Value.int .i64 0, Value.int .i64 0, Value.int .i64 0, Value.int .i64 0, Value.int .i64 0, Value.int .i64 0, Value.int .i64 0, Value.int .i64 0, Value.int .i64 0] 29, Res.box blk2 [Value.int .i64 b0, Value.int .i64 b1, Value.int .i64 b2, Value.int .i64 b3, Value.int .i64 b4, Value.int .i64 b5, Value.int .i64 b6, Value.int .i64 b7, Value.int .i64 b8, Value.int .i64 b9, Value.int .i64 b10] 29])) [(10, Value.pointer (some ⟨blk6, 0 + 10, none⟩))] [.no] True (by kernel_rfl) trivial hS8 ?_
  refine l_op rfl rfl (fun K hK => op_store (d := none) rfl rfl (i := 0) (b := blk6) (off := 0 + 10) (cs := [Value.int .i64 b0, Value.int .i64 b1, Value.int .i64 b2, Value.int .i64 b3, Value.int .i64 b4, Value.int .i64 b5, Value.int .i64 b6, Value.int .i64 b7, Value.int .i64 b8, Value.int .i64 b9, Value.int .i64 b10]) (bt := 29) (by kernel_rfl) (by kernel_rfl) [Value.int .i64 (smac a b0 b1 b2 b3 b4)] (by kernel_rfl) (by kernel_rfl) (Nat.le_of_ble_eq_true (by kernel_rfl)) (by kernel_rfl) [Res.box blk6 [Value.int .i64 b0, Value.int .i64 b1, Value.int .i64 b2, Value.int .i64 b3, Value.int .i64 b4, Value.int .i64 b5, Value.int .i64 b6, Value.int .i64 b7, Value.int .i64 b8, Value.int .i64 b9, Value.int .i64 (smac a b0 b1 b2 b3 b4)] 29, Res.box blk4 [Value.int .i64 0, Value.int .i64 0, Value.int .i64 0, Value.int .i64 0, Value.int .i64 0, Value.int .i64 0, Value.int .i64 0, Value.int .i64 0, Value.int .i64 0, Value.int .i64 0, Value.int .i64 0] 29, Res.box blk2 [Value.int .i64 b0, Value.int .i64 b1, Value.int .i64 b2, Value.int .i64 b3, Value.int .i64 b4, Value.int .i64 b5, Value.int .i64 b6, Value.int .i64 b7, Value.int .i64 b8, Value.int .i64 b9, Value.int .i64 b10] 29] (by kernel_rfl) hS8 (fun w10 hS10 => hK _ _ ?_))
  clear hK K
  refine l_nil rfl ?_
  refine then_n ?_
  refine wp_seq ?_
  refine c_reg ?_
  refine q_seg (S := (fun x_ => St w x_ [Res.box blk6 [Value.int .i64 b0, Value.int .i64 b1, Value.int .i64 b2, Value.int .i64 b3, Value.int .i64 b4, Value.int .i64 b5, Value.int .i64 b6, Value.int .i64 b7, Value.int .i64 b8, Value.int .i64 b9, Value.int .i64 (smac a b0 b1 b2 b3 b4)] 29, Res.box blk4 [Value.int .i64 0, Value.int .i64 0, Value.int .i64 0, Value.int .i64 0, Value.int .i64 0, Value.int .i64 0, Value.int .i64 0, Value.int .i64 0, Value.int .i64 0, Value.int .i64 0, Value.int .i64 0] 29, Res.box blk2 [Value.int .i64 b0, Value.int .i64 b1, Value.int .i64 b2, Value.int .i64 b3, Value.int .i64 b4, Value.int .i64 b5, Value.int .i64 b6, Value.int .i64 b7, Value.int .i64 b8, Value.int .i64 b9, Value.int .i64 b10] 29])) [(11, Value.agg #[Value.int .i64 b0, Value.int .i64 b1, Value.int .i64 b2, Value.int .i64 b3, Value.int .i64 b4, Value.int .i64 b5, Value.int .i64 b6, Value.int .i64 b7, Value.int .i64 b8, Value.int .i64 b9, Value.int .i64 (smac a b0 b1 b2 b3 b4)])] [.v (Value.agg #[Value.int .i64 b0, Value.int .i64 b1, Value.int .i64 b2, Value.int .i64 b3, Value.int .i64 b4, Value.int .i64 b5, Value.int .i64 b6, Value.int .i64 b7, Value.int .i64 b8, Value.int .i64 b9, Value.int .i64 (smac a b0 b1 b2 b3 b4)])] ((LoadsAt Try.prog (fun x_ => St w x_ [Res.box blk6 [Value.int .i64 b0, Value.int .i64 b1, Value.int .i64 b2, Value.int .i64 b3, Value.int .i64 b4, Value.int .i64 b5, Value.int .i64 b6, Value.int .i64 b7, Value.int .i64 b8, Value.int .i64 b9, Value.int .i64 (smac a b0 b1 b2 b3 b4)] 29, Res.box blk4 [Value.int .i64 0, Value.int .i64 0, Value.int .i64 0, Value.int .i64 0, Value.int .i64 0, Value.int .i64 0, Value.int .i64 0, Value.int .i64 0, Value.int .i64 0, Value.int .i64 0, Value.int .i64 0] 29, Res.box blk2 [Value.int .i64 b0, Value.int .i64 b1, Value.int .i64 b2, Value.int .i64 b3, Value.int .i64 b4, Value.int .i64 b5, Value.int .i64 b6, Value.int .i64 b7, Value.int .i64 b8, Value.int .i64 b9, Value.int .i64 b10] 29]) 29 ⟨blk6, 0, none⟩ (Value.agg #[Value.int .i64 b0, Value.int .i64 b1, Value.int .i64 b2, Value.int .i64 b3, Value.int .i64 b4, Value.int .i64 b5, Value.int .i64 b6, Value.int .i64 b7, Value.int .i64 b8, Value.int .i64 b9, Value.int .i64 (smac a b0 b1 b2 b3 b4)]))) (by kernel_rfl) (ld_boxN (i := 0) (k := 11) rfl rfl rfl (by kernel_rfl)) hS10 ?_
  refine l_op rfl rfl (fun K hK => op_store (d := none) rfl rfl (i := 1) (b := blk4) (off := 0) (cs := [Value.int .i64 0, Value.int .i64 0, Value.int .i64 0, Value.int .i64 0, Value.int .i64 0, Value.int .i64 0, Value.int .i64 0, Value.int .i64 0, Value.int .i64 0, Value.int .i64 0, Value.int .i64 0]) (bt := 29) (by kernel_rfl) (by kernel_rfl) [Value.int .i64 b0, Value.int .i64 b1, Value.int .i64 b2, Value.int .i64 b3, Value.int .i64 b4, Value.int .i64 b5, Value.int .i64 b6, Value.int .i64 b7, Value.int .i64 b8, Value.int .i64 b9, Value.int .i64 (smac a b0 b1 b2 b3 b4)] (by kernel_rfl) (by kernel_rfl) (Nat.le_of_ble_eq_true (by kernel_rfl)) (by kernel_rfl) [Res.box blk6 [Value.int .i64 b0, Value.int .i64 b1, Value.int .i64 b2, Value.int .i64 b3, Value.int .i64 b4, Value.int .i64 b5, Value.int .i64 b6, Value.int .i64 b7, Value.int .i64 b8, Value.int .i64 b9, Value.int .i64 (smac a b0 b1 b2 b3 b4)] 29, Res.box blk4 [Value.int .i64 b0, Value.int .i64 b1, Value.int .i64 b2, Value.int .i64 b3, Value.int .i64 b4, Value.int .i64 b5, Value.int .i64 b6, Value.int .i64 b7, Value.int .i64 b8, Value.int .i64 b9, Value.int .i64 (smac a b0 b1 b2 b3 b4)] 29, Res.box blk2 [Value.int .i64 b0, Value.int .i64 b1, Value.int .i64 b2, Value.int .i64 b3, Value.int .i64 b4, Value.int .i64 b5, Value.int .i64 b6, Value.int .i64 b7, Value.int .i64 b8, Value.int .i64 b9, Value.int .i64 b10] 29] (by kernel_rfl) hS10 (fun w11 hS11 => hK _ _ ?_))
  clear hK K
  refine l_nil rfl ?_
  refine then_n ?_
  refine wp_ret ?_
  exact c_end (S := (fun x_ => St w x_ [Res.box blk6 [Value.int .i64 b0, Value.int .i64 b1, Value.int .i64 b2, Value.int .i64 b3, Value.int .i64 b4, Value.int .i64 b5, Value.int .i64 b6, Value.int .i64 b7, Value.int .i64 b8, Value.int .i64 b9, Value.int .i64 (smac a b0 b1 b2 b3 b4)] 29, Res.box blk4 [Value.int .i64 b0, Value.int .i64 b1, Value.int .i64 b2, Value.int .i64 b3, Value.int .i64 b4, Value.int .i64 b5, Value.int .i64 b6, Value.int .i64 b7, Value.int .i64 b8, Value.int .i64 b9, Value.int .i64 (smac a b0 b1 b2 b3 b4)] 29, Res.box blk2 [Value.int .i64 b0, Value.int .i64 b1, Value.int .i64 b2, Value.int .i64 b3, Value.int .i64 b4, Value.int .i64 b5, Value.int .i64 b6, Value.int .i64 b7, Value.int .i64 b8, Value.int .i64 b9, Value.int .i64 b10] 29])) (rs := [.cell 4 29]) rfl [Value.agg #[Value.int .i64 b0, Value.int .i64 b1, Value.int .i64 b2, Value.int .i64 b3, Value.int .i64 b4, Value.int .i64 b5, Value.int .i64 b6, Value.int .i64 b7, Value.int .i64 b8, Value.int .i64 b9, Value.int .i64 (smac a b0 b1 b2 b3 b4)]] (v := Value.agg #[Value.int .i64 b0, Value.int .i64 b1, Value.int .i64 b2, Value.int .i64 b3, Value.int .i64 b4, Value.int .i64 b5, Value.int .i64 b6, Value.int .i64 b7, Value.int .i64 b8, Value.int .i64 b9, Value.int .i64 (smac a b0 b1 b2 b3 b4)]) (C := ((LoadsAt Try.prog (fun x_ => St w x_ [Res.box blk6 [Value.int .i64 b0, Value.int .i64 b1, Value.int .i64 b2, Value.int .i64 b3, Value.int .i64 b4, Value.int .i64 b5, Value.int .i64 b6, Value.int .i64 b7, Value.int .i64 b8, Value.int .i64 b9, Value.int .i64 (smac a b0 b1 b2 b3 b4)] 29, Res.box blk4 [Value.int .i64 b0, Value.int .i64 b1, Value.int .i64 b2, Value.int .i64 b3, Value.int .i64 b4, Value.int .i64 b5, Value.int .i64 b6, Value.int .i64 b7, Value.int .i64 b8, Value.int .i64 b9, Value.int .i64 (smac a b0 b1 b2 b3 b4)] 29, Res.box blk2 [Value.int .i64 b0, Value.int .i64 b1, Value.int .i64 b2, Value.int .i64 b3, Value.int .i64 b4, Value.int .i64 b5, Value.int .i64 b6, Value.int .i64 b7, Value.int .i64 b8, Value.int .i64 b9, Value.int .i64 b10] 29]) 29 ⟨blk4, 0, none⟩ (Value.agg #[Value.int .i64 b0, Value.int .i64 b1, Value.int .i64 b2, Value.int .i64 b3, Value.int .i64 b4, Value.int .i64 b5, Value.int .i64 b6, Value.int .i64 b7, Value.int .i64 b8, Value.int .i64 b9, Value.int .i64 (smac a b0 b1 b2 b3 b4)])))) (by kernel_rfl) (ld_boxN (i := 1) (k := 11) rfl rfl rfl (by kernel_rfl)) hS11 ((hS11.rv rfl))
theorem walkFnExactRequiresMAC (v0 : Value) (w : World) (i0 : InSignal25 w w.heap.size v0) : Calls Try.prog 3 #[v0] w (Tr w) := by
  obtain ⟨a0, a1, a2, a3, a4, a5, a6, a7, a8, a9, a10, rfl, ⟨ha01, ha02⟩, ⟨ha11, ha12⟩, ⟨ha21, ha22⟩, ⟨ha31, ha32⟩, ⟨ha41, ha42⟩, ⟨ha51, ha52⟩, ⟨ha61, ha62⟩, ⟨ha71, ha72⟩, ⟨ha81, ha82⟩, ⟨ha91, ha92⟩, ⟨ha101, ha102⟩⟩ := i0
  refine calls_FA Try.func3 rfl (n := 14) rfl (l := [(0, Value.agg #[Value.int .i64 a0, Value.int .i64 a1, Value.int .i64 a2, Value.int .i64 a3, Value.int .i64 a4, Value.int .i64 a5, Value.int .i64 a6, Value.int .i64 a7, Value.int .i64 a8, Value.int .i64 a9, Value.int .i64 a10])]) rfl (by simp) (fun g => ?_)
  have hS := St.init w
  refine wp_seq ?_
  refine c_reg ?_
  refine l_op rfl rfl (fun K hK => op_box (d := some 1) rfl rfl [Value.int .i64 a0, Value.int .i64 a1, Value.int .i64 a2, Value.int .i64 a3, Value.int .i64 a4, Value.int .i64 a5, Value.int .i64 a6, Value.int .i64 a7, Value.int .i64 a8, Value.int .i64 a9, Value.int .i64 a10] (by kernel_rfl) hS (fun blk2 w1 hS1 => hK _ _ ?_))
  clear hK K
  refine q_seg (S := (fun x_ => St w x_ [Res.box blk2 [Value.int .i64 a0, Value.int .i64 a1, Value.int .i64 a2, Value.int .i64 a3, Value.int .i64 a4, Value.int .i64 a5, Value.int .i64 a6, Value.int .i64 a7, Value.int .i64 a8, Value.int .i64 a9, Value.int .i64 a10] 25])) [(2, Value.bool false)] [.no] True (by kernel_rfl) trivial hS1 ?_
  refine l_nil rfl ?_
  refine then_n ?_
  refine wp_seq ?_
  refine c_reg ?_
  refine q_seg (S := (fun x_ => St w x_ [Res.box blk2 [Value.int .i64 a0, Value.int .i64 a1, Value.int .i64 a2, Value.int .i64 a3, Value.int .i64 a4, Value.int .i64 a5, Value.int .i64 a6, Value.int .i64 a7, Value.int .i64 a8, Value.int .i64 a9, Value.int .i64 a10] 25])) [(5, Value.agg #[Value.int .i64 a0, Value.int .i64 a1, Value.int .i64 a2, Value.int .i64 a3, Value.int .i64 a4, Value.int .i64 a5, Value.int .i64 a6, Value.int .i64 a7, Value.int .i64 a8, Value.int .i64 a9, Value.int .i64 a10])] [.v (Value.agg #[Value.int .i64 a0, Value.int .i64 a1, Value.int .i64 a2, Value.int .i64 a3, Value.int .i64 a4, Value.int .i64 a5, Value.int .i64 a6, Value.int .i64 a7, Value.int .i64 a8, Value.int .i64 a9, Value.int .i64 a10])] ((LoadsAt Try.prog (fun x_ => St w x_ [Res.box blk2 [Value.int .i64 a0, Value.int .i64 a1, Value.int .i64 a2, Value.int .i64 a3, Value.int .i64 a4, Value.int .i64 a5, Value.int .i64 a6, Value.int .i64 a7, Value.int .i64 a8, Value.int .i64 a9, Value.int .i64 a10] 25]) 25 ⟨blk2, 0, none⟩ (Value.agg #[Value.int .i64 a0, Value.int .i64 a1, Value.int .i64 a2, Value.int .i64 a3, Value.int .i64 a4, Value.int .i64 a5, Value.int .i64 a6, Value.int .i64 a7, Value.int .i64 a8, Value.int .i64 a9, Value.int .i64 a10]))) (by kernel_rfl) (ld_boxN (i := 0) (k := 11) rfl rfl rfl (by kernel_rfl)) hS1 ?_
  refine l_op rfl rfl (fun K hK => op_callv (d := some 6) rfl rfl ⟨_, Try.func11, by kernel_rfl, by kernel_rfl⟩ (vs := [Value.agg #[Value.int .i64 a0, Value.int .i64 a1, Value.int .i64 a2, Value.int .i64 a3, Value.int .i64 a4, Value.int .i64 a5, Value.int .i64 a6, Value.int .i64 a7, Value.int .i64 a8, Value.int .i64 a9, Value.int .i64 a10]]) (by kernel_rfl) (v := Value.agg #[Value.int .i64 a0, Value.int .i64 a1, Value.int .i64 a2, Value.int .i64 a3, Value.int .i64 a4, Value.int .i64 a5, Value.int .i64 a6, Value.int .i64 a7, Value.int .i64 a8, Value.int .i64 a9, Value.int .i64 a10]) (toSignal_c a0 a1 a2 a3 a4 a5 a6 a7 a8 a9 a10  _) hS1 (fun w3 hS3 => hK _ _ ?_))
  clear hK K
  refine l_op rfl rfl (fun K hK => op_callv (d := some 7) rfl rfl ⟨_, Try.func10, by kernel_rfl, by kernel_rfl⟩ (vs := [Value.agg #[Value.int .i64 a0, Value.int .i64 a1, Value.int .i64 a2, Value.int .i64 a3, Value.int .i64 a4, Value.int .i64 a5, Value.int .i64 a6, Value.int .i64 a7, Value.int .i64 a8, Value.int .i64 a9, Value.int .i64 a10]]) (by kernel_rfl) (v := Value.bool (rmac a0)) (RequiresMAC_s_c a0 a1 a2 a3 a4 a5 a6 a7 a8 a9 a10  _) hS3 (fun w4 hS4 => hK _ _ ?_))
  clear hK K
  refine q_seg (S := (fun x_ => St w x_ [Res.box blk2 [Value.int .i64 a0, Value.int .i64 a1, Value.int .i64 a2, Value.int .i64 a3, Value.int .i64 a4, Value.int .i64 a5, Value.int .i64 a6, Value.int .i64 a7, Value.int .i64 a8, Value.int .i64 a9, Value.int .i64 a10] 25])) [(3, Value.bool (rmac a0))] [.no] True (by kernel_rfl) trivial hS4 ?_
  refine l_nil rfl ?_
  refine then_n ?_
  refine wp_seq ?_
  refine c_reg ?_
  refine q_seg (S := (fun x_ => St w x_ [Res.box blk2 [Value.int .i64 a0, Value.int .i64 a1, Value.int .i64 a2, Value.int .i64 a3, Value.int .i64 a4, Value.int .i64 a5, Value.int .i64 a6, Value.int .i64 a7, Value.int .i64 a8, Value.int .i64 a9, Value.int .i64 a10] 25])) [(8, Value.agg #[Value.int .i64 a0, Value.int .i64 a1, Value.int .i64 a2, Value.int .i64 a3, Value.int .i64 a4, Value.int .i64 a5, Value.int .i64 a6, Value.int .i64 a7, Value.int .i64 a8, Value.int .i64 a9, Value.int .i64 a10])] [.v (Value.agg #[Value.int .i64 a0, Value.int .i64 a1, Value.int .i64 a2, Value.int .i64 a3, Value.int .i64 a4, Value.int .i64 a5, Value.int .i64 a6, Value.int .i64 a7, Value.int .i64 a8, Value.int .i64 a9, Value.int .i64 a10])] ((LoadsAt Try.prog (fun x_ => St w x_ [Res.box blk2 [Value.int .i64 a0, Value.int .i64 a1, Value.int .i64 a2, Value.int .i64 a3, Value.int .i64 a4, Value.int .i64 a5, Value.int .i64 a6, Value.int .i64 a7, Value.int .i64 a8, Value.int .i64 a9, Value.int .i64 a10] 25]) 25 ⟨blk2, 0, none⟩ (Value.agg #[Value.int .i64 a0, Value.int .i64 a1, Value.int .i64 a2, Value.int .i64 a3, Value.int .i64 a4, Value.int .i64 a5, Value.int .i64 a6, Value.int .i64 a7, Value.int .i64 a8, Value.int .i64 a9, Value.int .i64 a10]))) (by kernel_rfl) (ld_boxN (i := 0) (k := 11) rfl rfl rfl (by kernel_rfl)) hS4 ?_
  refine l_op rfl rfl (fun K hK => op_callv (d := some 9) rfl rfl ⟨_, Try.func11, by kernel_rfl, by kernel_rfl⟩ (vs := [Value.agg #[Value.int .i64 a0, Value.int .i64 a1, Value.int .i64 a2, Value.int .i64 a3, Value.int .i64 a4, Value.int .i64 a5, Value.int .i64 a6, Value.int .i64 a7, Value.int .i64 a8, Value.int .i64 a9, Value.int .i64 a10]]) (by kernel_rfl) (v := Value.agg #[Value.int .i64 a0, Value.int .i64 a1, Value.int .i64 a2, Value.int .i64 a3, Value.int .i64 a4, Value.int .i64 a5, Value.int .i64 a6, Value.int .i64 a7, Value.int .i64 a8, Value.int .i64 a9, Value.int .i64 a10]) (toSignal_c a0 a1 a2 a3 a4 a5 a6 a7 a8 a9 a10  _) hS4 (fun w5 hS5 => hK _ _ ?_))
  clear hK K
  refine l_op rfl rfl (fun K hK => op_callv (d := some 10) rfl rfl ⟨_, Try.func12, by kernel_rfl, by kernel_rfl⟩ (vs := [Value.agg #[Value.int .i64 a0, Value.int .i64 a1, Value.int .i64 a2, Value.int .i64 a3, Value.int .i64 a4, Value.int .i64 a5, Value.int .i64 a6, Value.int .i64 a7, Value.int .i64 a8, Value.int .i64 a9, Value.int .i64 a10]]) (by kernel_rfl) (v := Value.bool (rmac a0)) (RequiresMAC_i_c a0 a1 a2 a3 a4 a5 a6 a7 a8 a9 a10  _) hS5 (fun w6 hS6 => hK _ _ ?_))
  clear hK K
  refine q_seg (S := (fun x_ => St w x_ [Res.box blk2 [Value.int .i64 a0, Value.int .i64 a1, Value.int .i64 a2, Value.int .i64 a3, Value.int .i64 a4, Value.int .i64 a5, Value.int .i64 a6, Value.int .i64 a7, Value.int .i64 a8, Value.int .i64 a9, Value.int .i64 a10] 25])) [(4, Value.bool (rmac a0))] [.no] True (by kernel_rfl) trivial hS6 ?_
  refine l_nil rfl ?_
  refine then_n ?_
  refine wp_seq ?_
  refine wp_seq ?_
  refine c_reg ?_
  refine q_seg (S := (fun x_ => St w x_ [Res.box blk2 [Value.int .i64 a0, Value.int .i64 a1, Value.int .i64 a2, Value.int .i64 a3, Value.int .i64 a4, Value.int .i64 a5, Value.int .i64 a6, Value.int .i64 a7, Value.int .i64 a8, Value.int .i64 a9, Value.int .i64 a10] 25])) [(13, Value.bool (!(((rmac a0) == (rmac a0))))), (12, Value.bool (rmac a0)), (11, Value.bool (rmac a0))] [.no, .no, .no] True (by kernel_rfl) trivial hS6 ?_
  refine l_nil rfl ?_
  refine then_n ?_
  refine c_false (b := (!(((rmac a0) == (rmac a0))))) (by kernel_rfl) (nb (v := true) (by simp)) ?_
  refine wp_skip ?_
  refine then_n ?_
  refine wp_seq ?_
  refine c_reg ?_
  refine q_seg (S := (fun x_ => St w x_ [Res.box blk2 [Value.int .i64 a0, Value.int .i64 a1, Value.int .i64 a2, Value.int .i64 a3, Value.int .i64 a4, Value.int .i64 a5, Value.int .i64 a6, Value.int .i64 a7, Value.int .i64 a8, Value.int .i64 a9, Value.int .i64 a10] 25])) [(2, Value.bool true)] [.no] True (by kernel_rfl) trivial hS6 ?_
  refine l_nil rfl ?_
  refine then_n ?_
  refine wp_ret ?_
  exact c_end (S := (fun x_ => St w x_ [Res.box blk2 [Value.int .i64 a0, Value.int .i64 a1, Value.int .i64 a2, Value.int .i64 a3, Value.int .i64 a4, Value.int .i64 a5, Value.int .i64 a6, Value.int .i64 a7, Value.int .i64 a8, Value.int .i64 a9, Value.int .i64 a10] 25])) (rs := [.tmp 2]) rfl [] (v := Value.bool true) (C := True) (by kernel_rfl) trivial hS6 ((hS6.rv rfl))
theorem walkFnExactIsValidSignal (v0 : Value) (w : World) (i0 : InSignal25 w w.heap.size v0) : Calls Try.prog 4 #[v0] w (Tr w) := by
  obtain ⟨a0, a1, a2, a3, a4, a5, a6, a7, a8, a9, a10, rfl, ⟨ha01, ha02⟩, ⟨ha11, ha12⟩, ⟨ha21, ha22⟩, ⟨ha31, ha32⟩, ⟨ha41, ha42⟩, ⟨ha51, ha52⟩, ⟨ha61, ha62⟩, ⟨ha71, ha72⟩, ⟨ha81, ha82⟩, ⟨ha91, ha92⟩, ⟨ha101, ha102⟩⟩ := i0
  refine calls_FA Try.func4 rfl (n := 14) rfl (l := [(0, Value.agg #[Value.int .i64 a0, Value.int .i64 a1, Value.int .i64 a2, Value.int .i64 a3, Value.int .i64 a4, Value.int .i64 a5, Value.int .i64 a6, Value.int .i64 a7, Value.int .i64 a8, Value.int .i64 a9, Value.int .i64 a10])]) rfl (by simp) (fun g => ?_)
  have hS := St.init w
  refine wp_seq ?_
  refine c_reg ?_
  refine l_op rfl rfl (fun K hK => op_box (d := some 1) rfl rfl [Value.int .i64 a0, Value.int .i64 a1, Value.int .i64 a2, Value.int .i64 a3, Value.int .i64 a4, Value.int .i64 a5, Value.int .i64 a6, Value.int .i64 a7, Value.int .i64 a8, Value.int .i64 a9, Value.int .i64 a10] (by kernel_rfl) hS (fun blk2 w1 hS1 => hK _ _ ?_))
  clear hK K
  refine q_seg (S := (fun x_ => St w x_ [Res.box blk2 [Value.int .i64 a0, Value.int .i64 a1, Value.int .i64 a2, Value.int .i64 a3, Value.int .i64 a4, Value.int .i64 a5, Value.int .i64 a6, Value.int .i64 a7, Value.int .i64 a8, Value.int .i64 a9, Value.int .i64 a10] 25])) [(2, Value.bool false)] [.no] True (by kernel_rfl) trivial hS1 ?_
  refine l_nil rfl ?_
  refine then_n ?_
  refine wp_seq ?_
  refine c_reg ?_
  refine q_seg (S := (fun x_ => St w x_ [Res.box blk2 [Value.int .i64 a0, Value.int .i64 a1, Value.int .i64 a2, Value.int .i64 a3, Value.int .i64 a4, Value.int .i64 a5, Value.int .i64 a6, Value.int .i64 a7, Value.int .i64 a8, Value.int .i64 a9, Value.int .i64 a10] 25])) [(5, Value.agg #[Value.int .i64 a0, Value.int .i64 a1, Value.int .i64 a2, Value.int .i64 a3, Value.int .i64 a4, Value.int .i64 a5, Value.int .i64 a6, Value.int .i64 a7, Value.int .i64 a8, Value.int .i64 a9, Value.int .i64 a10])] [.v (Value.agg #[Value.int .i64 a0, Value.int .i64 a1, Value.int .i64 a2, Value.int .i64 a3, Value.int .i64 a4, Value.int .i64 a5, Value.int .i64 a6, Value.int .i64 a7, Value.int .i64 a8, Value.int .i64 a9, Value.int .i64 a10])] ((LoadsAt Try.prog (fun x_ => St w x_ [Res.box blk2 [Value.int .i64 a0, Value.int .i64 a1, Value.int .i64 a2, Value.int .i64 a3, Value.int .i64 a4, Value.int .i64 a5, Value.int .i64 a6, Value.int .i64 a7, Value.int .i64 a8, Value.int .i64 a9, Value.int .i64 a10] 25]) 25 ⟨blk2, 0, none⟩ (Value.agg #[Value.int .i64 a0, Value.int .i64 a1, Value.int .i64 a2, Value.int .i64 a3, Value.int .i64 a4, Value.int .i64 a5, Value.int .i64 a6, Value.int .i64 a7, Value.int .i64 a8, Value.int .i64 a9, Value.int .i64 a10]))) (by kernel_rfl) (ld_boxN (i := 0) (k := 11) rfl rfl rfl (by kernel_rfl)) hS1 ?_
  refine l_op rfl rfl (fun K hK => op_callv (d := some 6) rfl rfl ⟨_, Try.func11, by kernel_rfl, by kernel_rfl⟩ (vs := [Value.agg #[Value.int .i64 a0, Value.int .i64 a1, Value.int .i64 a2, Value.int .i64 a3, Value.int .i64 a4, Value.int .i64 a5, Value.int .i64 a6, Value.int .i64 a7, Value.int .i64 a8, Value.int .i64 a9, Value.int .i64 a10]]) (by kernel_rfl) (v := Value.agg #[Value.int .i64 a0, Value.int .i64 a1, Value.int .i64 a2, Value.int .i64 a3, Value.int .i64 a4, Value.int .i64 a5, Value.int .i64 a6, Value.int .i64 a7, Value.int .i64 a8, Value.int .i64 a9, Value.int .i64 a10]) (toSignal_c a0 a1 a2 a3 a4 a5 a6 a7 a8 a9 a10  _) hS1 (fun w3 hS3 => hK _ _ ?_))
  clear hK K
  refine l_op rfl rfl (fun K hK => op_callv (d := some 7) rfl rfl ⟨_, Try.func13, by kernel_rfl, by kernel_rfl⟩ (vs := [Value.agg #[Value.int .i64 a0, Value.int .i64 a1, Value.int .i64 a2, Value.int .i64 a3, Value.int .i64 a4, Value.int .i64 a5, Value.int .i64 a6, Value.int .i64 a7, Value.int .i64 a8, Value.int .i64 a9, Value.int .i64 a10]]) (by kernel_rfl) (v := Value.bool (vsig a0 a1 a2 a3 a4)) (IsValidSignal_s_c a0 a1 a2 a3 a4 a5 a6 a7 a8 a9 a10  _) hS3 (fun w4 hS4 => hK _ _ ?_))
  clear hK K
  refine q_seg (S := (fun x_ => St w x_ [Res.box blk2 [Value.int .i64 a0, Value.int .i64 a1, Value.int .i64 a2, Value.int .i64 a3, Value.int .i64 a4, Value.int .i64 a5, Value.int .i64 a6, Value.int .i64 a7, Value.int .i64 a8, Value.int .i64 a9, Value.int .i64 a10] 25])) [(3, Value.bool (vsig a0 a1 a2 a3 a4))] [.no] True (by kernel_rfl) trivial hS4 ?_
  refine l_nil rfl ?_
  refine then_n ?_
  refine wp_seq ?_
  refine c_reg ?_
  refine q_seg (S := (fun x_ => St w x_ [Res.box blk2 [Value.int .i64 a0, Value.int .i64 a1, Value.int .i64 a2, Value.int .i64 a3, Value.int .i64 a4, Value.int .i64 a5, Value.int .i64 a6, Value.int .i64 a7, Value.int .i64 a8, Value.int .i64 a9, Value.int .i64 a10] 25])) [(8, Value.agg #[Value.int .i64 a0, Value.int .i64 a1, Value.int .i64 a2, Value.int .i64 a3, Value.int .i64 a4, Value.int .i64 a5, Value.int .i64 a6, Value.int .i64 a7, Value.int .i64 a8, Value.int .i64 a9, Value.int .i64 a10])] [.v (Value.agg #[Value.int .i64 a0, Value.int .i64 a1, Value.int .i64 a2, Value.int .i64 a3, Value.int .i64 a4, Value.int .i64 a5, Value.int .i64 a6, Value.int .i64 a7, Value.int .i64 a8, Value.int .i64 a9, Value.int .i64 a10])] ((LoadsAt Try.prog (fun x_ => St w x_ [Res.box blk2 [Value.int .i64 a0, Value.int .i64 a1, Value.int .i64 a2, Value.int .i64 a3, Value.int .i64 a4, Value.int .i64 a5, Value.int .i64 a6, Value.int .i64 a7, Value.int .i64 a8, Value.int .i64 a9, Value.int .i64 a10] 25]) 25 ⟨blk2, 0, none⟩ (Value.agg #[Value.int .i64 a0, Value.int .i64 a1, Value.int .i64 a2, Value.int .i64 a3, Value.int .i64 a4, Value.int .i64 a5, Value.int .i64 a6, Value.int .i64 a7, Value.int .i64 a8, Value.int .i64 a9, Value.int .i64 a10]))) (by kernel_rfl) (ld_boxN (i := 0) (k := 11) rfl rfl rfl (by kernel_rfl)) hS4 ?_
  refine l_op rfl rfl (fun K hK => op_callv (d := some 9) rfl rfl ⟨_, Try.func11, by kernel_rfl, by kernel_rfl⟩ (vs := [Value.agg #[Value.int .i64 a0, Value.int .i64 a1, Value.int .i64 a2, Value.int .i64 a3, Value.int .i64 a4, Value.int .i64 a5, Value.int .i64 a6, Value.int .i64 a7, Value.int .i64 a8, Value.int .i64 a9, Value.int .i64 a10]]) (by kernel_rfl) (v := Value.agg #[Value.int .i64 a0, Value.int .i64 a1, Value.int .i64 a2, Value.int .i64 a3, Value.int .i64 a4, Value.int .i64 a5, Value.int .i64 a6, Value.int .i64 a7, Value.int .i64 a8, Value.int .i64 a9, Value.int .i64 a10]) (toSignal_c a0 a1 a2 a3 a4 a5 a6 a7 a8 a9 a10  _) hS4 (fun w5 hS5 => hK _ _ ?_))
  clear hK K
  refine l_op rfl rfl (fun K hK => op_callv (d := some 10) rfl rfl ⟨_, Try.func14, by kernel_rfl, by kernel_rfl⟩ (vs := [Value.agg #[Value.int .i64 a0, Value.int .i64 a1, Value.int .i64 a2, Value.int .i64 a3, Value.int .i64 a4, Value.int .i64 a5, Value.int .i64 a6, Value.int .i64 a7, Value.int .i64 a8, Value.int .i64 a9, Value.int .i64 a10]]) (by kernel_rfl) (v := Value.bool (vsig a0 a1 a2 a3 a4)) (IsValidSignal_i_c a0 a1 a2 a3 a4 a5 a6 a7 a8 a9 a10  _) hS5 (fun w6 hS6 => hK _ _ ?_))
  clear hK K
  refine q_seg (S := (fun x_ => St w x_ [Res.box blk2 [Value.int .i64 a0, Value.int .i64 a1, Value.int .i64 a2, Value.int .i64 a3, Value.int .i64 a4, Value.int .i64 a5, Value.int .i64 a6, Value.int .i64 a7, Value.int .i64 a8, Value.int .i64 a9, Value.int .i64 a10] 25])) [(4, Value.bool (vsig a0 a1 a2 a3 a4))] [.no] True (by kernel_rfl) trivial hS6 ?_
  refine l_nil rfl ?_
  refine then_n ?_
  refine wp_seq ?_
  refine wp_seq ?_
  refine c_reg ?_
  refine q_seg (S := (fun x_ => St w x_ [Res.box blk2 [Value.int .i64 a0, Value.int .i64 a1, Value.int .i64 a2, Value.int .i64 a3, Value.int .i64 a4, Value.int .i64 a5, Value.int .i64 a6, Value.int .i64 a7, Value.int .i64 a8, Value.int .i64 a9, Value.int .i64 a10] 25])) [(13, Value.bool (!(((vsig a0 a1 a2 a3 a4) == (vsig a0 a1 a2 a3 a4))))), (12, Value.bool (vsig a0 a1 a2 a3 a4)), (11, Value.bool (vsig a0 a1 a2 a3 a4))] [.no, .no, .no] True (by kernel_rfl) trivial hS6 ?_
  refine l_nil rfl ?_
  refine then_n ?_
  refine c_false (b := (!(((vsig a0 a1 a2 a3 a4) == (vsig a0 a1 a2 a3 a4))))) (by kernel_rfl) (nb (v := true) (by simp)) ?_
  refine wp_skip ?_
  refine then_n ?_
  refine wp_seq ?_
  refine c_reg ?_
  refine q_seg (S := (fun x_ => St w x_ [Res.box blk2 [Value.int .i64 a0, Value.int .i64 a1, Value.int .i64 a2, Value.int .i64 a3, Value.int .i64 a4, Value.int .i64 a5, Value.int .i64 a6, Value.int .i64 a7, Value.int .i64 a8, Value.int .i64 a9, Value.int .i64 a10] 25])) [(2, Value.bool true)] [.no] True (by kernel_rfl) trivial hS6 ?_
  refine l_nil rfl ?_
  refine then_n ?_
  refine wp_ret ?_
  exact c_end (S := (fun x_ => St w x_ [Res.box blk2 [Value.int .i64 a0, Value.int .i64 a1, Value.int .i64 a2, Value.int .i64 a3, Value.int .i64 a4, Value.int .i64 a5, Value.int .i64 a6, Value.int .i64 a7, Value.int .i64 a8, Value.int .i64 a9, Value.int .i64 a10] 25])) (rs := [.tmp 2]) rfl [] (v := Value.bool true) (C := True) (by kernel_rfl) trivial hS6 ((hS6.rv rfl))
theorem walkFnExactChallengeRand (v0 v1 : Value) (w : World) (i0 : InSubscriberID33 w w.heap.size v0) (i1 : InInt3 w w.heap.size v1) : Calls Try.prog 5 #[v0, v1] w (Tr w) := by
  obtain ⟨a0, a1, rfl, ⟨ha01, ha02⟩, ⟨ha11, ha12⟩⟩ := i0
  obtain ⟨b, rfl, ⟨hb1, hb2⟩⟩ := i1
  refine calls_FA Try.func5 rfl (n := 18) rfl (l := [(0, Value.agg #[Value.int .i64 a0, Value.int .i64 a1]), (1, Value.int .i64 b)]) rfl (by simp) (fun g => ?_)
  have hS := St.init w
  refine wp_seq ?_
  refine c_reg ?_
  refine l_op rfl rfl (fun K hK => op_box (d := some 2) rfl rfl [Value.int .i64 a0, Value.int .i64 a1] (by kernel_rfl) hS (fun blk2 w1 hS1 => hK _ _ ?_))
  clear hK K
  refine q_seg (S := (fun x_ => St w x_ [Res.box blk2 [Value.int .i64 a0, Value.int .i64 a1] 33])) [(4, Value.bool false)] [.no] True (by kernel_rfl) trivial hS1 ?_
  refine l_nil rfl ?_
  refine then_n ?_
  refine wp_seq ?_
  refine c_reg ?_
  refine q_seg (S := (fun x_ => St w x_ [Res.box blk2 [Value.int .i64 a0, Value.int .i64 a1] 33])) [(7, Value.agg #[Value.int .i64 a0, Value.int .i64 a1])] [.v (Value.agg #[Value.int .i64 a0, Value.int .i64 a1])] ((LoadsAt Try.prog (fun x_ => St w x_ [Res.box blk2 [Value.int .i64 a0, Value.int .i64 a1] 33]) 33 ⟨blk2, 0, none⟩ (Value.agg #[Value.int .i64 a0, Value.int .i64 a1]))) (by kernel_rfl) (ld_boxN (i := 0) (k := 2) rfl rfl rfl (by kernel_rfl)) hS1 ?_
  refine l_op rfl rfl (fun K hK => op_callv (d := some 8) rfl rfl ⟨_, Try.func16, by kernel_rfl, by kernel_rfl⟩ (vs := [Value.agg #[Value.int .i64 a0, Value.int .i64 a1]]) (by kernel_rfl) (v := Value.agg #[Value.int .i64 a0, Value.int .i64 a1]) (toSubscriberID_c a0 a1  _) hS1 (fun w3 hS3 => hK _ _ ?_))
  clear hK K
  refine q_seg (S := (fun x_ => St w x_ [Res.box blk2 [Value.int .i64 a0, Value.int .i64 a1] 33])) [(9, Value.int .i64 b)] [.no] True (by kernel_rfl) trivial hS3 ?_
  refine l_op rfl rfl (fun K hK => op_callv (d := some 10) rfl rfl ⟨_, Try.func15, by kernel_rfl, by kernel_rfl⟩ (vs := [Value.agg #[Value.int .i64 a0, Value.int .i64 a1], Value.int .i64 b]) (by kernel_rfl) (v := Value.int .i64 (khash 29 [a0, a1, b])) (ChallengeRand_s_c a0 a1 b (i64 (by omega) (by omega)) (i64 (by omega) (by omega)) (i64 (by omega) (by omega)) _) hS3 (fun w4 hS4 => hK _ _ ?_))
  clear hK K
  refine q_seg (S := (fun x_ => St w x_ [Res.box blk2 [Value.int .i64 a0, Value.int .i64 a1] 33])) [(5, Value.int .i64 (khash 29 [a0, a1, b]))] [.no] True (by kernel_rfl) trivial hS4 ?_
  refine l_nil rfl ?_
  refine then_n ?_
  refine wp_seq ?_
  refine c_reg ?_
  refine q_seg (S := (fun x_ => St w x_ [Res.box blk2 [Value.int .i64 a0, Value.int .i64 a1] 33])) [(11, Value.agg #[Value.int .i64 a0, Value.int .i64 a1])] [.v (Value.agg #[Value.int .i64 a0, Value.int .i64 a1])] ((LoadsAt Try.prog (fun x_ => St w x_ [Res.box blk2 [Value.int .i64 a0, Value.int .i64 a1] 33]) 33 ⟨blk2, 0, none⟩ (Value.agg #[Value.int .i64 a0, Value.int .i64 a1]))) (by kernel_rfl) (ld_boxN (i := 0) (k := 2) rfl rfl rfl (by kernel_rfl)) hS4 ?_
  refine l_op rfl rfl (fun K hK => op_callv (d := some 12) rfl rfl ⟨_, Try.func16, by kernel_rfl, by kernel_rfl⟩ (vs := [Value.agg #[Value.int .i64 a0, Value.int .i64 a1]]) (by kernel_rfl) (v := Value.agg #[Value.int .i64 a0, Value.int .i64 a1]) (toSubscriberID_c a0 a1  _) hS4 (fun w5 hS5 => hK _ _ ?_))
  clear hK K
  refine q_seg (S := (fun x_ => St w x_ [Res.box blk2 [Value.int .i64 a0, Value.int .i64 a1] 33])) [(13, Value.int .i64 b)] [.no] True (by kernel_rfl) trivial hS5 ?_
  refine l_op rfl rfl (fun K hK => op_callv (d := some 14) rfl rfl ⟨_, Try.func17, by kernel_rfl, by kernel_rfl⟩ (vs := [Value.agg #[Value.int .i64 a0, Value.int .i64 a1], Value.int .i64 b]) (by kernel_rfl) (v := Value.int .i64 (khash 29 [a0, a1, b])) (ChallengeRand_i_c a0 a1 b (i64 (by omega) (by omega)) (i64 (by omega) (by omega)) (i64 (by omega) (by omega)) _) hS5 (fun w6 hS6 => hK _ _ ?_))
  clear hK K
  refine q_seg (S := (fun x_ => St w x_ [Res.box blk2 [Value.int .i64 a0, Value.int .i64 a1] 33])) [(6, Value.int .i64 (khash 29 [a0, a1, b]))] [.no] True (by kernel_rfl) trivial hS6 ?_
  refine l_nil rfl ?_
  refine then_n ?_
  refine wp_seq ?_
  refine wp_seq ?_
  refine c_reg ?_
  refine q_seg (S := (fun x_ => St w x_ [Res.box blk2 [Value.int .i64 a0, Value.int .i64 a1] 33])) [(17, Value.bool (!(decide ((khash 29 [a0, a1, b]) = (khash 29 [a0, a1, b]))))), (16, Value.int .i64 (khash 29 [a0, a1, b])), (15, Value.int .i64 (khash 29 [a0, a1, b]))] [.no, .no, .no] True (by kernel_rfl) trivial hS6 ?_
  refine l_nil rfl ?_
  refine then_n ?_
  refine c_false (b := (!(decide ((khash 29 [a0, a1, b]) = (khash 29 [a0, a1, b]))))) (by kernel_rfl) (nb (v := true) (decide_eq_true rfl)) ?_
  refine wp_skip ?_
  refine then_n ?_
  refine wp_seq ?_
  refine c_reg ?_
  refine q_seg (S := (fun x_ => St w x_ [Res.box blk2 [Value.int .i64 a0, Value.int .i64 a1] 33])) [(4, Value.bool true)] [.no] True (by kernel_rfl) trivial hS6 ?_
  refine l_nil rfl ?_
  refine then_n ?_
  refine wp_ret ?_
  exact c_end (S := (fun x_ => St w x_ [Res.box blk2 [Value.int .i64 a0, Value.int .i64 a1] 33])) (rs := [.tmp 4]) rfl [] (v := Value.bool true) (C := True) (by kernel_rfl) trivial hS6 ((hS6.rv rfl))
theorem walkFnExactSignalMAC (v0 v1 : Value) (w : World) (i0 : InInt3 w w.heap.size v0) (i1 : InSignal25 w w.heap.size v1) : Calls Try.prog 6 #[v0, v1] w (Tr w) := by
  obtain ⟨a, rfl, ⟨ha1, ha2⟩⟩ := i0
  obtain ⟨b0, b1, b2, b3, b4, b5, b6, b7, b8, b9, b10, rfl, ⟨hb01, hb02⟩, ⟨hb11, hb12⟩, ⟨hb21, hb22⟩, ⟨hb31, hb32⟩, ⟨hb41, hb42⟩, ⟨hb51, hb52⟩, ⟨hb61, hb62⟩, ⟨hb71, hb72⟩, ⟨hb81, hb82⟩, ⟨hb91, hb92⟩, ⟨hb101, hb102⟩⟩ := i1
  refine calls_FA Try.func6 rfl (n := 18) rfl (l := [(0, Value.int .i64 a), (1, Value.agg #[Value.int .i64 b0, Value.int .i64 b1, Value.int .i64 b2, Value.int .i64 b3, Value.int .i64 b4, Value.int .i64 b5, Value.int .i64 b6, Value.int .i64 b7, Value.int .i64 b8, Value.int .i64 b9, Value.int .i64 b10])]) rfl (by simp) (fun g => ?_)
  have hS := St.init w
  refine wp_seq ?_
  refine c_reg ?_
  refine l_op rfl rfl (fun K hK => op_box (d := some 3) rfl rfl [Value.int .i64 b0, Value.int .i64 b1, Value.int .i64 b2, Value.int .i64 b3, Value.int .i64 b4, Value.int .i64 b5, Value.int .i64 b6, Value.int .i64 b7, Value.int .i64 b8, Value.int .i64 b9, Value.int .i64 b10] (by kernel_rfl) hS (fun blk2 w1 hS1 => hK _ _ ?_))
  clear hK K
  refine q_seg (S := (fun x_ => St w x_ [Res.box blk2 [Value.int .i64 b0, Value.int .i64 b1, Value.int .i64 b2, Value.int .i64 b3, Value.int .i64 b4, Value.int .i64 b5, Value.int .i64 b6, Value.int .i64 b7, Value.int .i64 b8, Value.int .i64 b9, Value.int .i64 b10] 25])) [(4, Value.bool false)] [.no] True (by kernel_rfl) trivial hS1 ?_
  refine l_nil rfl ?_
  refine then_n ?_
  refine wp_seq ?_
  refine c_reg ?_
  refine q_seg (S := (fun x_ => St w x_ [Res.box blk2 [Value.int .i64 b0, Value.int .i64 b1, Value.int .i64 b2, Value.int .i64 b3, Value.int .i64 b4, Value.int .i64 b5, Value.int .i64 b6, Value.int .i64 b7, Value.int .i64 b8, Value.int .i64 b9, Value.int .i64 b10] 25])) [(8, Value.agg #[Value.int .i64 b0, Value.int .i64 b1, Value.int .i64 b2, Value.int .i64 b3, Value.int .i64 b4, Value.int .i64 b5, Value.int .i64 b6, Value.int .i64 b7, Value.int .i64 b8, Value.int .i64 b9, Value.int .i64 b10]), (7, Value.int .i64 a)] [.no, .v (Value.agg #[Value.int .i64 b0, Value.int .i64 b1, Value.int .i64 b2, Value.int .i64 b3, Value.int .i64 b4, Value.int .i64 b5, Value.int .i64 b6, Value.int .i64 b7, Value.int .i64 b8, Value.int .i64 b9, Value.int .i64 b10])] ((LoadsAt Try.prog (fun x_ => St w x_ [Res.box blk2 [Value.int .i64 b0, Value.int .i64 b1, Value.int .i64 b2, Value.int .i64 b3, Value.int .i64 b4, Value.int .i64 b5, Value.int .i64 b6, Value.int .i64 b7, Value.int .i64 b8, Value.int .i64 b9, Value.int .i64 b10] 25]) 25 ⟨blk2, 0, none⟩ (Value.agg #[Value.int .i64 b0, Value.int .i64 b1, Value.int .i64 b2, Value.int .i64 b3, Value.int .i64 b4, Value.int .i64 b5, Value.int .i64 b6, Value.int .i64 b7, Value.int .i64 b8, Value.int .i64 b9, Value.int .i64 b10]))) (by kernel_rfl) (ld_boxN (i := 0) (k := 11) rfl rfl rfl (by kernel_rfl)) hS1 ?_
  refine l_op rfl rfl (fun K hK => op_callv (d := some 9) rfl rfl ⟨_, Try.func11, by kernel_rfl, by kernel_rfl⟩ (vs := [Value.agg #[Value.int .i64 b0, Value.int .i64 b1, Value.int .i64 b2, Value.int .i64 b3, Value.int .i64 b4, Value.int .i64 b5, Value.int .i64 b6, Value.int .i64 b7, Value.int .i64 b8, Value.int .i64 b9, Value.int .i64 b10]]) (by kernel_rfl) (v := Value.agg #[Value.int .i64 b0, Value.int .i64 b1, Value.int .i64 b2, Value.int .i64 b3, Value.int .i64 b4, Value.int .i64 b5, Value.int .i64 b6, Value.int .i64 b7, Value.int .i64 b8, Value.int .i64 b9, Value.int .i64 b10]) (toSignal_c b0 b1 b2 b3 b4 b5 b6 b7 b8 b9 b10  _) hS1 (fun w3 hS3 => hK _ _ ?_))
  clear hK K
  refine l_op rfl rfl (fun K hK => op_callv (d := some 10) rfl rfl ⟨_, Try.func18, by kernel_rfl, by kernel_rfl⟩ (vs := [Value.int .i64 a, Value.agg #[Value.int .i64 b0, Value.int .i64 b1, Value.int .i64 b2, Value.int .i64 b3, Value.int .i64 b4, Value.int .i64 b5, Value.int .i64 b6, Value.int .i64 b7, Value.int .i64 b8, Value.int .i64 b9, Value.int .i64 b10]]) (by kernel_rfl) (v := Value.int .i64 (smac a b0 b1 b2 b3 b4)) (SignalMAC_s_c a b0 b1 b2 b3 b4 b5 b6 b7 b8 b9 b10 (i64 (by omega) (by omega)) (i64 (by omega) (by omega)) (i64 (by omega) (by omega)) (i64 (by omega) (by omega)) (i64 (by omega) (by omega)) (i64 (by omega) (by omega)) (i64 (by omega) (by omega)) (i64 (by omega) (by omega)) (i64 (by omega) (by omega)) (i64 (by omega) (by omega)) (i64 (by omega) (by omega)) (i64 (by omega) (by omega)) _) hS3 (fun w4 hS4 => hK _ _ ?_))
  clear hK K
  have hsmq5 := smac_bd a b0 b1 b2 b3 b4
  refine q_seg (S := (fun x_ => St w x_ [Res.box blk2 [Value.int .i64 b0, Value.int .i64 b1, Value.int .i64 b2, Value.int .i64 b3, Value.int .i64 b4, Value.int .i64 b5, Value.int .i64 b6, Value.int .i64 b7, Value.int .i64 b8, Value.int .i64 b9, Value.int .i64 b10] 25])) [(5, Value.int .i64 (smac a b0 b1 b2 b3 b4))] [.no] True (by kernel_rfl) trivial hS4 ?_
  refine l_nil rfl ?_
  refine then_n ?_
  refine wp_seq ?_
  refine c_reg ?_
  refine q_seg (S := (fun x_ => St w x_ [Res.box blk2 [Value.int .i64 b0, Value.int .i64 b1, Value.int .i64 b2, Value.int .i64 b3, Value.int .i64 b4, Value.int .i64 b5, Value.int .i64 b6, Value.int .i64 b7, Value.int .i64 b8, Value.int .i64 b9, Value.int .i64 b10] 25])) [(12, Value.agg #[Value.int .i64 b0, Value.int .i64 b1, Value.int .i64 b2, Value.int .i64 b3, Value.int .i64 b4, Value.int .i64 b5, Value.int .i64 b6, Value.int .i64 b7, Value.int .i64 b8, Value.int .i64 b9, Value.int .i64 b10]), (11, Value.int .i64 a)] [.no, .v (Value.agg #[Value.int .i64 b0, Value.int .i64 b1, Value.int .i64 b2, Value.int .i64 b3, Value.int .i64 b4, Value.int .i64 b5, Value.int .i64 b6, Value.int .i64 b7, Value.int .i64 b8, Value.int .i64 b9, Value.int .i64 b10])] ((LoadsAt Try.prog (fun x_ => St w x_ [Res.box blk2 [Value.int .i64 b0, Value.int .i64 b1, Value.int .i64 b2, Value.int .i64 b3, Value.int .i64 b4, Value.int .i64 b5, Value.int .i64 b6, Value.int .i64 b7, Value.int .i64 b8, Value.int .i64 b9, Value.int .i64 b10] 25]) 25 ⟨blk2, 0, none⟩ (Value.agg #[Value.int .i64 b0, Value.int .i64 b1, Value.int .i64 b2, Value.int .i64 b3, Value.int .i64 b4, Value.int .i64 b5, Value.int .i64 b6, Value.int .i64 b7, Value.int .i64 b8, Value.int .i64 b9, Value.int .i64 b10]))) (by kernel_rfl) (ld_boxN (i := 0) (k := 11) rfl rfl rfl (by kernel_rfl)) hS4 ?_
  refine l_op rfl rfl (fun K hK => op_callv (d := some 13) rfl rfl ⟨_, Try.func11, by kernel_rfl, by kernel_rfl⟩ (vs := [Value.agg #[Value.int .i64 b0, Value.int .i64 b1, Value.int .i64 b2, Value.int .i64 b3, Value.int .i64 b4, Value.int .i64 b5, Value.int .i64 b6, Value.int .i64 b7, Value.int .i64 b8, Value.int .i64 b9, Value.int .i64 b10]]) (by kernel_rfl) (v := Value.agg #[Value.int .i64 b0, Value.int .i64 b1, Value.int .i64 b2, Value.int .i64 b3, Value.int .i64 b4, Value.int .i64 b5, Value.int .i64 b6, Value.int .i64 b7, Value.int .i64 b8, Value.int .i64 b9, Value.int .i64 b10]) (toSignal_c b0 b1 b2 b3 b4 b5 b6 b7 b8 b9 b10  _) hS4 (fun w6 hS6 => hK _ _ ?_))
  clear hK K
  refine l_op rfl rfl (fun K hK => op_callv (d := some 14) rfl rfl ⟨_, Try.func19, by kernel_rfl, by kernel_rfl⟩ (vs := [Value.int .i64 a, Value.agg #[Value.int .i64 b0, Value.int .i64 b1, Value.int .i64 b2, Value.int .i64 b3, Value.int .i64 b4, Value.int .i64 b5, Value.int .i64 b6, Value.int .i64 b7, Value.int .i64 b8, Value.int .i64 b9, Value.int .i64 b10]]) (by kernel_rfl) (v := Value.int .i64 (smac a b0 b1 b2 b3 b4)) (SignalMAC_i_c a b0 b1 b2 b3 b4 b5 b6 b7 b8 b9 b10 (i64 (by omega) (by omega)) (i64 (by omega) (by omega)) (i64 (by omega) (by omega)) (i64 (by omega) (by omega)) (i64 (by omega) (by omega)) (i64 (by omega) (by omega)) (i64 (by omega) (by omega)) (i64 (by omega) (by omega)) (i64 (by omega) (by omega)) (i64 (by omega) (by omega)) (i64 (by omega) (by omega)) (i64 (by omega) (by omega)) _) hS6 (fun w7 hS7 => hK _ _ ?_))
  clear hK K
  have hsmq8 := smac_bd a b0 b1 b2 b3 b4
  refine q_seg (S := (fun x_ => St w x_ [Res.box blk2 [Value.int .i64 b0, Value.int .i64 b1, Value.int .i64 b2, Value.int .i64 b3, Value.int .i64 b4, Value.int .i64 b5, Value.int .i64 b6, Value.int .i64 b7, Value.int .i64 b8, Value.int .i64 b9, Value.int .i64 b10] 25])) [(6, Value.int .i64 (smac a b0 b1 b2 b3 b4))] [.no] True (by kernel_rfl) trivial hS7 ?_
  refine l_nil rfl ?_
  refine then_n ?_
  refine wp_seq ?_
  refine wp_seq ?_
  refine c_reg ?_
  refine q_seg (S := (fun x_ => St w x_ [Res.box blk2 [Value.int .i64 b0, Value.int .i64 b1, Value.int .i64 b2, Value.int .i64 b3, Value.int .i64 b4, Value.int .i64 b5, Value.int .i64 b6, Value.int .i64 b7, Value.int .i64 b8, Value.int .i64 b9, Value.int .i64 b10] 25])) [(17, Value.bool (!(decide ((smac a b0 b1 b2 b3 b4) = (smac a b0 b1 b2 b3 b4))))), (16, Value.int .i64 (smac a b0 b1 b2 b3 b4)), (15, Value.int .i64 (smac a b0 b1 b2 b3 b4))] [.no, .no, .no] True (by kernel_rfl) trivial hS7 ?_
  refine l_nil rfl ?_
  refine then_n ?_
  refine c_false (b := (!(decide ((smac a b0 b1 b2 b3 b4) = (smac a b0 b1 b2 b3 b4))))) (by kernel_rfl) (nb (v := true) (decide_eq_true rfl)) ?_
  refine wp_skip ?_
  refine then_n ?_
  refine wp_seq ?_
  refine c_reg ?_
  refine q_seg (S := (fun x_ => St w x_ [Res.box blk2 [Value.int .i64 b0, Value.int .i64 b1, Value.int .i64 b2, Value.int .i64 b3, Value.int .i64 b4, Value.int .i64 b5, Value.int .i64 b6, Value.int .i64 b7, Value.int .i64 b8, Value.int .i64 b9, Value.int .i64 b10] 25])) [(4, Value.bool true)] [.no] True (by kernel_rfl) trivial hS7 ?_
  refine l_nil rfl ?_
  refine then_n ?_
  refine wp_ret ?_
  exact c_end (S := (fun x_ => St w x_ [Res.box blk2 [Value.int .i64 b0, Value.int .i64 b1, Value.int .i64 b2, Value.int .i64 b3, Value.int .i64 b4, Value.int .i64 b5, Value.int .i64 b6, Value.int .i64 b7, Value.int .i64 b8, Value.int .i64 b9, Value.int .i64 b10] 25])) (rs := [.tmp 4]) rfl [] (v := Value.bool true) (C := True) (by kernel_rfl) trivial hS7 ((hS7.rv rfl))
theorem walkFnExactVerifySignal (v0 v1 : Value) (w : World) (i0 : InInt3 w w.heap.size v0) (i1 : InSignal25 w w.heap.size v1) : Calls Try.prog 7 #[v0, v1] w (Tr w) := by
  obtain ⟨a, rfl, ⟨ha1, ha2⟩⟩ := i0
  obtain ⟨b0, b1, b2, b3, b4, b5, b6, b7, b8, b9, b10, rfl, ⟨hb01, hb02⟩, ⟨hb11, hb12⟩, ⟨hb21, hb22⟩, ⟨hb31, hb32⟩, ⟨hb41, hb42⟩, ⟨hb51, hb52⟩, ⟨hb61, hb62⟩, ⟨hb71, hb72⟩, ⟨hb81, hb82⟩, ⟨hb91, hb92⟩, ⟨hb101, hb102⟩⟩ := i1
  refine calls_FA Try.func7 rfl (n := 18) rfl (l := [(0, Value.int .i64 a), (1, Value.agg #[Value.int .i64 b0, Value.int .i64 b1, Value.int .i64 b2, Value.int .i64 b3, Value.int .i64 b4, Value.int .i64 b5, Value.int .i64 b6, Value.int .i64 b7, Value.int .i64 b8, Value.int .i64 b9, Value.int .i64 b10])]) rfl (by simp) (fun g => ?_)
  have hS := St.init w
  refine wp_seq ?_
  refine c_reg ?_
  refine l_op rfl rfl (fun K hK => op_box (d := some 3) rfl rfl [Value.int .i64 b0, Value.int .i64 b1, Value.int .i64 b2, Value.int .i64 b3, Value.int .i64 b4, Value.int .i64 b5, Value.int .i64 b6, Value.int .i64 b7, Value.int .i64 b8, Value.int .i64 b9, Value.int .i64 b10] (by kernel_rfl) hS (fun blk2 w1 hS1 => hK _ _ ?_))
  clear hK K
  refine q_seg (S := (fun x_ => St w x_ [Res.box blk2 [Value.int .i64 b0, Value.int .i64 b1, Value.int .i64 b2, Value.int .i64 b3, Value.int .i64 b4, Value.int .i64 b5, Value.int .i64 b6, Value.int .i64 b7, Value.int .i64 b8, Value.int .i64 b9, Value.int .i64 b10] 25])) [(4, Value.bool false)] [.no] True (by kernel_rfl) trivial hS1 ?_
  refine l_nil rfl ?_
  refine then_n ?_
  refine wp_seq ?_
  refine c_reg ?_
  refine q_seg (S := (fun x_ => St w x_ [Res.box blk2 [Value.int .i64 b0, Value.int .i64 b1, Value.int .i64 b2, Value.int .i64 b3, Value.int .i64 b4, Value.int .i64 b5, Value.int .i64 b6, Value.int .i64 b7, Value.int .i64 b8, Value.int .i64 b9, Value.int .i64 b10] 25])) [(8, Value.agg #[Value.int .i64 b0, Value.int .i64 b1, Value.int .i64 b2, Value.int .i64 b3, Value.int .i64 b4, Value.int .i64 b5, Value.int .i64 b6, Value.int .i64 b7, Value.int .i64 b8, Value.int .i64 b9, Value.int .i64 b10]), (7, Value.int .i64 a)] [.no, .v (Value.agg #[Value.int .i64 b0, Value.int .i64 b1, Value.int .i64 b2, Value.int .i64 b3, Value.int .i64 b4, Value.int .i64 b5, Value.int .i64 b6, Value.int .i64 b7, Value.int .i64 b8, Value.int .i64 b9, Value.int .i64 b10])] ((LoadsAt Try.prog (fun x_ => St w x_ [Res.box blk2 [Value.int .i64 b0, Value.int .i64 b1, Value.int .i64 b2, Value.int .i64 b3, Value.int .i64 b4, Value.int .i64 b5, Value.int .i64 b6, Value.int .i64 b7, Value.int .i64 b8, Value.int .i64 b9, Value.int .i64 b10] 25]) 25 ⟨blk2, 0, none⟩ (Value.agg #[Value.int .i64 b0, Value.int .i64 b1, Value.int .i64 b2, Value.int .i64 b3, Value.int .i64 b4, Value.int .i64 b5, Value.int .i64 b6, Value.int .i64 b7, Value.int .i64 b8, Value.int .i64 b9, Value.int .i64 b10]))) (by kernel_rfl) (ld_boxN (i := 0) (k := 11) rfl rfl rfl (by kernel_rfl)) hS1 ?_
  refine l_op rfl rfl (fun K hK => op_callv (d := some 9) rfl rfl ⟨_, Try.func11, by kernel_rfl, by kernel_rfl⟩ (vs := [Value.agg #[Value.int .i64 b0, Value.int .i64 b1, Value.int .i64 b2, Value.int .i64 b3, Value.int .i64 b4, Value.int .i64 b5, Value.int .i64 b6, Value.int .i64 b7, Value.int .i64 b8, Value.int .i64 b9, Value.int .i64 b10]]) (by kernel_rfl) (v := Value.agg #[Value.int .i64 b0, Value.int .i64 b1, Value.int .i64 b2, Value.int .i64 b3, Value.int .i64 b4, Value.int .i64 b5, Value.int .i64 b6, Value.int .i64 b7, Value.int .i64 b8, Value.int .i64 b9, Value.int .i64 b10]) (toSignal_c b0 b1 b2 b3 b4 b5 b6 b7 b8 b9 b10  _) hS1 (fun w3 hS3 => hK _ _ ?_))
  clear hK K
  refine l_op rfl rfl (fun K hK => op_callv (d := some 10) rfl rfl ⟨_, Try.func20, by kernel_rfl, by kernel_rfl⟩ (vs := [Value.int .i64 a, Value.agg #[Value.int .i64 b0, Value.int .i64 b1, Value.int .i64 b2, Value.int .i64 b3, Value.int .i64 b4, Value.int .i64 b5, Value.int .i64 b6, Value.int .i64 b7, Value.int .i64 b8, Value.int .i64 b9, Value.int .i64 b10]]) (by kernel_rfl) (v := Value.bool (decide (b10 = (smac a b0 b1 b2 b3 b4)))) (VerifySignal_s_c a b0 b1 b2 b3 b4 b5 b6 b7 b8 b9 b10 (i64 (by omega) (by omega)) (i64 (by omega) (by omega)) (i64 (by omega) (by omega)) (i64 (by omega) (by omega)) (i64 (by omega) (by omega)) (i64 (by omega) (by omega)) (i64 (by omega) (by omega)) (i64 (by omega) (by omega)) (i64 (by omega) (by omega)) (i64 (by omega) (by omega)) (i64 (by omega) (by omega)) (i64 (by omega) (by omega)) _) hS3 (fun w4 hS4 => hK _ _ ?_))
  clear hK K
  refine q_seg (S := (fun x_ => St w x_ [Res.box blk2 [Value.int .i64 b0, Value.int .i64 b1, Value.int .i64 b2, Value.int .i64 b3, Value.int .i64 b4, Value.int .i64 b5, Value.int .i64 b6, Value.int .i64 b7, Value.int .i64 b8, Value.int .i64 b9, Value.int .i64 b10] 25])) [(5, Value.bool (decide (b10 = (smac a b0 b1 b2 b3 b4))))] [.no] True (by kernel_rfl) trivial hS4 ?_
  refine l_nil rfl ?_
  refine then_n ?_
  refine wp_seq ?_
  refine c_reg ?_
  refine q_seg (S := (fun x_ => St w x_ [Res.box blk2 [Value.int .i64 b0, Value.int .i64 b1, Value.int .i64 b2, Value.int .i64 b3, Value.int .i64 b4, Value.int .i64 b5, Value.int .i64 b6, Value.int .i64 b7, Value.int .i64 b8, Value.int .i64 b9, Value.int .i64 b10] 25])) [(12, Value.agg #[Value.int .i64 b0, Value.int .i64 b1, Value.int .i64 b2, Value.int .i64 b3, Value.int .i64 b4, Value.int .i64 b5, Value.int .i64 b6, Value.int .i64 b7, Value.int .i64 b8, Value.int .i64 b9, Value.int .i64 b10]), (11, Value.int .i64 a)] [.no, .v (Value.agg #[Value.int .i64 b0, Value.int .i64 b1, Value.int .i64 b2, Value.int .i64 b3, Value.int .i64 b4, Value.int .i64 b5, Value.int .i64 b6, Value.int .i64 b7, Value.int .i64 b8, Value.int .i64 b9, Value.int .i64 b10])] ((LoadsAt Try.prog (fun x_ => St w x_ [Res.box blk2 [Value.int .i64 b0, Value.int .i64 b1, Value.int .i64 b2, Value.int .i64 b3, Value.int .i64 b4, Value.int .i64 b5, Value.int .i64 b6, Value.int .i64 b7, Value.int .i64 b8, Value.int .i64 b9, Value.int .i64 b10] 25]) 25 ⟨blk2, 0, none⟩ (Value.agg #[Value.int .i64 b0, Value.int .i64 b1, Value.int .i64 b2, Value.int .i64 b3, Value.int .i64 b4, Value.int .i64 b5, Value.int .i64 b6, Value.int .i64 b7, Value.int .i64 b8, Value.int .i64 b9, Value.int .i64 b10]))) (by kernel_rfl) (ld_boxN (i := 0) (k := 11) rfl rfl rfl (by kernel_rfl)) hS4 ?_
  refine l_op rfl rfl (fun K hK => op_callv (d := some 13) rfl rfl ⟨_, Try.func11, by kernel_rfl, by kernel_rfl⟩ (vs := [Value.agg #[Value.int .i64 b0, Value.int .i64 b1, Value.int .i64 b2, Value.int .i64 b3, Value.int .i64 b4, Value.int .i64 b5, Value.int .i64 b6, Value.int .i64 b7, Value.int .i64 b8, Value.int .i64 b9, Value.int .i64 b10]]) (by kernel_rfl) (v := Value.agg #[Value.int .i64 b0, Value.int .i64 b1, Value.int .i64 b2, Value.int .i64 b3, Value.int .i64 b4, Value.int .i64 b5, Value.int .i64 b6, Value.int .i64 b7, Value.int .i64 b8, Value.int .i64 b9, Value.int .i64 b10]) (toSignal_c b0 b1 b2 b3 b4 b5 b6 b7 b8 b9 b10  _) hS4 (fun w5 hS5 => hK _ _ ?_))
  clear hK K
  refine l_op rfl rfl (fun K hK => op_callv (d := some 14) rfl rfl ⟨_, Try.func21, by kernel_rfl, by kernel_rfl⟩ (vs := [Value.int .i64 a, Value.agg #[Value.int .i64 b0, Value.int .i64 b1, Value.int .i64 b2, Value.int .i64 b3, Value.int .i64 b4, Value.int .i64 b5, Value.int .i64 b6, Value.int .i64 b7, Value.int .i64 b8, Value.int .i64 b9, Value.int .i64 b10]]) (by kernel_rfl) (v := Value.bool (decide (b10 = (smac a b0 b1 b2 b3 b4)))) (VerifySignal_i_c a b0 b1 b2 b3 b4 b5 b6 b7 b8 b9 b10 (i64 (by omega) (by omega)) (i64 (by omega) (by omega)) (i64 (by omega) (by omega)) (i64 (by omega) (by omega)) (i64 (by omega) (by omega)) (i64 (by omega) (by omega)) (i64 (by omega) (by omega)) (i64 (by omega) (by omega)) (i64 (by omega) (by omega)) (i64 (by omega) (by omega)) (i64 (by omega) (by omega)) (i64 (by omega) (by omega)) _) hS5 (fun w6 hS6 => hK _ _ ?_))
  clear hK K
  refine q_seg (S := (fun x_ => St w x_ [Res.box blk2 [Value.int .i64 b0, Value.int .i64 b1, Value.int .i64 b2, Value.int .i64 b3, Value.int .i64 b4, Value.int .i64 b5, Value.int .i64 b6, Value.int .i64 b7, Value.int .i64 b8, Value.int .i64 b9, Value.int .i64 b10] 25])) [(6, Value.bool (decide (b10 = (smac a b0 b1 b2 b3 b4))))] [.no] True (by kernel_rfl) trivial hS6 ?_
  refine l_nil rfl ?_
  refine then_n ?_
  refine wp_seq ?_
  refine wp_seq ?_
  refine c_reg ?_
  refine q_seg (S := (fun x_ => St w x_ [Res.box blk2 [Value.int .i64 b0, Value.int .i64 b1, Value.int .i64 b2, Value.int .i64 b3, Value.int .i64 b4, Value.int .i64 b5, Value.int .i64 b6, Value.int .i64 b7, Value.int .i64 b8, Value.int .i64 b9, Value.int .i64 b10] 25])) [(17, Value.bool (!(((decide (b10 = (smac a b0 b1 b2 b3 b4))) == (decide (b10 = (smac a b0 b1 b2 b3 b4))))))), (16, Value.bool (decide (b10 = (smac a b0 b1 b2 b3 b4)))), (15, Value.bool (decide (b10 = (smac a b0 b1 b2 b3 b4))))] [.no, .no, .no] True (by kernel_rfl) trivial hS6 ?_
  refine l_nil rfl ?_
  refine then_n ?_
  refine c_false (b := (!(((decide (b10 = (smac a b0 b1 b2 b3 b4))) == (decide (b10 = (smac a b0 b1 b2 b3 b4))))))) (by kernel_rfl) (nb (v := true) (by simp)) ?_
  refine wp_skip ?_
  refine then_n ?_
  refine wp_seq ?_
  refine c_reg ?_
  refine q_seg (S := (fun x_ => St w x_ [Res.box blk2 [Value.int .i64 b0, Value.int .i64 b1, Value.int .i64 b2, Value.int .i64 b3, Value.int .i64 b4, Value.int .i64 b5, Value.int .i64 b6, Value.int .i64 b7, Value.int .i64 b8, Value.int .i64 b9, Value.int .i64 b10] 25])) [(4, Value.bool true)] [.no] True (by kernel_rfl) trivial hS6 ?_
  refine l_nil rfl ?_
  refine then_n ?_
  refine wp_ret ?_
  exact c_end (S := (fun x_ => St w x_ [Res.box blk2 [Value.int .i64 b0, Value.int .i64 b1, Value.int .i64 b2, Value.int .i64 b3, Value.int .i64 b4, Value.int .i64 b5, Value.int .i64 b6, Value.int .i64 b7, Value.int .i64 b8, Value.int .i64 b9, Value.int .i64 b10] 25])) (rs := [.tmp 4]) rfl [] (v := Value.bool true) (C := True) (by kernel_rfl) trivial hS6 ((hS6.rv rfl))
theorem walkFnExactSignSignal (v0 v1 : Value) (w : World) (i0 : InInt3 w w.heap.size v0) (i1 : InSignal25 w w.heap.size v1) : Calls Try.prog 8 #[v0, v1] w (Tr w) := by
  obtain ⟨a, rfl, ⟨ha1, ha2⟩⟩ := i0
  obtain ⟨b0, b1, b2, b3, b4, b5, b6, b7, b8, b9, b10, rfl, ⟨hb01, hb02⟩, ⟨hb11, hb12⟩, ⟨hb21, hb22⟩, ⟨hb31, hb32⟩, ⟨hb41, hb42⟩, ⟨hb51, hb52⟩, ⟨hb61, hb62⟩, ⟨hb71, hb72⟩, ⟨hb81, hb82⟩, ⟨hb91, hb92⟩, ⟨hb101, hb102⟩⟩ := i1
  refine calls_FA Try.func8 rfl (n := 19) rfl (l := [(0, Value.int .i64 a), (1, Value.agg #[Value.int .i64 b0, Value.int .i64 b1, Value.int .i64 b2, Value.int .i64 b3, Value.int .i64 b4, Value.int .i64 b5, Value.int .i64 b6, Value.int .i64 b7, Value.int .i64 b8, Value.int .i64 b9, Value.int .i64 b10])]) rfl (by simp) (fun g => ?_)
  have hS := St.init w
  refine wp_seq ?_
  refine c_reg ?_
  refine l_op rfl rfl (fun K hK => op_box (d := some 3) rfl rfl [Value.int .i64 b0, Value.int .i64 b1, Value.int .i64 b2, Value.int .i64 b3, Value.int .i64 b4, Value.int .i64 b5, Value.int .i64 b6, Value.int .i64 b7, Value.int .i64 b8, Value.int .i64 b9, Value.int .i64 b10] (by kernel_rfl) hS (fun blk2 w1 hS1 => hK _ _ ?_))
  clear hK K
  refine q_seg (S := (fun x_ => St w x_ [Res.box blk2 [Value.int .i64 b0, Value.int .i64 b1, Value.int .i64 b2, Value.int .i64 b3, Value.int .i64 b4, Value.int .i64 b5, Value.int .i64 b6, Value.int .i64 b7, Value.int .i64 b8, Value.int .i64 b9, Value.int .i64 b10] 25])) [(4, Value.bool false)] [.no] True (by kernel_rfl) trivial hS1 ?_
  refine l_nil rfl ?_
  refine then_n ?_
  refine wp_seq ?_
  refine c_reg ?_
  refine q_seg (S := (fun x_ => St w x_ [Res.box blk2 [Value.int .i64 b0, Value.int .i64 b1, Value.int .i64 b2, Value.int .i64 b3, Value.int .i64 b4, Value.int .i64 b5, Value.int .i64 b6, Value.int .i64 b7, Value.int .i64 b8, Value.int .i64 b9, Value.int .i64 b10] 25])) [(8, Value.agg #[Value.int .i64 b0, Value.int .i64 b1, Value.int .i64 b2, Value.int .i64 b3, Value.int .i64 b4, Value.int .i64 b5, Value.int .i64 b6, Value.int .i64 b7, Value.int .i64 b8, Value.int .i64 b9, Value.int .i64 b10]), (7, Value.int .i64 a)] [.no, .v (Value.agg #[Value.int .i64 b0, Value.int .i64 b1, Value.int .i64 b2, Value.int .i64 b3, Value.int .i64 b4, Value.int .i64 b5, Value.int .i64 b6, Value.int .i64 b7, Value.int .i64 b8, Value.int .i64 b9, Value.int .i64 b10])] ((LoadsAt Try.prog (fun x_ => St w x_ [Res.box blk2 [Value.int .i64 b0, Value.int .i64 b1, Value.int .i64 b2, Value.int .i64 b3, Value.int .i64 b4, Value.int .i64 b5, Value.int .i64 b6, Value.int .i64 b7, Value.int .i64 b8, Value.int .i64 b9, Value.int .i64 b10] 25]) 25 ⟨blk2, 0, none⟩ (Value.agg #[Value.int .i64 b0, Value.int .i64 b1, Value.int .i64 b2, Value.int .i64 b3, Value.int .i64 b4, Value.int .i64 b5, Value.int .i64 b6, Value.int .i64 b7, Value.int .i64 b8, Value.int .i64 b9, Value.int .i64 b10]))) (by kernel_rfl) (ld_boxN (i := 0) (k := 11) rfl rfl rfl (by kernel_rfl)) hS1 ?_
  refine l_op rfl rfl (fun K hK => op_callv (d := some 9) rfl rfl ⟨_, Try.func11, by kernel_rfl, by kernel_rfl⟩ (vs := [Value.agg #[Value.int .i64 b0, Value.int .i64 b1, Value.int .i64 b2, Value.int .i64 b3, Value.int .i64 b4, Value.int .i64 b5, Value.int .i64 b6, Value.int .i64 b7, Value.int .i64 b8, Value.int .i64 b9, Value.int .i64 b10]]) (by kernel_rfl) (v := Value.agg #[Value.int .i64 b0, Value.int .i64 b1, Value.int .i64 b2, Value.int .i64 b3, Value.int .i64 b4, Value.int .i64 b5, Value.int .i64 b6, Value.int .i64 b7, Value.int .i64 b8, Value.int .i64 b9, Value.int .i64 b10]) (toSignal_c b0 b1 b2 b3 b4 b5 b6 b7 b8 b9 b10  _) hS1 (fun w3 hS3 => hK _ _ ?_))
  clear hK K
  refine l_op rfl rfl (fun K hK => op_callv (d := some 10) rfl rfl ⟨_, Try.func22, by kernel_rfl, by kernel_rfl⟩ (vs := [Value.int .i64 a, Value.agg #[Value.int .i64 b0, Value.int .i64 b1, Value.int .i64 b2, Value.int .i64 b3, Value.int .i64 b4, Value.int .i64 b5, Value.int .i64 b6, Value.int .i64 b7, Value.int .i64 b8, Value.int .i64 b9, Value.int .i64 b10]]) (by kernel_rfl) (v := Value.agg #[Value.int .i64 b0, Value.int .i64 b1, Value.int .i64 b2, Value.int .i64 b3, Value.int .i64 b4, Value.int .i64 b5, Value.int .i64 b6, Value.int .i64 b7, Value.int .i64 b8, Value.int .i64 b9, Value.int .i64 (smac a b0 b1 b2 b3 b4)]) (SignSignal_s_c a b0 b1 b2 b3 b4 b5 b6 b7 b8 b9 b10 (i64 (by omega) (by omega)) (i64 (by omega) (by omega)) (i64 (by omega) (by omega)) (i64 (by omega) (by omega)) (i64 (by omega) (by omega)) (i64 (by omega) (by omega)) (i64 (by omega) (by omega)) (i64 (by omega) (by omega)) (i64 (by omega) (by omega)) (i64 (by omega) (by omega)) (i64 (by omega) (by omega)) (i64 (by omega) (by omega)) _) hS3 (fun w4 hS4 => hK _ _ ?_))
  clear hK K
  have hsmq5 := smac_bd a b0 b1 b2 b3 b4
  refine l_op rfl rfl (fun K hK => op_alloc (d := some 5) rfl rfl [Value.int .i64 0, Value.int .i64 0, Value.int .i64 0, Value.int .i64 0, Value.int .i64 0, Value.int .i64 0, Value.int .i64 0, Value.int .i64 0, Value.int .i64 0, Value.int .i64 0, Value.int .i64 0] (by kernel_rfl) hS4 (fun blk7 w6 hS6 => hK _ _ ?_))
  clear hK K
  refine l_op rfl rfl (fun K hK => op_store (d := none) rfl rfl (i := 0) (b := blk7) (off := 0) (cs := [Value.int .i64 0, Value.int .i64 0, Value.int .i64 0, Value.int .i64 0, Value.int .i64 0, Value.int .i64 0, Value.int .i64 0, Value.int .i64 0, Value.int .i64 0, Value.int .i64 0, Value.int .i64 0]) (bt := 29) (by kernel_rfl) (by kernel_rfl) [Value.int .i64 b0, Value.int .i64 b1, Value.int .i64 b2, Value.int .i64 b3, Value.int .i64 b4, Value.int .i64 b5, Value.int .i64 b6, Value.int .i64 b7, Value.int .i64 b8, Value.int .i64 b9, Value.int .i64 (smac a b0 b1 b2 b3 b4)] (by kernel_rfl) (by kernel_rfl) (Nat.le_of_ble_eq_true (by kernel_rfl)) (by kernel_rfl) [Res.box blk7 [Value.int .i64 b0, Value.int .i64 b1, Value.int .i64 b2, Value.int .i64 b3, Value.int .i64 b4, Value.int .i64 b5, Value.int .i64 b6, Value.int .i64 b7, Value.int .i64 b8, Value.int .i64 b9, Value.int .i64 (smac a b0 b1 b2 b3 b4)] 29, Res.box blk2 [Value.int .i64 b0, Value.int .i64 b1, Value.int .i64 b2, Value.int .i64 b3, Value.int .i64 b4, Value.int .i64 b5, Value.int .i64 b6, Value.int .i64 b7, Value.int .i64 b8, Value.int .i64 b9, Value.int .i64 b10] 25] (by kernel_rfl) hS6 (fun w8 hS8 => hK _ _ ?_))
  clear hK K
  refine l_nil rfl ?_
  refine then_n ?_
  refine wp_seq ?_
  refine c_reg ?_
  refine q_seg (S := (fun x_ => St w x_ [Res.box blk7 [Value.int .i64 b0, Value.int .i64 b1, Value.int .i64 b2, Value.int .i64 b3, Value.int .i64 b4, Value.int .i64 b5, Value.int .i64 b6, Value.int .i64 b7, Value.int .i64 b8, Value.int .i64 b9, Value.int .i64 (smac a b0 b1 b2 b3 b4)] 29, Res.box blk2 [Value.int .i64 b0, Value.int .i64 b1, Value.int .i64 b2, Value.int .i64 b3, Value.int .i64 b4, Value.int .i64 b5, Value.int .i64 b6, Value.int .i64 b7, Value.int .i64 b8, Value.int .i64 b9, Value.int .i64 b10] 25])) [(12, Value.agg #[Value.int .i64 b0, Value.int .i64 b1, Value.int .i64 b2, Value.int .i64 b3, Value.int .i64 b4, Value.int .i64 b5, Value.int .i64 b6, Value.int .i64 b7, Value.int .i64 b8, Value.int .i64 b9, Value.int .i64 b10]), (11, Value.int .i64 a)] [.no, .v (Value.agg #[Value.int .i64 b0, Value.int .i64 b1, Value.int .i64 b2, Value.int .i64 b3, Value.int .i64 b4, Value.int .i64 b5, Value.int .i64 b6, Value.int .i64 b7, Value.int .i64 b8, Value.int .i64 b9, Value.int .i64 b10])] ((LoadsAt Try.prog (fun x_ => St w x_ [Res.box blk7 [Value.int .i64 b0, Value.int .i64 b1, Value.int .i64 b2, Value.int .i64 b3, Value.int .i64 b4, Value.int .i64 b5, Value.int .i64 b6, Value.int .i64 b7, Value.int .i64 b8, Value.int .i64 b9, Value.int .i64 (smac a b0 b1 b2 b3 b4)] 29, Res.box blk2 [Value.int .i64 b0, Value.int .i64 b1, Value.int .i64 b2, Value.int .i64 b3, Value.int .i64 b4, Value.int .i64 b5, Value.int .i64 b6, Value.int .i64 b7, Value.int .i64 b8, Value.int .i64 b9, Value.int .i64 b10] 25]) 25 ⟨blk2, 0, none⟩ (Value.agg #[Value.int .i64 b0, Value.int .i64 b1, Value.int .i64 b2, Value.int .i64 b3, Value.int .i64 b4, Value.int .i64 b5, Value.int .i64 b6, Value.int .i64 b7, Value.int .i64 b8, Value.int .i64 b9, Value.int .i64 b10]))) (by kernel_rfl) (ld_boxN (i := 1) (k := 11) rfl rfl rfl (by kernel_rfl)) hS8 ?_
  refine l_op rfl rfl (fun K hK => op_callv (d := some 13) rfl rfl ⟨_, Try.func11, by kernel_rfl, by kernel_rfl⟩ (vs := [Value.agg #[Value.int .i64 b0, Value.int .i64 b1, Value.int .i64 b2, Value.int .i64 b3, Value.int .i64 b4, Value.int .i64 b5, Value.int .i64 b6, Value.int .i64 b7, Value.int .i64 b8, Value.int .i64 b9, Value.int .i64 b10]]) (by kernel_rfl) (v := Value.agg #[Value.int .i64 b0, Value.int .i64 b1, Value.int .i64 b2, Value.int .i64 b3, Value.int .i64 b4, Value.int .i64 b5, Value.int .i64 b6, Value.int .i64 b7, Value.int .i64 b8, Value.int .i64 b9, Value.int .i64 b10]) (toSignal_c b0 b1 b2 b3 b4 b5 b6 b7 b8 b9 b10  _) hS8 (fun w9 hS9 => hK _ _ ?_))
  clear hK K
  refine l_op rfl rfl (fun K hK => op_callv (d := some 14) rfl rfl ⟨_, Try.func23, by kernel_rfl, by kernel_rfl⟩ (vs := [Value.int .i64 a, Value.agg #[Value.int .i64 b0, Value.int .i64 b1, Value.int .i64 b2, Value.int .i64 b3, Value.int .i64 b4, Value.int .i64 b5, Value.int .i64 b6, Value.int .i64 b7, Value.int .i64 b8, Value.int .i64 b9, Value.int .i64 b10]]) (by kernel_rfl) (v := Value.agg #[Value.int .i64 b0, Value.int .i64 b1, Value.int .i64 b2, Value.int .i64 b3, Value.int .i64 b4, Value.int .i64 b5, Value.int .i64 b6, Value.int .i64 b7, Value.int .i64 b8, Value.int .i64 b9, Value.int .i64 (smac a b0 b1 b2 b3 b4)]) (SignSignal_i_c a b0 b1 b2 b3 b4 b5 b6 b7 b8 b9 b10 (i64 (by omega) (by omega)) (i64 (by omega) (by omega)) (i64 (by omega) (by omega)) (i64 (by omega) (by omega)) (i64 (by omega) (by omega)) (i64 (by omega) (by omega)) (i64 (by omega) (by omega)) (i64 (by omega) (by omega)) (i64 (by omega) (by omega)) (i64 (by omega) (by omega)) (i64 (by omega) (by omega)) (i64 (by omega) (by omega)) _) hS9 (fun w10 hS10 => hK _ _ ?_))
  clear hK K
  have hsmq11 := smac_bd a b0 b1 b2 b3 b4
  refine l_op rfl rfl (fun K hK => op_alloc (d := some 6) rfl rfl [Value.int .i64 0, Value.int .i64 0, Value.int .i64 0, Value.int .i64 0, Value.int .i64 0, Value.int .i64 0, Value.int .i64 0, Value.int .i64 0, Value.int .i64 0, Value.int .i64 0, Value.int .i64 0] (by kernel_rfl) hS10 (fun blk13 w12 hS12 => hK _ _ ?_))
  clear hK K
  refine l_op rfl rfl (fun K hK => op_store (d := none) rfl rfl (i := 0) (b := blk13) (off := 0) (cs := [Value.int .i64 0, Value.int .i64 0, Value.int .i64 0, Value.int .i64 0, Value.int .i64 0, Value.int .i64 0, Value.int .i64 0, Value.int .i64 0, Value.int .i64 0, Value.int .i64 0, Value.int .i64 0]) (bt := 29) (by kernel_rfl) (by kernel_rfl) [Value.int .i64 b0, Value.int .i64 b1, Value.int .i64 b2, Value.int .i64 b3, Value.int .i64 b4, Value.int .i64 b5, Value.int .i64 b6, Value.int .i64 b7, Value.int .i64 b8, Value.int .i64 b9, Value.int .i64 (smac a b0 b1 b2 b3 b4)] (by kernel_rfl) (by kernel_rfl) (Nat.le_of_ble_eq_true (by kernel_rfl)) (by kernel_rfl) [Res.box blk13 [Value.int .i64 b0, Value.int .i64 b1, Value.int .i64 b2, Value.int .i64 b3, Value.int .i64 b4, Value.int .i64 b5, Value.int .i64 b6, Value.int .i64 b7, Value.int .i64 b8, Value.int .i64 b9, Value.int .i64 (smac a b0 b1 b2 b3 b4)] 29, Res.box blk7 [Value.int .i64 b0, Value.int .i64 b1, Value.int .i64 b2, Value.int .i64 b3, Value.int .i64 b4, Value.int .i64 b5, Value.int .i64 b6, Value.int .i64 b7, Value.int .i64 b8, Value.int .i64 b9, Value.int .i64 (smac a b0 b1 b2 b3 b4)] 29, Res.box blk2 [Value.int .i64 b0, Value.int .i64 b1, Value.int .i64 b2, Value.int .i64 b3, Value.int .i64 b4, Value.int .i64 b5, Value.int .i64 b6, Value.int .i64 b7, Value.int .i64 b8, Value.int .i64 b9, Value.int .i64 b10] 25] (by kernel_rfl) hS12 (fun w14 hS14 => hK _ _ ?_))
  clear hK K
  refine l_nil rfl ?_
  refine then_n ?_
  refine wp_seq ?_
  refine wp_seq ?_
  refine c_reg ?_
  refine q_seg (S := (fun x_ => St w x_ [Res.box blk13 [Value.int .i64 b0, Value.int .i64 b1, Value.int .i64 b2, Value.int .i64 b3, Value.int .i64 b4, Value.int .i64 b5, Value.int .i64 b6, Value.int .i64 b7, Value.int .i64 b8, Value.int .i64 b9, Value.int .i64 (smac a b0 b1 b2 b3 b4)] 29, Res.box blk7 [Value.int .i64 b0, Value.int .i64 b1, Value.int .i64 b2, Value.int .i64 b3, Value.int .i64 b4, Value.int .i64 b5, Value.int .i64 b6, Value.int .i64 b7, Value.int .i64 b8, Value.int .i64 b9, Value.int .i64 (smac a b0 b1 b2 b3 b4)] 29, Res.box blk2 [Value.int .i64 b0, Value.int .i64 b1, Value.int .i64 b2, Value.int .i64 b3, Value.int .i64 b4, Value.int .i64 b5, Value.int .i64 b6, Value.int .i64 b7, Value.int .i64 b8, Value.int .i64 b9, Value.int .i64 b10] 25])) [(16, Value.agg #[Value.int .i64 b0, Value.int .i64 b1, Value.int .i64 b2, Value.int .i64 b3, Value.int .i64 b4, Value.int .i64 b5, Value.int .i64 b6, Value.int .i64 b7, Value.int .i64 b8, Value.int .i64 b9, Value.int .i64 (smac a b0 b1 b2 b3 b4)]), (15, Value.agg #[Value.int .i64 b0, Value.int .i64 b1, Value.int .i64 b2, Value.int .i64 b3, Value.int .i64 b4, Value.int .i64 b5, Value.int .i64 b6, Value.int .i64 b7, Value.int .i64 b8, Value.int .i64 b9, Value.int .i64 (smac a b0 b1 b2 b3 b4)])] [.v (Value.agg #[Value.int .i64 b0, Value.int .i64 b1, Value.int .i64 b2, Value.int .i64 b3, Value.int .i64 b4, Value.int .i64 b5, Value.int .i64 b6, Value.int .i64 b7, Value.int .i64 b8, Value.int .i64 b9, Value.int .i64 (smac a b0 b1 b2 b3 b4)]), .v (Value.agg #[Value.int .i64 b0, Value.int .i64 b1, Value.int .i64 b2, Value.int .i64 b3, Value.int .i64 b4, Value.int .i64 b5, Value.int .i64 b6, Value.int .i64 b7, Value.int .i64 b8, Value.int .i64 b9, Value.int .i64 (smac a b0 b1 b2 b3 b4)])] ((LoadsAt Try.prog (fun x_ => St w x_ [Res.box blk13 [Value.int .i64 b0, Value.int .i64 b1, Value.int .i64 b2, Value.int .i64 b3, Value.int .i64 b4, Value.int .i64 b5, Value.int .i64 b6, Value.int .i64 b7, Value.int .i64 b8, Value.int .i64 b9, Value.int .i64 (smac a b0 b1 b2 b3 b4)] 29, Res.box blk7 [Value.int .i64 b0, Value.int .i64 b1, Value.int .i64 b2, Value.int .i64 b3, Value.int .i64 b4, Value.int .i64 b5, Value.int .i64 b6, Value.int .i64 b7, Value.int .i64 b8, Value.int .i64 b9, Value.int .i64 (smac a b0 b1 b2 b3 b4)] 29, Res.box blk2 [Value.int .i64 b0, Value.int .i64 b1, Value.int .i64 b2, Value.int .i64 b3, Value.int .i64 b4, Value.int .i64 b5, Value.int .i64 b6, Value.int .i64 b7, Value.int .i64 b8, Value.int .i64 b9, Value.int .i64 b10] 25]) 29 ⟨blk13, 0, none⟩ (Value.agg #[Value.int .i64 b0, Value.int .i64 b1, Value.int .i64 b2, Value.int .i64 b3, Value.int .i64 b4, Value.int .i64 b5, Value.int .i64 b6, Value.int .i64 b7, Value.int .i64 b8, Value.int .i64 b9, Value.int .i64 (smac a b0 b1 b2 b3 b4)])) ∧ (LoadsAt Try.prog (fun x_ => St w x_ [Res.box blk13 [Value.int .i64 b0, Value.int .i64 b1, Value.int .i64 b2, Value.int .i64 b3, Value.int .i64 b4, Value.int .i64 b5, Value.int .i64 b6, Value.int .i64 b7, Value.int .i64 b8, Value.int .i64 b9, Value.int .i64 (smac a b0 b1 b2 b3 b4)] 29, Res.box blk7 [Value.int .i64 b0, Value.int .i64 b1, Value.int .i64 b2, Value.int .i64 b3, Value.int .i64 b4, Value.int .i64 b5, Value.int .i64 b6, Value.int .i64 b7, Value.int .i64 b8, Value.int .i64 b9, Value.int .i64 (smac a b0 b1 b2 b3 b4)] 29, Res.box blk2 [Value.int .i64 b0, Value.int .i64 b1, Value.int .i64 b2, Value.int .i64 b3, Value.int .i64 b4, Value.int .i64 b5, Value.int .i64 b6, Value.int .i64 b7, Value.int .i64 b8, Value.int .i64 b9, Value.int .i64 b10] 25]) 29 ⟨blk7, 0, none⟩ (Value.agg #[Value.int .i64 b0, Value.int .i64 b1, Value.int .i64 b2, Value.int .i64 b3, Value.int .i64 b4, Value.int .i64 b5, Value.int .i64 b6, Value.int .i64 b7, Value.int .i64 b8, Value.int .i64 b9, Value.int .i64 (smac a b0 b1 b2 b3 b4)]))) (by kernel_rfl) ⟨(ld_boxN (i := 0) (k := 11) rfl rfl rfl (by kernel_rfl)), (ld_boxN (i := 1) (k := 11) rfl rfl rfl (by kernel_rfl))⟩ hS14 ?_
  refine l_op rfl rfl (fun K hK => op_callv (d := some 17) rfl rfl ⟨_, Try.func24, by kernel_rfl, by kernel_rfl⟩ (vs := [Value.agg #[Value.int .i64 b0, Value.int .i64 b1, Value.int .i64 b2, Value.int .i64 b3, Value.int .i64 b4, Value.int .i64 b5, Value.int .i64 b6, Value.int .i64 b7, Value.int .i64 b8, Value.int .i64 b9, Value.int .i64 (smac a b0 b1 b2 b3 b4)], Value.agg #[Value.int .i64 b0, Value.int .i64 b1, Value.int .i64 b2, Value.int .i64 b3, Value.int .i64 b4, Value.int .i64 b5, Value.int .i64 b6, Value.int .i64 b7, Value.int .i64 b8, Value.int .i64 b9, Value.int .i64 (smac a b0 b1 b2 b3 b4)]]) (by kernel_rfl) (v := Value.bool true) (eqSignal_c b0 b1 b2 b3 b4 b5 b6 b7 b8 b9 (smac a b0 b1 b2 b3 b4) _) hS14 (fun w15 hS15 => hK _ _ ?_))
  clear hK K
  refine q_seg (S := (fun x_ => St w x_ [Res.box blk13 [Value.int .i64 b0, Value.int .i64 b1, Value.int .i64 b2, Value.int .i64 b3, Value.int .i64 b4, Value.int .i64 b5, Value.int .i64 b6, Value.int .i64 b7, Value.int .i64 b8, Value.int .i64 b9, Value.int .i64 (smac a b0 b1 b2 b3 b4)] 29, Res.box blk7 [Value.int .i64 b0, Value.int .i64 b1, Value.int .i64 b2, Value.int .i64 b3, Value.int .i64 b4, Value.int .i64 b5, Value.int .i64 b6, Value.int .i64 b7, Value.int .i64 b8, Value.int .i64 b9, Value.int .i64 (smac a b0 b1 b2 b3 b4)] 29, Res.box blk2 [Value.int .i64 b0, Value.int .i64 b1, Value.int .i64 b2, Value.int .i64 b3, Value.int .i64 b4, Value.int .i64 b5, Value.int .i64 b6, Value.int .i64 b7, Value.int .i64 b8, Value.int .i64 b9, Value.int .i64 b10] 25])) [(18, Value.bool false)] [.no] True (by kernel_rfl) trivial hS15 ?_
  refine l_nil rfl ?_
  refine then_n ?_
  refine c_false (b := false) (by kernel_rfl) rfl ?_
  refine wp_skip ?_
  refine then_n ?_
  refine wp_seq ?_
  refine c_reg ?_
  refine q_seg (S := (fun x_ => St w x_ [Res.box blk13 [Value.int .i64 b0, Value.int .i64 b1, Value.int .i64 b2, Value.int .i64 b3, Value.int .i64 b4, Value.int .i64 b5, Value.int .i64 b6, Value.int .i64 b7, Value.int .i64 b8, Value.int .i64 b9, Value.int .i64 (smac a b0 b1 b2 b3 b4)] 29, Res.box blk7 [Value.int .i64 b0, Value.int .i64 b1, Value.int .i64 b2, Value.int .i64 b3, Value.int .i64 b4, Value.int .i64 b5, Value.int .i64 b6, Value.int .i64 b7, Value.int .i64 b8, Value.int .i64 b9, Value.int .i64 (smac a b0 b1 b2 b3 b4)] 29, Res.box blk2 [Value.int .i64 b0, Value.int .i64 b1, Value.int .i64 b2, Value.int .i64 b3, Value.int .i64 b4, Value.int .i64 b5, Value.int .i64 b6, Value.int .i64 b7, Value.int .i64 b8, Value.int .i64 b9, Value.int .i64 b10] 25])) [(4, Value.bool true)] [.no] True (by kernel_rfl) trivial hS15 ?_
  refine l_nil rfl ?_
  refine then_n ?_
  refine wp_ret ?_
  exact c_end (S := (fun x_ => St w x_ [Res.box blk13 [Value.int .i64 b0, Value.int .i64 b1, Value.int .i64 b2, Value.int .i64 b3, Value.int .i64 b4, Value.int .i64 b5, Value.int .i64 b6, Value.int .i64 b7, Value.int .i64 b8, Value.int .i64 b9, Value.int .i64 (smac a b0 b1 b2 b3 b4)] 29, Res.box blk7 [Value.int .i64 b0, Value.int .i64 b1, Value.int .i64 b2, Value.int .i64 b3, Value.int .i64 b4, Value.int .i64 b5, Value.int .i64 b6, Value.int .i64 b7, Value.int .i64 b8, Value.int .i64 b9, Value.int .i64 (smac a b0 b1 b2 b3 b4)] 29, Res.box blk2 [Value.int .i64 b0, Value.int .i64 b1, Value.int .i64 b2, Value.int .i64 b3, Value.int .i64 b4, Value.int .i64 b5, Value.int .i64 b6, Value.int .i64 b7, Value.int .i64 b8, Value.int .i64 b9, Value.int .i64 b10] 25])) (rs := [.tmp 4]) rfl [] (v := Value.bool true) (C := True) (by kernel_rfl) trivial hS15 ((hS15.rv rfl))
end Go.Proofs.Ytpbempcbodoajaa
