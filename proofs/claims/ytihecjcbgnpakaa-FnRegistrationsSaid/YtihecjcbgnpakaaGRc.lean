/-
  Contracts of registrations: copies, comparisons, marks, what is found, what is valid.
-/
import Derived.Test.YtihecjcbgnpakaaGSl
import Derived.Test.YtihecjcbgnpakaaTypes
import Derived.Test.YtihecjcbgnpakaaRecQ
namespace Go.Proofs.Ytihecjcbgnpakaa
open Go.RowKit
set_option maxRecDepth 100000

theorem el_37 : El Try.prog 30 37 (Value.agg #[Value.int .i64 0, Value.int .i64 0, Value.int .i64 0, Value.int .i64 0, Value.int .i64 0, Value.int .i64 0]) 6 48 := ⟨Try.underlying30, info_parts (by kernel_rfl), rfl, by decide⟩

theorem toSubscriberID_c (a0 : Int) (a1 : Int) (w : World) : Calls Try.prog 23 #[Value.agg #[Value.int .i64 a0, Value.int .i64 a1]] w (RetV w (Value.agg #[Value.int .i64 a0, Value.int .i64 a1])) := by
  refine calls_FA Try.func23 rfl (n := 11) rfl (l := [(0, Value.agg #[Value.int .i64 a0, Value.int .i64 a1])]) rfl (by simp) (fun g => ?_)
  have hS := St.init w
  refine wp_seq ?_
  refine c_reg ?_
  refine l_op rfl rfl (fun K hK => op_box (d := some 1) rfl rfl [Value.int .i64 a0, Value.int .i64 a1] (by kernel_rfl) hS (fun blk2 w1 hS1 => hK _ _ ?_))
  clear hK K
  refine l_op rfl rfl (fun K hK => op_alloc (d := some 2) rfl rfl [Value.int .i64 0, Value.int .i64 0] (by kernel_rfl) hS1 (fun blk4 w3 hS3 => hK _ _ ?_))
  clear hK K
  refine l_nil rfl ?_
  refine then_n ?_
  refine wp_seq ?_
  refine c_reg ?_
  refine l_op rfl rfl (fun K hK => op_alloc (d := some 3) rfl rfl [Value.int .i64 0, Value.int .i64 0] (by kernel_rfl) hS3 (fun blk6 w5 hS5 => hK _ _ ?_))
  clear hK K
  refine l_nil rfl ?_
  refine then_n ?_
  refine wp_seq ?_
  refine c_reg ?_
  refine q_seg (S := (fun x_ => St w x_ [Res.box blk6 [Value.int .i64 0, Value.int .i64 0] 34, Res.box blk4 [Value.int .i64 0, Value.int .i64 0] 34, Res.box blk2 [Value.int .i64 a0, Value.int .i64 a1] 24])) [(6, Value.pointer (some ⟨blk6, 0 + 0, none⟩)), (5, Value.int .i64 a0), (4, Value.pointer (some ⟨blk2, 0 + 0, none⟩))] [.no, .v (Value.int .i64 a0), .no] ((LoadsAt Try.prog (fun x_ => St w x_ [Res.box blk6 [Value.int .i64 0, Value.int .i64 0] 34, Res.box blk4 [Value.int .i64 0, Value.int .i64 0] 34, Res.box blk2 [Value.int .i64 a0, Value.int .i64 a1] 24]) 3 ⟨blk2, 0 + 0, none⟩ (Value.int .i64 a0))) (by kernel_rfl) (ld_box (i := 2) rfl rfl (by kernel_rfl)) hS5 ?_
  refine l_op rfl rfl (fun K hK => op_store (d := none) rfl rfl (i := 0) (b := blk6) (off := 0 + 0) (cs := [Value.int .i64 0, Value.int .i64 0]) (bt := 34) (by kernel_rfl) (by kernel_rfl) [Value.int .i64 a0] (by kernel_rfl) (by kernel_rfl) (Nat.le_of_ble_eq_true (by kernel_rfl)) (by kernel_rfl) [Res.box blk6 [Value.int .i64 a0, Value.int .i64 0] 34, Res.box blk4 [Value.int .i64 0, Value.int .i64 0] 34, Res.box blk2 [Value.int .i64 a0, Value.int .i64 a1] 24] (by kernel_rfl) hS5 (fun w7 hS7 => hK _ _ ?_))
  clear hK K
  refine l_nil rfl ?_
  refine then_n ?_
  refine wp_seq ?_
  refine c_reg ?_
  refine q_seg (S := (fun x_ => St w x_ [Res.box blk6 [Value.int .i64 a0, Value.int .i64 0] 34, Res.box blk4 [Value.int .i64 0, Value.int .i64 0] 34, Res.box blk2 [Value.int .i64 a0, Value.int .i64 a1] 24])) [(9, Value.pointer (some ⟨blk6, 0 + 1, none⟩)), (8, Value.int .i64 a1), (7, Value.pointer (some ⟨blk2, 0 + 1, none⟩))] [.no, .v (Value.int .i64 a1), .no] ((LoadsAt Try.prog (fun x_ => St w x_ [Res.box blk6 [Value.int .i64 a0, Value.int .i64 0] 34, Res.box blk4 [Value.int .i64 0, Value.int .i64 0] 34, Res.box blk2 [Value.int .i64 a0, Value.int .i64 a1] 24]) 3 ⟨blk2, 0 + 1, none⟩ (Value.int .i64 a1))) (by kernel_rfl) (ld_box (i := 2) rfl rfl (by kernel_rfl)) hS7 ?_
  refine l_op rfl rfl (fun K hK => op_store (d := none) rfl rfl (i := 0) (b := blk6) (off := 0 + 1) (cs := [Value.int .i64 a0, Value.int .i64 0]) (bt := 34) (by kernel_rfl) (by kernel_rfl) [Value.int .i64 a1] (by kernel_rfl) (by kernel_rfl) (Nat.le_of_ble_eq_true (by kernel_rfl)) (by kernel_rfl) [Res.box blk6 [Value.int .i64 a0, Value.int .i64 a1] 34, Res.box blk4 [Value.int .i64 0, Value.int .i64 0] 34, Res.box blk2 [Value.int .i64 a0, Value.int .i64 a1] 24] (by kernel_rfl) hS7 (fun w8 hS8 => hK _ _ ?_))
  clear hK K
  refine l_nil rfl ?_
  refine then_n ?_
  refine wp_seq ?_
  refine c_reg ?_
  refine q_seg (S := (fun x_ => St w x_ [Res.box blk6 [Value.int .i64 a0, Value.int .i64 a1] 34, Res.box blk4 [Value.int .i64 0, Value.int .i64 0] 34, Res.box blk2 [Value.int .i64 a0, Value.int .i64 a1] 24])) [(10, Value.agg #[Value.int .i64 a0, Value.int .i64 a1])] [.v (Value.agg #[Value.int .i64 a0, Value.int .i64 a1])] ((LoadsAt Try.prog (fun x_ => St w x_ [Res.box blk6 [Value.int .i64 a0, Value.int .i64 a1] 34, Res.box blk4 [Value.int .i64 0, Value.int .i64 0] 34, Res.box blk2 [Value.int .i64 a0, Value.int .i64 a1] 24]) 34 ⟨blk6, 0, none⟩ (Value.agg #[Value.int .i64 a0, Value.int .i64 a1]))) (by kernel_rfl) (ld_boxN (i := 0) (k := 2) rfl rfl rfl (by kernel_rfl)) hS8 ?_
  refine l_op rfl rfl (fun K hK => op_store (d := none) rfl rfl (i := 1) (b := blk4) (off := 0) (cs := [Value.int .i64 0, Value.int .i64 0]) (bt := 34) (by kernel_rfl) (by kernel_rfl) [Value.int .i64 a0, Value.int .i64 a1] (by kernel_rfl) (by kernel_rfl) (Nat.le_of_ble_eq_true (by kernel_rfl)) (by kernel_rfl) [Res.box blk6 [Value.int .i64 a0, Value.int .i64 a1] 34, Res.box blk4 [Value.int .i64 a0, Value.int .i64 a1] 34, Res.box blk2 [Value.int .i64 a0, Value.int .i64 a1] 24] (by kernel_rfl) hS8 (fun w9 hS9 => hK _ _ ?_))
  clear hK K
  refine l_nil rfl ?_
  refine then_n ?_
  refine wp_ret ?_
  exact c_end (S := (fun x_ => St w x_ [Res.box blk6 [Value.int .i64 a0, Value.int .i64 a1] 34, Res.box blk4 [Value.int .i64 a0, Value.int .i64 a1] 34, Res.box blk2 [Value.int .i64 a0, Value.int .i64 a1] 24])) (rs := [.cell 2 34]) rfl [Value.agg #[Value.int .i64 a0, Value.int .i64 a1]] (v := Value.agg #[Value.int .i64 a0, Value.int .i64 a1]) (C := ((LoadsAt Try.prog (fun x_ => St w x_ [Res.box blk6 [Value.int .i64 a0, Value.int .i64 a1] 34, Res.box blk4 [Value.int .i64 a0, Value.int .i64 a1] 34, Res.box blk2 [Value.int .i64 a0, Value.int .i64 a1] 24]) 34 ⟨blk4, 0, none⟩ (Value.agg #[Value.int .i64 a0, Value.int .i64 a1])))) (by kernel_rfl) (ld_boxN (i := 1) (k := 2) rfl rfl rfl (by kernel_rfl)) hS9 ((hS9.rv rfl))
theorem eqSubscriberID_c (a0 : Int) (a1 : Int) (w : World) : Calls Try.prog 40 #[Value.agg #[Value.int .i64 a0, Value.int .i64 a1], Value.agg #[Value.int .i64 a0, Value.int .i64 a1]] w (RetV w (.bool true)) := by
  refine calls_FA Try.func40 rfl (n := 15) rfl (l := [(0, Value.agg #[Value.int .i64 a0, Value.int .i64 a1]), (1, Value.agg #[Value.int .i64 a0, Value.int .i64 a1])]) rfl (by simp) (fun g => ?_)
  have hS := St.init w
  refine wp_seq ?_
  refine c_reg ?_
  refine l_op rfl rfl (fun K hK => op_box (d := some 2) rfl rfl [Value.int .i64 a0, Value.int .i64 a1] (by kernel_rfl) hS (fun blk2 w1 hS1 => hK _ _ ?_))
  clear hK K
  refine l_op rfl rfl (fun K hK => op_box (d := some 3) rfl rfl [Value.int .i64 a0, Value.int .i64 a1] (by kernel_rfl) hS1 (fun blk4 w3 hS3 => hK _ _ ?_))
  clear hK K
  refine q_seg (S := (fun x_ => St w x_ [Res.box blk4 [Value.int .i64 a0, Value.int .i64 a1] 34, Res.box blk2 [Value.int .i64 a0, Value.int .i64 a1] 34])) [(4, Value.bool false)] [.no] True (by kernel_rfl) trivial hS3 ?_
  refine l_nil rfl ?_
  refine then_n ?_
  refine wp_seq ?_
  refine wp_seq ?_
  refine c_reg ?_
  refine q_seg (S := (fun x_ => St w x_ [Res.box blk4 [Value.int .i64 a0, Value.int .i64 a1] 34, Res.box blk2 [Value.int .i64 a0, Value.int .i64 a1] 34])) [(9, Value.bool (!(decide (a0 = a0)))), (8, Value.int .i64 a0), (7, Value.pointer (some ⟨blk4, 0 + 0, none⟩)), (6, Value.int .i64 a0), (5, Value.pointer (some ⟨blk2, 0 + 0, none⟩))] [.no, .v (Value.int .i64 a0), .no, .v (Value.int .i64 a0), .no] ((LoadsAt Try.prog (fun x_ => St w x_ [Res.box blk4 [Value.int .i64 a0, Value.int .i64 a1] 34, Res.box blk2 [Value.int .i64 a0, Value.int .i64 a1] 34]) 3 ⟨blk2, 0 + 0, none⟩ (Value.int .i64 a0)) ∧ (LoadsAt Try.prog (fun x_ => St w x_ [Res.box blk4 [Value.int .i64 a0, Value.int .i64 a1] 34, Res.box blk2 [Value.int .i64 a0, Value.int .i64 a1] 34]) 3 ⟨blk4, 0 + 0, none⟩ (Value.int .i64 a0))) (by kernel_rfl) ⟨(ld_box (i := 1) rfl rfl (by kernel_rfl)), (ld_box (i := 0) rfl rfl (by kernel_rfl))⟩ hS3 ?_
  refine l_nil rfl ?_
  refine then_n ?_
  refine c_false (b := (!(decide (a0 = a0)))) (by kernel_rfl) (nb (v := true) (decide_eq_true rfl)) ?_
  refine wp_skip ?_
  refine then_n ?_
  refine wp_seq ?_
  refine wp_seq ?_
  refine c_reg ?_
  refine q_seg (S := (fun x_ => St w x_ [Res.box blk4 [Value.int .i64 a0, Value.int .i64 a1] 34, Res.box blk2 [Value.int .i64 a0, Value.int .i64 a1] 34])) [(14, Value.bool (!(decide (a1 = a1)))), (13, Value.int .i64 a1), (12, Value.pointer (some ⟨blk4, 0 + 1, none⟩)), (11, Value.int .i64 a1), (10, Value.pointer (some ⟨blk2, 0 + 1, none⟩))] [.no, .v (Value.int .i64 a1), .no, .v (Value.int .i64 a1), .no] ((LoadsAt Try.prog (fun x_ => St w x_ [Res.box blk4 [Value.int .i64 a0, Value.int .i64 a1] 34, Res.box blk2 [Value.int .i64 a0, Value.int .i64 a1] 34]) 3 ⟨blk2, 0 + 1, none⟩ (Value.int .i64 a1)) ∧ (LoadsAt Try.prog (fun x_ => St w x_ [Res.box blk4 [Value.int .i64 a0, Value.int .i64 a1] 34, Res.box blk2 [Value.int .i64 a0, Value.int .i64 a1] 34]) 3 ⟨blk4, 0 + 1, none⟩ (Value.int .i64 a1))) (by kernel_rfl) ⟨(ld_box (i := 1) rfl rfl (by kernel_rfl)), (ld_box (i := 0) rfl rfl (by kernel_rfl))⟩ hS3 ?_
  refine l_nil rfl ?_
  refine then_n ?_
  refine c_false (b := (!(decide (a1 = a1)))) (by kernel_rfl) (nb (v := true) (decide_eq_true rfl)) ?_
  refine wp_skip ?_
  refine then_n ?_
  refine wp_seq ?_
  refine c_reg ?_
  refine q_seg (S := (fun x_ => St w x_ [Res.box blk4 [Value.int .i64 a0, Value.int .i64 a1] 34, Res.box blk2 [Value.int .i64 a0, Value.int .i64 a1] 34])) [(4, Value.bool true)] [.no] True (by kernel_rfl) trivial hS3 ?_
  refine l_nil rfl ?_
  refine then_n ?_
  refine wp_ret ?_
  exact c_end (S := (fun x_ => St w x_ [Res.box blk4 [Value.int .i64 a0, Value.int .i64 a1] 34, Res.box blk2 [Value.int .i64 a0, Value.int .i64 a1] 34])) (rs := [.tmp 4]) rfl [] (v := Value.bool true) (C := True) (by kernel_rfl) trivial hS3 ((hS3.rv rfl))

theorem toTempID_c (a0 : Int) (a1 : Int) (w : World) : Calls Try.prog 24 #[Value.agg #[Value.int .i64 a0, Value.int .i64 a1]] w (RetV w (Value.agg #[Value.int .i64 a0, Value.int .i64 a1])) := by
  refine calls_FA Try.func24 rfl (n := 11) rfl (l := [(0, Value.agg #[Value.int .i64 a0, Value.int .i64 a1])]) rfl (by simp) (fun g => ?_)
  have hS := St.init w
  refine wp_seq ?_
  refine c_reg ?_
  refine l_op rfl rfl (fun K hK => op_box (d := some 1) rfl rfl [Value.int .i64 a0, Value.int .i64 a1] (by kernel_rfl) hS (fun blk2 w1 hS1 => hK _ _ ?_))
  clear hK K
  refine l_op rfl rfl (fun K hK => op_alloc (d := some 2) rfl rfl [Value.int .i64 0, Value.int .i64 0] (by kernel_rfl) hS1 (fun blk4 w3 hS3 => hK _ _ ?_))
  clear hK K
  refine l_nil rfl ?_
  refine then_n ?_
  refine wp_seq ?_
  refine c_reg ?_
  refine l_op rfl rfl (fun K hK => op_alloc (d := some 3) rfl rfl [Value.int .i64 0, Value.int .i64 0] (by kernel_rfl) hS3 (fun blk6 w5 hS5 => hK _ _ ?_))
  clear hK K
  refine l_nil rfl ?_
  refine then_n ?_
  refine wp_seq ?_
  refine c_reg ?_
  refine q_seg (S := (fun x_ => St w x_ [Res.box blk6 [Value.int .i64 0, Value.int .i64 0] 35, Res.box blk4 [Value.int .i64 0, Value.int .i64 0] 35, Res.box blk2 [Value.int .i64 a0, Value.int .i64 a1] 26])) [(6, Value.pointer (some ⟨blk6, 0 + 0, none⟩)), (5, Value.int .i64 a0), (4, Value.pointer (some ⟨blk2, 0 + 0, none⟩))] [.no, .v (Value.int .i64 a0), .no] ((LoadsAt Try.prog (fun x_ => St w x_ [Res.box blk6 [Value.int .i64 0, Value.int .i64 0] 35, Res.box blk4 [Value.int .i64 0, Value.int .i64 0] 35, Res.box blk2 [Value.int .i64 a0, Value.int .i64 a1] 26]) 3 ⟨blk2, 0 + 0, none⟩ (Value.int .i64 a0))) (by kernel_rfl) (ld_box (i := 2) rfl rfl (by kernel_rfl)) hS5 ?_
  refine l_op rfl rfl (fun K hK => op_store (d := none) rfl rfl (i := 0) (b := blk6) (off := 0 + 0) (cs := [Value.int .i64 0, Value.int .i64 0]) (bt := 35) (by kernel_rfl) (by kernel_rfl) [Value.int .i64 a0] (by kernel_rfl) (by kernel_rfl) (Nat.le_of_ble_eq_true (by kernel_rfl)) (by kernel_rfl) [Res.box blk6 [Value.int .i64 a0, Value.int .i64 0] 35, Res.box blk4 [Value.int .i64 0, Value.int .i64 0] 35, Res.box blk2 [Value.int .i64 a0, Value.int .i64 a1] 26] (by kernel_rfl) hS5 (fun w7 hS7 => hK _ _ ?_))
  clear hK K
  refine l_nil rfl ?_
  refine then_n ?_
  refine wp_seq ?_
  refine c_reg ?_
  refine q_seg (S := (fun x_ => St w x_ [Res.box blk6 [Value.int .i64 a0, Value.int .i64 0] 35, Res.box blk4 [Value.int .i64 0, Value.int .i64 0] 35, Res.box blk2 [Value.int .i64 a0, Value.int .i64 a1] 26])) [(9, Value.pointer (some ⟨blk6, 0 + 1, none⟩)), (8, Value.int .i64 a1), (7, Value.pointer (some ⟨blk2, 0 + 1, none⟩))] [.no, .v (Value.int .i64 a1), .no] ((LoadsAt Try.prog (fun x_ => St w x_ [Res.box blk6 [Value.int .i64 a0, Value.int .i64 0] 35, Res.box blk4 [Value.int .i64 0, Value.int .i64 0] 35, Res.box blk2 [Value.int .i64 a0, Value.int .i64 a1] 26]) 3 ⟨blk2, 0 + 1, none⟩ (Value.int .i64 a1))) (by kernel_rfl) (ld_box (i := 2) rfl rfl (by kernel_rfl)) hS7 ?_
  refine l_op rfl rfl (fun K hK => op_store (d := none) rfl rfl (i := 0) (b := blk6) (off := 0 + 1) (cs := [Value.int .i64 a0, Value.int .i64 0]) (bt := 35) (by kernel_rfl) (by kernel_rfl) [Value.int .i64 a1] (by kernel_rfl) (by kernel_rfl) (Nat.le_of_ble_eq_true (by kernel_rfl)) (by kernel_rfl) [Res.box blk6 [Value.int .i64 a0, Value.int .i64 a1] 35, Res.box blk4 [Value.int .i64 0, Value.int .i64 0] 35, Res.box blk2 [Value.int .i64 a0, Value.int .i64 a1] 26] (by kernel_rfl) hS7 (fun w8 hS8 => hK _ _ ?_))
  clear hK K
  refine l_nil rfl ?_
  refine then_n ?_
  refine wp_seq ?_
  refine c_reg ?_
  refine q_seg (S := (fun x_ => St w x_ [Res.box blk6 [Value.int .i64 a0, Value.int .i64 a1] 35, Res.box blk4 [Value.int .i64 0, Value.int .i64 0] 35, Res.box blk2 [Value.int .i64 a0, Value.int .i64 a1] 26])) [(10, Value.agg #[Value.int .i64 a0, Value.int .i64 a1])] [.v (Value.agg #[Value.int .i64 a0, Value.int .i64 a1])] ((LoadsAt Try.prog (fun x_ => St w x_ [Res.box blk6 [Value.int .i64 a0, Value.int .i64 a1] 35, Res.box blk4 [Value.int .i64 0, Value.int .i64 0] 35, Res.box blk2 [Value.int .i64 a0, Value.int .i64 a1] 26]) 35 ⟨blk6, 0, none⟩ (Value.agg #[Value.int .i64 a0, Value.int .i64 a1]))) (by kernel_rfl) (ld_boxN (i := 0) (k := 2) rfl rfl rfl (by kernel_rfl)) hS8 ?_
  refine l_op rfl rfl (fun K hK => op_store (d := none) rfl rfl (i := 1) (b := blk4) (off := 0) (cs := [Value.int .i64 0, Value.int .i64 0]) (bt := 35) (by kernel_rfl) (by kernel_rfl) [Value.int .i64 a0, Value.int .i64 a1] (by kernel_rfl) (by kernel_rfl) (Nat.le_of_ble_eq_true (by kernel_rfl)) (by kernel_rfl) [Res.box blk6 [Value.int .i64 a0, Value.int .i64 a1] 35, Res.box blk4 [Value.int .i64 a0, Value.int .i64 a1] 35, Res.box blk2 [Value.int .i64 a0, Value.int .i64 a1] 26] (by kernel_rfl) hS8 (fun w9 hS9 => hK _ _ ?_))
  clear hK K
  refine l_nil rfl ?_
  refine then_n ?_
  refine wp_ret ?_
  exact c_end (S := (fun x_ => St w x_ [Res.box blk6 [Value.int .i64 a0, Value.int .i64 a1] 35, Res.box blk4 [Value.int .i64 a0, Value.int .i64 a1] 35, Res.box blk2 [Value.int .i64 a0, Value.int .i64 a1] 26])) (rs := [.cell 2 35]) rfl [Value.agg #[Value.int .i64 a0, Value.int .i64 a1]] (v := Value.agg #[Value.int .i64 a0, Value.int .i64 a1]) (C := ((LoadsAt Try.prog (fun x_ => St w x_ [Res.box blk6 [Value.int .i64 a0, Value.int .i64 a1] 35, Res.box blk4 [Value.int .i64 a0, Value.int .i64 a1] 35, Res.box blk2 [Value.int .i64 a0, Value.int .i64 a1] 26]) 35 ⟨blk4, 0, none⟩ (Value.agg #[Value.int .i64 a0, Value.int .i64 a1])))) (by kernel_rfl) (ld_boxN (i := 1) (k := 2) rfl rfl rfl (by kernel_rfl)) hS9 ((hS9.rv rfl))
theorem eqTempID_c (a0 : Int) (a1 : Int) (w : World) : Calls Try.prog 41 #[Value.agg #[Value.int .i64 a0, Value.int .i64 a1], Value.agg #[Value.int .i64 a0, Value.int .i64 a1]] w (RetV w (.bool true)) := by
  refine calls_FA Try.func41 rfl (n := 15) rfl (l := [(0, Value.agg #[Value.int .i64 a0, Value.int .i64 a1]), (1, Value.agg #[Value.int .i64 a0, Value.int .i64 a1])]) rfl (by simp) (fun g => ?_)
  have hS := St.init w
  refine wp_seq ?_
  refine c_reg ?_
  refine l_op rfl rfl (fun K hK => op_box (d := some 2) rfl rfl [Value.int .i64 a0, Value.int .i64 a1] (by kernel_rfl) hS (fun blk2 w1 hS1 => hK _ _ ?_))
  clear hK K
  refine l_op rfl rfl (fun K hK => op_box (d := some 3) rfl rfl [Value.int .i64 a0, Value.int .i64 a1] (by kernel_rfl) hS1 (fun blk4 w3 hS3 => hK _ _ ?_))
  clear hK K
  refine q_seg (S := (fun x_ => St w x_ [Res.box blk4 [Value.int .i64 a0, Value.int .i64 a1] 35, Res.box blk2 [Value.int .i64 a0, Value.int .i64 a1] 35])) [(4, Value.bool false)] [.no] True (by kernel_rfl) trivial hS3 ?_
  refine l_nil rfl ?_
  refine then_n ?_
  refine wp_seq ?_
  refine wp_seq ?_
  refine c_reg ?_
  refine q_seg (S := (fun x_ => St w x_ [Res.box blk4 [Value.int .i64 a0, Value.int .i64 a1] 35, Res.box blk2 [Value.int .i64 a0, Value.int .i64 a1] 35])) [(9, Value.bool (!(decide (a0 = a0)))), (8, Value.int .i64 a0), (7, Value.pointer (some ⟨blk4, 0 + 0, none⟩)), (6, Value.int .i64 a0), (5, Value.pointer (some ⟨blk2, 0 + 0, none⟩))] [.no, .v (Value.int .i64 a0), .no, .v (Value.int .i64 a0), .no] ((LoadsAt Try.prog (fun x_ => St w x_ [Res.box blk4 [Value.int .i64 a0, Value.int .i64 a1] 35, Res.box blk2 [Value.int .i64 a0, Value.int .i64 a1] 35]) 3 ⟨blk2, 0 + 0, none⟩ (Value.int .i64 a0)) ∧ (LoadsAt Try.prog (fun x_ => St w x_ [Res.box blk4 [Value.int .i64 a0, Value.int .i64 a1] 35, Res.box blk2 [Value.int .i64 a0, Value.int .i64 a1] 35]) 3 ⟨blk4, 0 + 0, none⟩ (Value.int .i64 a0))) (by kernel_rfl) ⟨(ld_box (i := 1) rfl rfl (by kernel_rfl)), (ld_box (i := 0) rfl rfl (by kernel_rfl))⟩ hS3 ?_
  refine l_nil rfl ?_
  refine then_n ?_
  refine c_false (b := (!(decide (a0 = a0)))) (by kernel_rfl) (nb (v := true) (decide_eq_true rfl)) ?_
  refine wp_skip ?_
  refine then_n ?_
  refine wp_seq ?_
  refine wp_seq ?_
  refine c_reg ?_
  refine q_seg (S := (fun x_ => St w x_ [Res.box blk4 [Value.int .i64 a0, Value.int .i64 a1] 35, Res.box blk2 [Value.int .i64 a0, Value.int .i64 a1] 35])) [(14, Value.bool (!(decide (a1 = a1)))), (13, Value.int .i64 a1), (12, Value.pointer (some ⟨blk4, 0 + 1, none⟩)), (11, Value.int .i64 a1), (10, Value.pointer (some ⟨blk2, 0 + 1, none⟩))] [.no, .v (Value.int .i64 a1), .no, .v (Value.int .i64 a1), .no] ((LoadsAt Try.prog (fun x_ => St w x_ [Res.box blk4 [Value.int .i64 a0, Value.int .i64 a1] 35, Res.box blk2 [Value.int .i64 a0, Value.int .i64 a1] 35]) 3 ⟨blk2, 0 + 1, none⟩ (Value.int .i64 a1)) ∧ (LoadsAt Try.prog (fun x_ => St w x_ [Res.box blk4 [Value.int .i64 a0, Value.int .i64 a1] 35, Res.box blk2 [Value.int .i64 a0, Value.int .i64 a1] 35]) 3 ⟨blk4, 0 + 1, none⟩ (Value.int .i64 a1))) (by kernel_rfl) ⟨(ld_box (i := 1) rfl rfl (by kernel_rfl)), (ld_box (i := 0) rfl rfl (by kernel_rfl))⟩ hS3 ?_
  refine l_nil rfl ?_
  refine then_n ?_
  refine c_false (b := (!(decide (a1 = a1)))) (by kernel_rfl) (nb (v := true) (decide_eq_true rfl)) ?_
  refine wp_skip ?_
  refine then_n ?_
  refine wp_seq ?_
  refine c_reg ?_
  refine q_seg (S := (fun x_ => St w x_ [Res.box blk4 [Value.int .i64 a0, Value.int .i64 a1] 35, Res.box blk2 [Value.int .i64 a0, Value.int .i64 a1] 35])) [(4, Value.bool true)] [.no] True (by kernel_rfl) trivial hS3 ?_
  refine l_nil rfl ?_
  refine then_n ?_
  refine wp_ret ?_
  exact c_end (S := (fun x_ => St w x_ [Res.box blk4 [Value.int .i64 a0, Value.int .i64 a1] 35, Res.box blk2 [Value.int .i64 a0, Value.int .i64 a1] 35])) (rs := [.tmp 4]) rfl [] (v := Value.bool true) (C := True) (by kernel_rfl) trivial hS3 ((hS3.rv rfl))

theorem toRegistration_c (a0 : Int) (a1 : Int) (a2 : Int) (a3 : Int) (a4 : Int) (a5 : Int) (w : World) : Calls Try.prog 8 #[Value.agg #[Value.int .i64 a0, Value.int .i64 a1, Value.int .i64 a2, Value.int .i64 a3, Value.int .i64 a4, Value.int .i64 a5]] w (RetV w (Value.agg #[Value.int .i64 a0, Value.int .i64 a1, Value.int .i64 a2, Value.int .i64 a3, Value.int .i64 a4, Value.int .i64 a5])) := by
  refine calls_FA Try.func8 rfl (n := 19) rfl (l := [(0, Value.agg #[Value.int .i64 a0, Value.int .i64 a1, Value.int .i64 a2, Value.int .i64 a3, Value.int .i64 a4, Value.int .i64 a5])]) rfl (by simp) (fun g => ?_)
  have hS := St.init w
  refine wp_seq ?_
  refine c_reg ?_
  refine l_op rfl rfl (fun K hK => op_box (d := some 1) rfl rfl [Value.int .i64 a0, Value.int .i64 a1, Value.int .i64 a2, Value.int .i64 a3, Value.int .i64 a4, Value.int .i64 a5] (by kernel_rfl) hS (fun blk2 w1 hS1 => hK _ _ ?_))
  clear hK K
  refine l_op rfl rfl (fun K hK => op_alloc (d := some 2) rfl rfl [Value.int .i64 0, Value.int .i64 0, Value.int .i64 0, Value.int .i64 0, Value.int .i64 0, Value.int .i64 0] (by kernel_rfl) hS1 (fun blk4 w3 hS3 => hK _ _ ?_))
  clear hK K
  refine l_nil rfl ?_
  refine then_n ?_
  refine wp_seq ?_
  refine c_reg ?_
  refine l_op rfl rfl (fun K hK => op_alloc (d := some 3) rfl rfl [Value.int .i64 0, Value.int .i64 0, Value.int .i64 0, Value.int .i64 0, Value.int .i64 0, Value.int .i64 0] (by kernel_rfl) hS3 (fun blk6 w5 hS5 => hK _ _ ?_))
  clear hK K
  refine l_nil rfl ?_
  refine then_n ?_
  refine wp_seq ?_
  refine c_reg ?_
  refine q_seg (S := (fun x_ => St w x_ [Res.box blk6 [Value.int .i64 0, Value.int .i64 0, Value.int .i64 0, Value.int .i64 0, Value.int .i64 0, Value.int .i64 0] 37, Res.box blk4 [Value.int .i64 0, Value.int .i64 0, Value.int .i64 0, Value.int .i64 0, Value.int .i64 0, Value.int .i64 0] 37, Res.box blk2 [Value.int .i64 a0, Value.int .i64 a1, Value.int .i64 a2, Value.int .i64 a3, Value.int .i64 a4, Value.int .i64 a5] 28])) [(5, Value.agg #[Value.int .i64 a0, Value.int .i64 a1]), (4, Value.pointer (some ⟨blk2, 0 + 0, none⟩))] [.no, .v (Value.agg #[Value.int .i64 a0, Value.int .i64 a1])] ((LoadsAt Try.prog (fun x_ => St w x_ [Res.box blk6 [Value.int .i64 0, Value.int .i64 0, Value.int .i64 0, Value.int .i64 0, Value.int .i64 0, Value.int .i64 0] 37, Res.box blk4 [Value.int .i64 0, Value.int .i64 0, Value.int .i64 0, Value.int .i64 0, Value.int .i64 0, Value.int .i64 0] 37, Res.box blk2 [Value.int .i64 a0, Value.int .i64 a1, Value.int .i64 a2, Value.int .i64 a3, Value.int .i64 a4, Value.int .i64 a5] 28]) 24 ⟨blk2, 0 + 0, none⟩ (Value.agg #[Value.int .i64 a0, Value.int .i64 a1]))) (by kernel_rfl) (ld_boxN (i := 2) (k := 2) rfl rfl rfl (by kernel_rfl)) hS5 ?_
  refine l_op rfl rfl (fun K hK => op_callv (d := some 6) rfl rfl ⟨_, Try.func23, by kernel_rfl, by kernel_rfl⟩ (vs := [Value.agg #[Value.int .i64 a0, Value.int .i64 a1]]) (by kernel_rfl) (v := Value.agg #[Value.int .i64 a0, Value.int .i64 a1]) (toSubscriberID_c a0 a1  _) hS5 (fun w7 hS7 => hK _ _ ?_))
  clear hK K
  refine q_seg (S := (fun x_ => St w x_ [Res.box blk6 [Value.int .i64 0, Value.int .i64 0, Value.int .i64 0, Value.int .i64 0, Value.int .i64 0, Value.int .i64 0] 37, Res.box blk4 [Value.int .i64 0, Value.int .i64 0, Value.int .i64 0, Value.int .i64 0, Value.int .i64 0, Value.int .i64 0] 37, Res.box blk2 [Value.int .i64 a0, Value.int .i64 a1, Value.int .i64 a2, Value.int .i64 a3, Value.int .i64 a4, Value.int .i64 a5] 28])) [(7, Value.pointer (some ⟨blk6, 0 + 0, none⟩))] [.no] True (by kernel_rfl) trivial hS7 ?_
  refine l_op rfl rfl (fun K hK => op_store (d := none) rfl rfl (i := 0) (b := blk6) (off := 0 + 0) (cs := [Value.int .i64 0, Value.int .i64 0, Value.int .i64 0, Value.int .i64 0, Value.int .i64 0, Value.int .i64 0]) (bt := 37) (by kernel_rfl) (by kernel_rfl) [Value.int .i64 a0, Value.int .i64 a1] (by kernel_rfl) (by kernel_rfl) (Nat.le_of_ble_eq_true (by kernel_rfl)) (by kernel_rfl) [Res.box blk6 [Value.int .i64 a0, Value.int .i64 a1, Value.int .i64 0, Value.int .i64 0, Value.int .i64 0, Value.int .i64 0] 37, Res.box blk4 [Value.int .i64 0, Value.int .i64 0, Value.int .i64 0, Value.int .i64 0, Value.int .i64 0, Value.int .i64 0] 37, Res.box blk2 [Value.int .i64 a0, Value.int .i64 a1, Value.int .i64 a2, Value.int .i64 a3, Value.int .i64 a4, Value.int .i64 a5] 28] (by kernel_rfl) hS7 (fun w8 hS8 => hK _ _ ?_))
  clear hK K
  refine l_nil rfl ?_
  refine then_n ?_
  refine wp_seq ?_
  refine c_reg ?_
  refine q_seg (S := (fun x_ => St w x_ [Res.box blk6 [Value.int .i64 a0, Value.int .i64 a1, Value.int .i64 0, Value.int .i64 0, Value.int .i64 0, Value.int .i64 0] 37, Res.box blk4 [Value.int .i64 0, Value.int .i64 0, Value.int .i64 0, Value.int .i64 0, Value.int .i64 0, Value.int .i64 0] 37, Res.box blk2 [Value.int .i64 a0, Value.int .i64 a1, Value.int .i64 a2, Value.int .i64 a3, Value.int .i64 a4, Value.int .i64 a5] 28])) [(10, Value.pointer (some ⟨blk6, 0 + 2, none⟩)), (9, Value.int .i64 a2), (8, Value.pointer (some ⟨blk2, 0 + 2, none⟩))] [.no, .v (Value.int .i64 a2), .no] ((LoadsAt Try.prog (fun x_ => St w x_ [Res.box blk6 [Value.int .i64 a0, Value.int .i64 a1, Value.int .i64 0, Value.int .i64 0, Value.int .i64 0, Value.int .i64 0] 37, Res.box blk4 [Value.int .i64 0, Value.int .i64 0, Value.int .i64 0, Value.int .i64 0, Value.int .i64 0, Value.int .i64 0] 37, Res.box blk2 [Value.int .i64 a0, Value.int .i64 a1, Value.int .i64 a2, Value.int .i64 a3, Value.int .i64 a4, Value.int .i64 a5] 28]) 3 ⟨blk2, 0 + 2, none⟩ (Value.int .i64 a2))) (by kernel_rfl) (ld_box (i := 2) rfl rfl (by kernel_rfl)) hS8 ?_
  refine l_op rfl rfl (fun K hK => op_store (d := none) rfl rfl (i := 0) (b := blk6) (off := 0 + 2) (cs := [Value.int .i64 a0, Value.int .i64 a1, Value.int .i64 0, Value.int .i64 0, Value.int .i64 0, Value.int .i64 0]) (bt := 37) (by kernel_rfl) (by kernel_rfl) [Value.int .i64 a2] (by kernel_rfl) (by kernel_rfl) (Nat.le_of_ble_eq_true (by kernel_rfl)) (by kernel_rfl) [Res.box blk6 [Value.int .i64 a0, Value.int .i64 a1, Value.int .i64 a2, Value.int .i64 0, Value.int .i64 0, Value.int .i64 0] 37, Res.box blk4 [Value.int .i64 0, Value.int .i64 0, Value.int .i64 0, Value.int .i64 0, Value.int .i64 0, Value.int .i64 0] 37, Res.box blk2 [Value.int .i64 a0, Value.int .i64 a1, Value.int .i64 a2, Value.int .i64 a3, Value.int .i64 a4, Value.int .i64 a5] 28] (by kernel_rfl) hS8 (fun w9 hS9 => hK _ _ ?_))
  clear hK K
  refine l_nil rfl ?_
  refine then_n ?_
  refine wp_seq ?_
  refine c_reg ?_
  refine q_seg (S := (fun x_ => St w x_ [Res.box blk6 [Value.int .i64 a0, Value.int .i64 a1, Value.int .i64 a2, Value.int .i64 0, Value.int .i64 0, Value.int .i64 0] 37, Res.box blk4 [Value.int .i64 0, Value.int .i64 0, Value.int .i64 0, Value.int .i64 0, Value.int .i64 0, Value.int .i64 0] 37, Res.box blk2 [Value.int .i64 a0, Value.int .i64 a1, Value.int .i64 a2, Value.int .i64 a3, Value.int .i64 a4, Value.int .i64 a5] 28])) [(13, Value.pointer (some ⟨blk6, 0 + 3, none⟩)), (12, Value.int .i64 a3), (11, Value.pointer (some ⟨blk2, 0 + 3, none⟩))] [.no, .v (Value.int .i64 a3), .no] ((LoadsAt Try.prog (fun x_ => St w x_ [Res.box blk6 [Value.int .i64 a0, Value.int .i64 a1, Value.int .i64 a2, Value.int .i64 0, Value.int .i64 0, Value.int .i64 0] 37, Res.box blk4 [Value.int .i64 0, Value.int .i64 0, Value.int .i64 0, Value.int .i64 0, Value.int .i64 0, Value.int .i64 0] 37, Res.box blk2 [Value.int .i64 a0, Value.int .i64 a1, Value.int .i64 a2, Value.int .i64 a3, Value.int .i64 a4, Value.int .i64 a5] 28]) 3 ⟨blk2, 0 + 3, none⟩ (Value.int .i64 a3))) (by kernel_rfl) (ld_box (i := 2) rfl rfl (by kernel_rfl)) hS9 ?_
  refine l_op rfl rfl (fun K hK => op_store (d := none) rfl rfl (i := 0) (b := blk6) (off := 0 + 3) (cs := [Value.int .i64 a0, Value.int .i64 a1, Value.int .i64 a2, Value.int .i64 0, Value.int .i64 0, Value.int .i64 0]) (bt := 37) (by kernel_rfl) (by kernel_rfl) [Value.int .i64 a3] (by kernel_rfl) (by kernel_rfl) (Nat.le_of_ble_eq_true (by kernel_rfl)) (by kernel_rfl) [Res.box blk6 [Value.int .i64 a0, Value.int .i64 a1, Value.int .i64 a2, Value.int .i64 a3, Value.int .i64 0, Value.int .i64 0] 37, Res.box blk4 [Value.int .i64 0, Value.int .i64 0, Value.int .i64 0, Value.int .i64 0, Value.int .i64 0, Value.int .i64 0] 37, Res.box blk2 [Value.int .i64 a0, Value.int .i64 a1, Value.int .i64 a2, Value.int .i64 a3, Value.int .i64 a4, Value.int .i64 a5] 28] (by kernel_rfl) hS9 (fun w10 hS10 => hK _ _ ?_))
  clear hK K
  refine l_nil rfl ?_
  refine then_n ?_
  refine wp_seq ?_
  refine c_reg ?_
  refine q_seg (S := (fun x_ => St w x_ [Res.box blk6 [Value.int .i64 a0, Value.int .i64 a1, Value.int .i64 a2, Value.int .i64 a3, Value.int .i64 0, Value.int .i64 0] 37, Res.box blk4 [Value.int .i64 0, Value.int .i64 0, Value.int .i64 0, Value.int .i64 0, Value.int .i64 0, Value.int .i64 0] 37, Res.box blk2 [Value.int .i64 a0, Value.int .i64 a1, Value.int .i64 a2, Value.int .i64 a3, Value.int .i64 a4, Value.int .i64 a5] 28])) [(15, Value.agg #[Value.int .i64 a4, Value.int .i64 a5]), (14, Value.pointer (some ⟨blk2, 0 + 4, none⟩))] [.no, .v (Value.agg #[Value.int .i64 a4, Value.int .i64 a5])] ((LoadsAt Try.prog (fun x_ => St w x_ [Res.box blk6 [Value.int .i64 a0, Value.int .i64 a1, Value.int .i64 a2, Value.int .i64 a3, Value.int .i64 0, Value.int .i64 0] 37, Res.box blk4 [Value.int .i64 0, Value.int .i64 0, Value.int .i64 0, Value.int .i64 0, Value.int .i64 0, Value.int .i64 0] 37, Res.box blk2 [Value.int .i64 a0, Value.int .i64 a1, Value.int .i64 a2, Value.int .i64 a3, Value.int .i64 a4, Value.int .i64 a5] 28]) 26 ⟨blk2, 0 + 4, none⟩ (Value.agg #[Value.int .i64 a4, Value.int .i64 a5]))) (by kernel_rfl) (ld_boxN (i := 2) (k := 2) rfl rfl rfl (by kernel_rfl)) hS10 ?_
  refine l_op rfl rfl (fun K hK => op_callv (d := some 16) rfl rfl ⟨_, Try.func24, by kernel_rfl, by kernel_rfl⟩ (vs := [Value.agg #[Value.int .i64 a4, Value.int .i64 a5]]) (by kernel_rfl) (v := Value.agg #[Value.int .i64 a4, Value.int .i64 a5]) (toTempID_c a4 a5  _) hS10 (fun w11 hS11 => hK _ _ ?_))
  clear hK K
  refine q_seg (S := (fun x_ => St w x_ [Res.box blk6 [Value.int .i64 a0, Value.int .i64 a1, Value.int .i64 a2, Value.int .i64 a3, Value.int .i64 0, Value.int .i64 0] 37, Res.box blk4 [Value.int .i64 0, Value.int .i64 0, Value.int .i64 0, Value.int .i64 0, Value.int .i64 0, Value.int .i64 0] 37, Res.box blk2 [Value.int .i64 a0, Value.int .i64 a1, Value.int .i64 a2, Value.int .i64 a3, Value.int .i64 a4, Value.int .i64 a5] 28])) [(17, Value.pointer (some ⟨blk6, 0 + 4, none⟩))] [.no] True (by kernel_rfl) trivial hS11 ?_
  refine l_op rfl rfl (fun K hK => op_store (d := none) rfl rfl (i := 0) (b := blk6) (off := 0 + 4) (cs := [Value.int .i64 a0, Value.int .i64 a1, Value.int .i64 a2, Value.int .i64 a3, Value.int .i64 0, Value.int .i64 0]) (bt := 37) (by kernel_rfl) (by kernel_rfl) [Value.int .i64 a4, Value.int .i64 a5] (by kernel_rfl) (by kernel_rfl) (Nat.le_of_ble_eq_true (by kernel_rfl)) (by kernel_rfl) [Res.box blk6 [Value.int .i64 a0, Value.int .i64 a1, Value.int .i64 a2, Value.int .i64 a3, Value.int .i64 a4, Value.int .i64 a5] 37, Res.box blk4 [Value.int .i64 0, Value.int .i64 0, Value.int .i64 0, Value.int .i64 0, Value.int .i64 0, Value.int .i64 0] 37, Res.box blk2 [Value.int .i64 a0, Value.int .i64 a1, Value.int .i64 a2, Value.int .i64 a3, Value.int .i64 a4, Value.int .i64 a5] 28] (by kernel_rfl) hS11 (fun w12 hS12 => hK _ _ ?_))
  clear hK K
  refine l_nil rfl ?_
  refine then_n ?_
  refine wp_seq ?_
  refine c_reg ?_
  refine q_seg (S := (fun x_ => St w x_ [Res.box blk6 [Value.int .i64 a0, Value.int .i64 a1, Value.int .i64 a2, Value.int .i64 a3, Value.int .i64 a4, Value.int .i64 a5] 37, Res.box blk4 [Value.int .i64 0, Value.int .i64 0, Value.int .i64 0, Value.int .i64 0, Value.int .i64 0, Value.int .i64 0] 37, Res.box blk2 [Value.int .i64 a0, Value.int .i64 a1, Value.int .i64 a2, Value.int .i64 a3, Value.int .i64 a4, Value.int .i64 a5] 28])) [(18, Value.agg #[Value.int .i64 a0, Value.int .i64 a1, Value.int .i64 a2, Value.int .i64 a3, Value.int .i64 a4, Value.int .i64 a5])] [.v (Value.agg #[Value.int .i64 a0, Value.int .i64 a1, Value.int .i64 a2, Value.int .i64 a3, Value.int .i64 a4, Value.int .i64 a5])] ((LoadsAt Try.prog (fun x_ => St w x_ [Res.box blk6 [Value.int .i64 a0, Value.int .i64 a1, Value.int .i64 a2, Value.int .i64 a3, Value.int .i64 a4, Value.int .i64 a5] 37, Res.box blk4 [Value.int .i64 0, Value.int .i64 0, Value.int .i64 0, Value.int .i64 0, Value.int .i64 0, Value.int .i64 0] 37, Res.box blk2 [Value.int .i64 a0, Value.int .i64 a1, Value.int .i64 a2, Value.int .i64 a3, Value.int .i64 a4, Value.int .i64 a5] 28]) 37 ⟨blk6, 0, none⟩ (Value.agg #[Value.int .i64 a0, Value.int .i64 a1, Value.int .i64 a2, Value.int .i64 a3, Value.int .i64 a4, Value.int .i64 a5]))) (by kernel_rfl) (ld_boxN (i := 0) (k := 6) rfl rfl rfl (by kernel_rfl)) hS12 ?_
  refine l_op rfl rfl (fun K hK => op_store (d := none) rfl rfl (i := 1) (b := blk4) (off := 0) (cs := [Value.int .i64 0, Value.int .i64 0, Value.int .i64 0, Value.int .i64 0, Value.int .i64 0, Value.int .i64 0]) (bt := 37) (by kernel_rfl) (by kernel_rfl) [Value.int .i64 a0, Value.int .i64 a1, Value.int .i64 a2, Value.int .i64 a3, Value.int .i64 a4, Value.int .i64 a5] (by kernel_rfl) (by kernel_rfl) (Nat.le_of_ble_eq_true (by kernel_rfl)) (by kernel_rfl) [Res.box blk6 [Value.int .i64 a0, Value.int .i64 a1, Value.int .i64 a2, Value.int .i64 a3, Value.int .i64 a4, Value.int .i64 a5] 37, Res.box blk4 [Value.int .i64 a0, Value.int .i64 a1, Value.int .i64 a2, Value.int .i64 a3, Value.int .i64 a4, Value.int .i64 a5] 37, Res.box blk2 [Value.int .i64 a0, Value.int .i64 a1, Value.int .i64 a2, Value.int .i64 a3, Value.int .i64 a4, Value.int .i64 a5] 28] (by kernel_rfl) hS12 (fun w13 hS13 => hK _ _ ?_))
  clear hK K
  refine l_nil rfl ?_
  refine then_n ?_
  refine wp_ret ?_
  exact c_end (S := (fun x_ => St w x_ [Res.box blk6 [Value.int .i64 a0, Value.int .i64 a1, Value.int .i64 a2, Value.int .i64 a3, Value.int .i64 a4, Value.int .i64 a5] 37, Res.box blk4 [Value.int .i64 a0, Value.int .i64 a1, Value.int .i64 a2, Value.int .i64 a3, Value.int .i64 a4, Value.int .i64 a5] 37, Res.box blk2 [Value.int .i64 a0, Value.int .i64 a1, Value.int .i64 a2, Value.int .i64 a3, Value.int .i64 a4, Value.int .i64 a5] 28])) (rs := [.cell 2 37]) rfl [Value.agg #[Value.int .i64 a0, Value.int .i64 a1, Value.int .i64 a2, Value.int .i64 a3, Value.int .i64 a4, Value.int .i64 a5]] (v := Value.agg #[Value.int .i64 a0, Value.int .i64 a1, Value.int .i64 a2, Value.int .i64 a3, Value.int .i64 a4, Value.int .i64 a5]) (C := ((LoadsAt Try.prog (fun x_ => St w x_ [Res.box blk6 [Value.int .i64 a0, Value.int .i64 a1, Value.int .i64 a2, Value.int .i64 a3, Value.int .i64 a4, Value.int .i64 a5] 37, Res.box blk4 [Value.int .i64 a0, Value.int .i64 a1, Value.int .i64 a2, Value.int .i64 a3, Value.int .i64 a4, Value.int .i64 a5] 37, Res.box blk2 [Value.int .i64 a0, Value.int .i64 a1, Value.int .i64 a2, Value.int .i64 a3, Value.int .i64 a4, Value.int .i64 a5] 28]) 37 ⟨blk4, 0, none⟩ (Value.agg #[Value.int .i64 a0, Value.int .i64 a1, Value.int .i64 a2, Value.int .i64 a3, Value.int .i64 a4, Value.int .i64 a5])))) (by kernel_rfl) (ld_boxN (i := 1) (k := 6) rfl rfl rfl (by kernel_rfl)) hS13 ((hS13.rv rfl))
theorem eqRegistration_c (a0 : Int) (a1 : Int) (a2 : Int) (a3 : Int) (a4 : Int) (a5 : Int) (w : World) : Calls Try.prog 26 #[Value.agg #[Value.int .i64 a0, Value.int .i64 a1, Value.int .i64 a2, Value.int .i64 a3, Value.int .i64 a4, Value.int .i64 a5], Value.agg #[Value.int .i64 a0, Value.int .i64 a1, Value.int .i64 a2, Value.int .i64 a3, Value.int .i64 a4, Value.int .i64 a5]] w (RetV w (.bool true)) := by
  refine calls_FA Try.func26 rfl (n := 27) rfl (l := [(0, Value.agg #[Value.int .i64 a0, Value.int .i64 a1, Value.int .i64 a2, Value.int .i64 a3, Value.int .i64 a4, Value.int .i64 a5]), (1, Value.agg #[Value.int .i64 a0, Value.int .i64 a1, Value.int .i64 a2, Value.int .i64 a3, Value.int .i64 a4, Value.int .i64 a5])]) rfl (by simp) (fun g => ?_)
  have hS := St.init w
  refine wp_seq ?_
  refine c_reg ?_
  refine l_op rfl rfl (fun K hK => op_box (d := some 2) rfl rfl [Value.int .i64 a0, Value.int .i64 a1, Value.int .i64 a2, Value.int .i64 a3, Value.int .i64 a4, Value.int .i64 a5] (by kernel_rfl) hS (fun blk2 w1 hS1 => hK _ _ ?_))
  clear hK K
  refine l_op rfl rfl (fun K hK => op_box (d := some 3) rfl rfl [Value.int .i64 a0, Value.int .i64 a1, Value.int .i64 a2, Value.int .i64 a3, Value.int .i64 a4, Value.int .i64 a5] (by kernel_rfl) hS1 (fun blk4 w3 hS3 => hK _ _ ?_))
  clear hK K
  refine q_seg (S := (fun x_ => St w x_ [Res.box blk4 [Value.int .i64 a0, Value.int .i64 a1, Value.int .i64 a2, Value.int .i64 a3, Value.int .i64 a4, Value.int .i64 a5] 37, Res.box blk2 [Value.int .i64 a0, Value.int .i64 a1, Value.int .i64 a2, Value.int .i64 a3, Value.int .i64 a4, Value.int .i64 a5] 37])) [(4, Value.bool false)] [.no] True (by kernel_rfl) trivial hS3 ?_
  refine l_nil rfl ?_
  refine then_n ?_
  refine wp_seq ?_
  refine wp_seq ?_
  refine c_reg ?_
  refine q_seg (S := (fun x_ => St w x_ [Res.box blk4 [Value.int .i64 a0, Value.int .i64 a1, Value.int .i64 a2, Value.int .i64 a3, Value.int .i64 a4, Value.int .i64 a5] 37, Res.box blk2 [Value.int .i64 a0, Value.int .i64 a1, Value.int .i64 a2, Value.int .i64 a3, Value.int .i64 a4, Value.int .i64 a5] 37])) [(8, Value.agg #[Value.int .i64 a0, Value.int .i64 a1]), (7, Value.pointer (some ⟨blk4, 0 + 0, none⟩)), (6, Value.agg #[Value.int .i64 a0, Value.int .i64 a1]), (5, Value.pointer (some ⟨blk2, 0 + 0, none⟩))] [.no, .v (Value.agg #[Value.int .i64 a0, Value.int .i64 a1]), .no, .v (Value.agg #[Value.int .i64 a0, Value.int .i64 a1])] ((LoadsAt Try.prog (fun x_ => St w x_ [Res.box blk4 [Value.int .i64 a0, Value.int .i64 a1, Value.int .i64 a2, Value.int .i64 a3, Value.int .i64 a4, Value.int .i64 a5] 37, Res.box blk2 [Value.int .i64 a0, Value.int .i64 a1, Value.int .i64 a2, Value.int .i64 a3, Value.int .i64 a4, Value.int .i64 a5] 37]) 34 ⟨blk2, 0 + 0, none⟩ (Value.agg #[Value.int .i64 a0, Value.int .i64 a1])) ∧ (LoadsAt Try.prog (fun x_ => St w x_ [Res.box blk4 [Value.int .i64 a0, Value.int .i64 a1, Value.int .i64 a2, Value.int .i64 a3, Value.int .i64 a4, Value.int .i64 a5] 37, Res.box blk2 [Value.int .i64 a0, Value.int .i64 a1, Value.int .i64 a2, Value.int .i64 a3, Value.int .i64 a4, Value.int .i64 a5] 37]) 34 ⟨blk4, 0 + 0, none⟩ (Value.agg #[Value.int .i64 a0, Value.int .i64 a1]))) (by kernel_rfl) ⟨(ld_boxN (i := 1) (k := 2) rfl rfl rfl (by kernel_rfl)), (ld_boxN (i := 0) (k := 2) rfl rfl rfl (by kernel_rfl))⟩ hS3 ?_
  refine l_op rfl rfl (fun K hK => op_callv (d := some 9) rfl rfl ⟨_, Try.func40, by kernel_rfl, by kernel_rfl⟩ (vs := [Value.agg #[Value.int .i64 a0, Value.int .i64 a1], Value.agg #[Value.int .i64 a0, Value.int .i64 a1]]) (by kernel_rfl) (v := Value.bool true) (eqSubscriberID_c a0 a1 _) hS3 (fun w5 hS5 => hK _ _ ?_))
  clear hK K
  refine q_seg (S := (fun x_ => St w x_ [Res.box blk4 [Value.int .i64 a0, Value.int .i64 a1, Value.int .i64 a2, Value.int .i64 a3, Value.int .i64 a4, Value.int .i64 a5] 37, Res.box blk2 [Value.int .i64 a0, Value.int .i64 a1, Value.int .i64 a2, Value.int .i64 a3, Value.int .i64 a4, Value.int .i64 a5] 37])) [(10, Value.bool false)] [.no] True (by kernel_rfl) trivial hS5 ?_
  refine l_nil rfl ?_
  refine then_n ?_
  refine c_false (b := false) (by kernel_rfl) rfl ?_
  refine wp_skip ?_
  refine then_n ?_
  refine wp_seq ?_
  refine wp_seq ?_
  refine c_reg ?_
  refine q_seg (S := (fun x_ => St w x_ [Res.box blk4 [Value.int .i64 a0, Value.int .i64 a1, Value.int .i64 a2, Value.int .i64 a3, Value.int .i64 a4, Value.int .i64 a5] 37, Res.box blk2 [Value.int .i64 a0, Value.int .i64 a1, Value.int .i64 a2, Value.int .i64 a3, Value.int .i64 a4, Value.int .i64 a5] 37])) [(15, Value.bool (!(decide (a2 = a2)))), (14, Value.int .i64 a2), (13, Value.pointer (some ⟨blk4, 0 + 2, none⟩)), (12, Value.int .i64 a2), (11, Value.pointer (some ⟨blk2, 0 + 2, none⟩))] [.no, .v (Value.int .i64 a2), .no, .v (Value.int .i64 a2), .no] ((LoadsAt Try.prog (fun x_ => St w x_ [Res.box blk4 [Value.int .i64 a0, Value.int .i64 a1, Value.int .i64 a2, Value.int .i64 a3, Value.int .i64 a4, Value.int .i64 a5] 37, Res.box blk2 [Value.int .i64 a0, Value.int .i64 a1, Value.int .i64 a2, Value.int .i64 a3, Value.int .i64 a4, Value.int .i64 a5] 37]) 3 ⟨blk2, 0 + 2, none⟩ (Value.int .i64 a2)) ∧ (LoadsAt Try.prog (fun x_ => St w x_ [Res.box blk4 [Value.int .i64 a0, Value.int .i64 a1, Value.int .i64 a2, Value.int .i64 a3, Value.int .i64 a4, Value.int .i64 a5] 37, Res.box blk2 [Value.int .i64 a0, Value.int .i64 a1, Value.int .i64 a2, Value.int .i64 a3, Value.int .i64 a4, Value.int .i64 a5] 37]) 3 ⟨blk4, 0 + 2, none⟩ (Value.int .i64 a2))) (by kernel_rfl) ⟨(ld_box (i := 1) rfl rfl (by kernel_rfl)), (ld_box (i := 0) rfl rfl (by kernel_rfl))⟩ hS5 ?_
  refine l_nil rfl ?_
  refine then_n ?_
  refine c_false (b := (!(decide (a2 = a2)))) (by kernel_rfl) (nb (v := true) (decide_eq_true rfl)) ?_
  refine wp_skip ?_
  refine then_n ?_
  refine wp_seq ?_
  refine wp_seq ?_
  refine c_reg ?_
  refine q_seg (S := (fun x_ => St w x_ [Res.box blk4 [Value.int .i64 a0, Value.int .i64 a1, Value.int .i64 a2, Value.int .i64 a3, Value.int .i64 a4, Value.int .i64 a5] 37, Res.box blk2 [Value.int .i64 a0, Value.int .i64 a1, Value.int .i64 a2, Value.int .i64 a3, Value.int .i64 a4, Value.int .i64 a5] 37])) [(20, Value.bool (!(decide (a3 = a3)))), (19, Value.int .i64 a3), (18, Value.pointer (some ⟨blk4, 0 + 3, none⟩)), (17, Value.int .i64 a3), (16, Value.pointer (some ⟨blk2, 0 + 3, none⟩))] [.no, .v (Value.int .i64 a3), .no, .v (Value.int .i64 a3), .no] ((LoadsAt Try.prog (fun x_ => St w x_ [Res.box blk4 [Value.int .i64 a0, Value.int .i64 a1, Value.int .i64 a2, Value.int .i64 a3, Value.int .i64 a4, Value.int .i64 a5] 37, Res.box blk2 [Value.int .i64 a0, Value.int .i64 a1, Value.int .i64 a2, Value.int .i64 a3, Value.int .i64 a4, Value.int .i64 a5] 37]) 3 ⟨blk2, 0 + 3, none⟩ (Value.int .i64 a3)) ∧ (LoadsAt Try.prog (fun x_ => St w x_ [Res.box blk4 [Value.int .i64 a0, Value.int .i64 a1, Value.int .i64 a2, Value.int .i64 a3, Value.int .i64 a4, Value.int .i64 a5] 37, Res.box blk2 [Value.int .i64 a0, Value.int .i64 a1, Value.int .i64 a2, Value.int .i64 a3, Value.int .i64 a4, Value.int .i64 a5] 37]) 3 ⟨blk4, 0 + 3, none⟩ (Value.int .i64 a3))) (by kernel_rfl) ⟨(ld_box (i := 1) rfl rfl (by kernel_rfl)), (ld_box (i := 0) rfl rfl (by kernel_rfl))⟩ hS5 ?_
  refine l_nil rfl ?_
  refine then_n ?_
  refine c_false (b := (!(decide (a3 = a3)))) (by kernel_rfl) (nb (v := true) (decide_eq_true rfl)) ?_
  refine wp_skip ?_
  refine then_n ?_
  refine wp_seq ?_
  refine wp_seq ?_
  refine c_reg ?_
  refine q_seg (S := (fun x_ => St w x_ [Res.box blk4 [Value.int .i64 a0, Value.int .i64 a1, Value.int .i64 a2, Value.int .i64 a3, Value.int .i64 a4, Value.int .i64 a5] 37, Res.box blk2 [Value.int .i64 a0, Value.int .i64 a1, Value.int .i64 a2, Value.int .i64 a3, Value.int .i64 a4, Value.int .i64 a5] 37])) [(24, Value.agg #[Value.int .i64 a4, Value.int .i64 a5]), (23, Value.pointer (some ⟨blk4, 0 + 4, none⟩)), (22, Value.agg #[Value.int .i64 a4, Value.int .i64 a5]), (21, Value.pointer (some ⟨blk2, 0 + 4, none⟩))] [.no, .v (Value.agg #[Value.int .i64 a4, Value.int .i64 a5]), .no, .v (Value.agg #[Value.int .i64 a4, Value.int .i64 a5])] ((LoadsAt Try.prog (fun x_ => St w x_ [Res.box blk4 [Value.int .i64 a0, Value.int .i64 a1, Value.int .i64 a2, Value.int .i64 a3, Value.int .i64 a4, Value.int .i64 a5] 37, Res.box blk2 [Value.int .i64 a0, Value.int .i64 a1, Value.int .i64 a2, Value.int .i64 a3, Value.int .i64 a4, Value.int .i64 a5] 37]) 35 ⟨blk2, 0 + 4, none⟩ (Value.agg #[Value.int .i64 a4, Value.int .i64 a5])) ∧ (LoadsAt Try.prog (fun x_ => St w x_ [Res.box blk4 [Value.int .i64 a0, Value.int .i64 a1, Value.int .i64 a2, Value.int .i64 a3, Value.int .i64 a4, Value.int .i64 a5] 37, Res.box blk2 [Value.int .i64 a0, Value.int .i64 a1, Value.int .i64 a2, Value.int .i64 a3, Value.int .i64 a4, Value.int .i64 a5] 37]) 35 ⟨blk4, 0 + 4, none⟩ (Value.agg #[Value.int .i64 a4, Value.int .i64 a5]))) (by kernel_rfl) ⟨(ld_boxN (i := 1) (k := 2) rfl rfl rfl (by kernel_rfl)), (ld_boxN (i := 0) (k := 2) rfl rfl rfl (by kernel_rfl))⟩ hS5 ?_
  refine l_op rfl rfl (fun K hK => op_callv (d := some 25) rfl rfl ⟨_, Try.func41, by kernel_rfl, by kernel_rfl⟩ (vs := [Value.agg #[Value.int .i64 a4, Value.int .i64 a5], Value.agg #[Value.int .i64 a4, Value.int .i64 a5]]) (by kernel_rfl) (v := Value.bool true) (eqTempID_c a4 a5 _) hS5 (fun w6 hS6 => hK _ _ ?_))
  clear hK K
  refine q_seg (S := (fun x_ => St w x_ [Res.box blk4 [Value.int .i64 a0, Value.int .i64 a1, Value.int .i64 a2, Value.int .i64 a3, Value.int .i64 a4, Value.int .i64 a5] 37, Res.box blk2 [Value.int .i64 a0, Value.int .i64 a1, Value.int .i64 a2, Value.int .i64 a3, Value.int .i64 a4, Value.int .i64 a5] 37])) [(26, Value.bool false)] [.no] True (by kernel_rfl) trivial hS6 ?_
  refine l_nil rfl ?_
  refine then_n ?_
  refine c_false (b := false) (by kernel_rfl) rfl ?_
  refine wp_skip ?_
  refine then_n ?_
  refine wp_seq ?_
  refine c_reg ?_
  refine q_seg (S := (fun x_ => St w x_ [Res.box blk4 [Value.int .i64 a0, Value.int .i64 a1, Value.int .i64 a2, Value.int .i64 a3, Value.int .i64 a4, Value.int .i64 a5] 37, Res.box blk2 [Value.int .i64 a0, Value.int .i64 a1, Value.int .i64 a2, Value.int .i64 a3, Value.int .i64 a4, Value.int .i64 a5] 37])) [(4, Value.bool true)] [.no] True (by kernel_rfl) trivial hS6 ?_
  refine l_nil rfl ?_
  refine then_n ?_
  refine wp_ret ?_
  exact c_end (S := (fun x_ => St w x_ [Res.box blk4 [Value.int .i64 a0, Value.int .i64 a1, Value.int .i64 a2, Value.int .i64 a3, Value.int .i64 a4, Value.int .i64 a5] 37, Res.box blk2 [Value.int .i64 a0, Value.int .i64 a1, Value.int .i64 a2, Value.int .i64 a3, Value.int .i64 a4, Value.int .i64 a5] 37])) (rs := [.tmp 4]) rfl [] (v := Value.bool true) (C := True) (by kernel_rfl) trivial hS6 ((hS6.rv rfl))

theorem IsValidSubscriberID_i_c (a0 : Int) (a1 : Int) (w : World) : Calls Try.prog 32 #[Value.agg #[Value.int .i64 a0, Value.int .i64 a1]] w (RetV w (Value.bool (vsub a0 a1))) := by
  refine calls_FA Try.func32 rfl (n := 11) rfl (l := [(0, Value.agg #[Value.int .i64 a0, Value.int .i64 a1])]) rfl (by simp) (fun g => ?_)
  have hS := St.init w
  refine wp_seq ?_
  refine c_reg ?_
  refine l_op rfl rfl (fun K hK => op_box (d := some 1) rfl rfl [Value.int .i64 a0, Value.int .i64 a1] (by kernel_rfl) hS (fun blk2 w1 hS1 => hK _ _ ?_))
  clear hK K
  refine q_seg (S := (fun x_ => St w x_ [Res.box blk2 [Value.int .i64 a0, Value.int .i64 a1] 34])) [(2, Value.bool false)] [.no] True (by kernel_rfl) trivial hS1 ?_
  refine l_nil rfl ?_
  refine then_n ?_
  refine wp_seq ?_
  refine c_reg ?_
  refine q_seg (S := (fun x_ => St w x_ [Res.box blk2 [Value.int .i64 a0, Value.int .i64 a1] 34])) [(4, Value.int .i64 a0), (3, Value.pointer (some ⟨blk2, 0 + 0, none⟩))] [.no, .v (Value.int .i64 a0)] ((LoadsAt Try.prog (fun x_ => St w x_ [Res.box blk2 [Value.int .i64 a0, Value.int .i64 a1] 34]) 3 ⟨blk2, 0 + 0, none⟩ (Value.int .i64 a0))) (by kernel_rfl) (ld_box (i := 0) rfl rfl (by kernel_rfl)) hS1 ?_
  refine l_op rfl rfl (fun K hK => op_callv (d := some 5) rfl rfl ⟨_, Try.func33, by kernel_rfl, by kernel_rfl⟩ (vs := [Value.int .i64 a0, Value.int .i64 0, Value.int .i64 3]) (by kernel_rfl) (v := Value.bool (inR a0 0 3)) (InRange_c a0 0 3 _) hS1 (fun w3 hS3 => hK _ _ ?_))
  clear hK K
  refine q_seg (S := (fun x_ => St w x_ [Res.box blk2 [Value.int .i64 a0, Value.int .i64 a1] 34])) [(6, Value.bool (inR a0 0 3))] [.no] True (by kernel_rfl) trivial hS3 ?_
  rcases Bool.eq_false_or_eq_true (inR a0 0 3) with hb4 | hb4
  · skip
    obtain ⟨hb4p, hb4q⟩ := inR_iff.1 hb4
    refine q_seg (S := (fun x_ => St w x_ [Res.box blk2 [Value.int .i64 a0, Value.int .i64 a1] 34])) [(8, Value.int .i64 a1), (7, Value.pointer (some ⟨blk2, 0 + 1, none⟩))] [.no, .v (Value.int .i64 a1)] (((inR a0 0 3) = true) ∧ ((inR a0 0 3) = true) ∧ (LoadsAt Try.prog (fun x_ => St w x_ [Res.box blk2 [Value.int .i64 a0, Value.int .i64 a1] 34]) 3 ⟨blk2, 0 + 1, none⟩ (Value.int .i64 a1))) (by kernel_rfl) ⟨hb4, hb4, (ld_box (i := 0) rfl rfl (by kernel_rfl))⟩ hS3 ?_
    refine l_opg rfl (b := (inR a0 0 3)) (want := true) (by kernel_rfl) hb4 (fun K hK => op_callv (d := some 9) rfl rfl ⟨_, Try.func33, by kernel_rfl, by kernel_rfl⟩ (vs := [Value.int .i64 a1, Value.int .i64 0, Value.int .i64 99]) (by kernel_rfl) (v := Value.bool (inR a1 0 99)) (InRange_c a1 0 99 _) hS3 (fun w5 hS5 => hK _ _ ?_))
    clear hK K
    refine q_seg (S := (fun x_ => St w x_ [Res.box blk2 [Value.int .i64 a0, Value.int .i64 a1] 34])) [(2, Value.bool (inR a1 0 99)), (10, Value.bool (inR a1 0 99))] [.v (.bool true), .no] (((inR a0 0 3) = true)) (by kernel_rfl) hb4 hS5 ?_
    refine l_nil rfl ?_
    refine then_n ?_
    refine wp_ret ?_
    exact c_end (S := (fun x_ => St w x_ [Res.box blk2 [Value.int .i64 a0, Value.int .i64 a1] 34])) (rs := [.tmp 2]) rfl [] (v := Value.bool (inR a1 0 99)) (C := True) (by kernel_rfl) trivial hS5 ((hS5.rv (by simp [vsub, *])))
  · skip
    have hb4p := inR_neg hb4
    refine q_seg (S := (fun x_ => St w x_ [Res.box blk2 [Value.int .i64 a0, Value.int .i64 a1] 34])) [(2, Value.bool false), (10, Value.bool false), (9, undef), (8, undef), (7, undef)] [.skip, .skip, .skip, .v (.bool false), .no] (((inR a0 0 3) = !true) ∧ ((inR a0 0 3) = !true) ∧ ((inR a0 0 3) = !true) ∧ ((inR a0 0 3) = false)) (by kernel_rfl) ⟨hb4, hb4, hb4, hb4⟩ hS3 ?_
    refine l_nil rfl ?_
    refine then_n ?_
    refine wp_ret ?_
    exact c_end (S := (fun x_ => St w x_ [Res.box blk2 [Value.int .i64 a0, Value.int .i64 a1] 34])) (rs := [.tmp 2]) rfl [] (v := Value.bool false) (C := True) (by kernel_rfl) trivial hS3 ((hS3.rv (by simp [vsub, *])))

theorem IsValidTempID_i_c (a0 : Int) (a1 : Int) (w : World) : Calls Try.prog 34 #[Value.agg #[Value.int .i64 a0, Value.int .i64 a1]] w (RetV w (Value.bool (vtmp a0 a1))) := by
  refine calls_FA Try.func34 rfl (n := 11) rfl (l := [(0, Value.agg #[Value.int .i64 a0, Value.int .i64 a1])]) rfl (by simp) (fun g => ?_)
  have hS := St.init w
  refine wp_seq ?_
  refine c_reg ?_
  refine l_op rfl rfl (fun K hK => op_box (d := some 1) rfl rfl [Value.int .i64 a0, Value.int .i64 a1] (by kernel_rfl) hS (fun blk2 w1 hS1 => hK _ _ ?_))
  clear hK K
  refine q_seg (S := (fun x_ => St w x_ [Res.box blk2 [Value.int .i64 a0, Value.int .i64 a1] 35])) [(2, Value.bool false)] [.no] True (by kernel_rfl) trivial hS1 ?_
  refine l_nil rfl ?_
  refine then_n ?_
  refine wp_seq ?_
  refine c_reg ?_
  refine q_seg (S := (fun x_ => St w x_ [Res.box blk2 [Value.int .i64 a0, Value.int .i64 a1] 35])) [(4, Value.int .i64 a0), (3, Value.pointer (some ⟨blk2, 0 + 0, none⟩))] [.no, .v (Value.int .i64 a0)] ((LoadsAt Try.prog (fun x_ => St w x_ [Res.box blk2 [Value.int .i64 a0, Value.int .i64 a1] 35]) 3 ⟨blk2, 0 + 0, none⟩ (Value.int .i64 a0))) (by kernel_rfl) (ld_box (i := 0) rfl rfl (by kernel_rfl)) hS1 ?_
  refine l_op rfl rfl (fun K hK => op_callv (d := some 5) rfl rfl ⟨_, Try.func33, by kernel_rfl, by kernel_rfl⟩ (vs := [Value.int .i64 a0, Value.int .i64 0, Value.int .i64 3]) (by kernel_rfl) (v := Value.bool (inR a0 0 3)) (InRange_c a0 0 3 _) hS1 (fun w3 hS3 => hK _ _ ?_))
  clear hK K
  refine q_seg (S := (fun x_ => St w x_ [Res.box blk2 [Value.int .i64 a0, Value.int .i64 a1] 35])) [(6, Value.bool (inR a0 0 3))] [.no] True (by kernel_rfl) trivial hS3 ?_
  rcases Bool.eq_false_or_eq_true (inR a0 0 3) with hb4 | hb4
  · skip
    obtain ⟨hb4p, hb4q⟩ := inR_iff.1 hb4
    refine q_seg (S := (fun x_ => St w x_ [Res.box blk2 [Value.int .i64 a0, Value.int .i64 a1] 35])) [(8, Value.int .i64 a1), (7, Value.pointer (some ⟨blk2, 0 + 1, none⟩))] [.no, .v (Value.int .i64 a1)] (((inR a0 0 3) = true) ∧ ((inR a0 0 3) = true) ∧ (LoadsAt Try.prog (fun x_ => St w x_ [Res.box blk2 [Value.int .i64 a0, Value.int .i64 a1] 35]) 3 ⟨blk2, 0 + 1, none⟩ (Value.int .i64 a1))) (by kernel_rfl) ⟨hb4, hb4, (ld_box (i := 0) rfl rfl (by kernel_rfl))⟩ hS3 ?_
    refine l_opg rfl (b := (inR a0 0 3)) (want := true) (by kernel_rfl) hb4 (fun K hK => op_callv (d := some 9) rfl rfl ⟨_, Try.func33, by kernel_rfl, by kernel_rfl⟩ (vs := [Value.int .i64 a1, Value.int .i64 0, Value.int .i64 9999]) (by kernel_rfl) (v := Value.bool (inR a1 0 9999)) (InRange_c a1 0 9999 _) hS3 (fun w5 hS5 => hK _ _ ?_))
    clear hK K
    refine q_seg (S := (fun x_ => St w x_ [Res.box blk2 [Value.int .i64 a0, Value.int .i64 a1] 35])) [(2, Value.bool (inR a1 0 9999)), (10, Value.bool (inR a1 0 9999))] [.v (.bool true), .no] (((inR a0 0 3) = true)) (by kernel_rfl) hb4 hS5 ?_
    refine l_nil rfl ?_
    refine then_n ?_
    refine wp_ret ?_
    exact c_end (S := (fun x_ => St w x_ [Res.box blk2 [Value.int .i64 a0, Value.int .i64 a1] 35])) (rs := [.tmp 2]) rfl [] (v := Value.bool (inR a1 0 9999)) (C := True) (by kernel_rfl) trivial hS5 ((hS5.rv (by simp [vtmp, *])))
  · skip
    have hb4p := inR_neg hb4
    refine q_seg (S := (fun x_ => St w x_ [Res.box blk2 [Value.int .i64 a0, Value.int .i64 a1] 35])) [(2, Value.bool false), (10, Value.bool false), (9, undef), (8, undef), (7, undef)] [.skip, .skip, .skip, .v (.bool false), .no] (((inR a0 0 3) = !true) ∧ ((inR a0 0 3) = !true) ∧ ((inR a0 0 3) = !true) ∧ ((inR a0 0 3) = false)) (by kernel_rfl) ⟨hb4, hb4, hb4, hb4⟩ hS3 ?_
    refine l_nil rfl ?_
    refine then_n ?_
    refine wp_ret ?_
    exact c_end (S := (fun x_ => St w x_ [Res.box blk2 [Value.int .i64 a0, Value.int .i64 a1] 35])) (rs := [.tmp 2]) rfl [] (v := Value.bool false) (C := True) (by kernel_rfl) trivial hS3 ((hS3.rv (by simp [vtmp, *])))

theorem IsValidSubscriberID_s_c (a0 : Int) (a1 : Int) (w : World) : Calls Try.prog 36 #[Value.agg #[Value.int .i64 a0, Value.int .i64 a1]] w (RetV w (Value.bool (vsub a0 a1))) := by
  refine calls_FA Try.func36 rfl (n := 11) rfl (l := [(0, Value.agg #[Value.int .i64 a0, Value.int .i64 a1])]) rfl (by simp) (fun g => ?_)
  have hS := St.init w
  refine wp_seq ?_
  refine c_reg ?_
  refine l_op rfl rfl (fun K hK => op_box (d := some 1) rfl rfl [Value.int .i64 a0, Value.int .i64 a1] (by kernel_rfl) hS (fun blk2 w1 hS1 => hK _ _ ?_))
  clear hK K
  refine q_seg (S := (fun x_ => St w x_ [Res.box blk2 [Value.int .i64 a0, Value.int .i64 a1] 34])) [(2, Value.bool false)] [.no] True (by kernel_rfl) trivial hS1 ?_
  refine l_nil rfl ?_
  refine then_n ?_
  refine wp_seq ?_
  refine c_reg ?_
  refine q_seg (S := (fun x_ => St w x_ [Res.box blk2 [Value.int .i64 a0, Value.int .i64 a1] 34])) [(4, Value.int .i64 a0), (3, Value.pointer (some ⟨blk2, 0 + 0, none⟩))] [.no, .v (Value.int .i64 a0)] ((LoadsAt Try.prog (fun x_ => St w x_ [Res.box blk2 [Value.int .i64 a0, Value.int .i64 a1] 34]) 3 ⟨blk2, 0 + 0, none⟩ (Value.int .i64 a0))) (by kernel_rfl) (ld_box (i := 0) rfl rfl (by kernel_rfl)) hS1 ?_
  refine l_op rfl rfl (fun K hK => op_callv (d := some 5) rfl rfl ⟨_, Try.func37, by kernel_rfl, by kernel_rfl⟩ (vs := [Value.int .i64 a0, Value.int .i64 0, Value.int .i64 3]) (by kernel_rfl) (v := Value.bool (inR a0 0 3)) (l1In_c a0 0 3 _) hS1 (fun w3 hS3 => hK _ _ ?_))
  clear hK K
  refine q_seg (S := (fun x_ => St w x_ [Res.box blk2 [Value.int .i64 a0, Value.int .i64 a1] 34])) [(6, Value.bool (inR a0 0 3))] [.no] True (by kernel_rfl) trivial hS3 ?_
  rcases Bool.eq_false_or_eq_true (inR a0 0 3) with hb4 | hb4
  · skip
    obtain ⟨hb4p, hb4q⟩ := inR_iff.1 hb4
    refine q_seg (S := (fun x_ => St w x_ [Res.box blk2 [Value.int .i64 a0, Value.int .i64 a1] 34])) [(8, Value.int .i64 a1), (7, Value.pointer (some ⟨blk2, 0 + 1, none⟩))] [.no, .v (Value.int .i64 a1)] (((inR a0 0 3) = true) ∧ ((inR a0 0 3) = true) ∧ (LoadsAt Try.prog (fun x_ => St w x_ [Res.box blk2 [Value.int .i64 a0, Value.int .i64 a1] 34]) 3 ⟨blk2, 0 + 1, none⟩ (Value.int .i64 a1))) (by kernel_rfl) ⟨hb4, hb4, (ld_box (i := 0) rfl rfl (by kernel_rfl))⟩ hS3 ?_
    refine l_opg rfl (b := (inR a0 0 3)) (want := true) (by kernel_rfl) hb4 (fun K hK => op_callv (d := some 9) rfl rfl ⟨_, Try.func37, by kernel_rfl, by kernel_rfl⟩ (vs := [Value.int .i64 a1, Value.int .i64 0, Value.int .i64 99]) (by kernel_rfl) (v := Value.bool (inR a1 0 99)) (l1In_c a1 0 99 _) hS3 (fun w5 hS5 => hK _ _ ?_))
    clear hK K
    refine q_seg (S := (fun x_ => St w x_ [Res.box blk2 [Value.int .i64 a0, Value.int .i64 a1] 34])) [(2, Value.bool (inR a1 0 99)), (10, Value.bool (inR a1 0 99))] [.v (.bool true), .no] (((inR a0 0 3) = true)) (by kernel_rfl) hb4 hS5 ?_
    refine l_nil rfl ?_
    refine then_n ?_
    refine wp_ret ?_
    exact c_end (S := (fun x_ => St w x_ [Res.box blk2 [Value.int .i64 a0, Value.int .i64 a1] 34])) (rs := [.tmp 2]) rfl [] (v := Value.bool (inR a1 0 99)) (C := True) (by kernel_rfl) trivial hS5 ((hS5.rv (by simp [vsub, *])))
  · skip
    have hb4p := inR_neg hb4
    refine q_seg (S := (fun x_ => St w x_ [Res.box blk2 [Value.int .i64 a0, Value.int .i64 a1] 34])) [(2, Value.bool false), (10, Value.bool false), (9, undef), (8, undef), (7, undef)] [.skip, .skip, .skip, .v (.bool false), .no] (((inR a0 0 3) = !true) ∧ ((inR a0 0 3) = !true) ∧ ((inR a0 0 3) = !true) ∧ ((inR a0 0 3) = false)) (by kernel_rfl) ⟨hb4, hb4, hb4, hb4⟩ hS3 ?_
    refine l_nil rfl ?_
    refine then_n ?_
    refine wp_ret ?_
    exact c_end (S := (fun x_ => St w x_ [Res.box blk2 [Value.int .i64 a0, Value.int .i64 a1] 34])) (rs := [.tmp 2]) rfl [] (v := Value.bool false) (C := True) (by kernel_rfl) trivial hS3 ((hS3.rv (by simp [vsub, *])))

theorem IsValidTempID_s_c (a0 : Int) (a1 : Int) (w : World) : Calls Try.prog 38 #[Value.agg #[Value.int .i64 a0, Value.int .i64 a1]] w (RetV w (Value.bool (vtmp a0 a1))) := by
  refine calls_FA Try.func38 rfl (n := 11) rfl (l := [(0, Value.agg #[Value.int .i64 a0, Value.int .i64 a1])]) rfl (by simp) (fun g => ?_)
  have hS := St.init w
  refine wp_seq ?_
  refine c_reg ?_
  refine l_op rfl rfl (fun K hK => op_box (d := some 1) rfl rfl [Value.int .i64 a0, Value.int .i64 a1] (by kernel_rfl) hS (fun blk2 w1 hS1 => hK _ _ ?_))
  clear hK K
  refine q_seg (S := (fun x_ => St w x_ [Res.box blk2 [Value.int .i64 a0, Value.int .i64 a1] 35])) [(2, Value.bool false)] [.no] True (by kernel_rfl) trivial hS1 ?_
  refine l_nil rfl ?_
  refine then_n ?_
  refine wp_seq ?_
  refine c_reg ?_
  refine q_seg (S := (fun x_ => St w x_ [Res.box blk2 [Value.int .i64 a0, Value.int .i64 a1] 35])) [(4, Value.int .i64 a0), (3, Value.pointer (some ⟨blk2, 0 + 0, none⟩))] [.no, .v (Value.int .i64 a0)] ((LoadsAt Try.prog (fun x_ => St w x_ [Res.box blk2 [Value.int .i64 a0, Value.int .i64 a1] 35]) 3 ⟨blk2, 0 + 0, none⟩ (Value.int .i64 a0))) (by kernel_rfl) (ld_box (i := 0) rfl rfl (by kernel_rfl)) hS1 ?_
  refine l_op rfl rfl (fun K hK => op_callv (d := some 5) rfl rfl ⟨_, Try.func37, by kernel_rfl, by kernel_rfl⟩ (vs := [Value.int .i64 a0, Value.int .i64 0, Value.int .i64 3]) (by kernel_rfl) (v := Value.bool (inR a0 0 3)) (l1In_c a0 0 3 _) hS1 (fun w3 hS3 => hK _ _ ?_))
  clear hK K
  refine q_seg (S := (fun x_ => St w x_ [Res.box blk2 [Value.int .i64 a0, Value.int .i64 a1] 35])) [(6, Value.bool (inR a0 0 3))] [.no] True (by kernel_rfl) trivial hS3 ?_
  rcases Bool.eq_false_or_eq_true (inR a0 0 3) with hb4 | hb4
  · skip
    obtain ⟨hb4p, hb4q⟩ := inR_iff.1 hb4
    refine q_seg (S := (fun x_ => St w x_ [Res.box blk2 [Value.int .i64 a0, Value.int .i64 a1] 35])) [(8, Value.int .i64 a1), (7, Value.pointer (some ⟨blk2, 0 + 1, none⟩))] [.no, .v (Value.int .i64 a1)] (((inR a0 0 3) = true) ∧ ((inR a0 0 3) = true) ∧ (LoadsAt Try.prog (fun x_ => St w x_ [Res.box blk2 [Value.int .i64 a0, Value.int .i64 a1] 35]) 3 ⟨blk2, 0 + 1, none⟩ (Value.int .i64 a1))) (by kernel_rfl) ⟨hb4, hb4, (ld_box (i := 0) rfl rfl (by kernel_rfl))⟩ hS3 ?_
    refine l_opg rfl (b := (inR a0 0 3)) (want := true) (by kernel_rfl) hb4 (fun K hK => op_callv (d := some 9) rfl rfl ⟨_, Try.func37, by kernel_rfl, by kernel_rfl⟩ (vs := [Value.int .i64 a1, Value.int .i64 0, Value.int .i64 9999]) (by kernel_rfl) (v := Value.bool (inR a1 0 9999)) (l1In_c a1 0 9999 _) hS3 (fun w5 hS5 => hK _ _ ?_))
    clear hK K
    refine q_seg (S := (fun x_ => St w x_ [Res.box blk2 [Value.int .i64 a0, Value.int .i64 a1] 35])) [(2, Value.bool (inR a1 0 9999)), (10, Value.bool (inR a1 0 9999))] [.v (.bool true), .no] (((inR a0 0 3) = true)) (by kernel_rfl) hb4 hS5 ?_
    refine l_nil rfl ?_
    refine then_n ?_
    refine wp_ret ?_
    exact c_end (S := (fun x_ => St w x_ [Res.box blk2 [Value.int .i64 a0, Value.int .i64 a1] 35])) (rs := [.tmp 2]) rfl [] (v := Value.bool (inR a1 0 9999)) (C := True) (by kernel_rfl) trivial hS5 ((hS5.rv (by simp [vtmp, *])))
  · skip
    have hb4p := inR_neg hb4
    refine q_seg (S := (fun x_ => St w x_ [Res.box blk2 [Value.int .i64 a0, Value.int .i64 a1] 35])) [(2, Value.bool false), (10, Value.bool false), (9, undef), (8, undef), (7, undef)] [.skip, .skip, .skip, .v (.bool false), .no] (((inR a0 0 3) = !true) ∧ ((inR a0 0 3) = !true) ∧ ((inR a0 0 3) = !true) ∧ ((inR a0 0 3) = false)) (by kernel_rfl) ⟨hb4, hb4, hb4, hb4⟩ hS3 ?_
    refine l_nil rfl ?_
    refine then_n ?_
    refine wp_ret ?_
    exact c_end (S := (fun x_ => St w x_ [Res.box blk2 [Value.int .i64 a0, Value.int .i64 a1] 35])) (rs := [.tmp 2]) rfl [] (v := Value.bool false) (C := True) (by kernel_rfl) trivial hS3 ((hS3.rv (by simp [vtmp, *])))
theorem toRegistrationS_c (A : Option Addr) (n c : Nat) (L : List Int) (w : World) (hn : n ≤ 1099511627776) (hr : Rd w w.heap.size A (n * 6) (L.map (Value.int .i64))) : Calls Try.prog 7 #[.slice A n c] w (Ret w (fun v new => ∃ A_ c_, v = .slice A_ n c_ ∧ new = [.row (.slice A_ n c_) 37 6 n (L.map (Value.int .i64))])) := by
  have hLl : L.length = n * 6 := hr.len
  refine calls_FA Try.func7 rfl (n := 23) rfl (l := [(0, Value.slice A n c)]) rfl (by simp) (fun g => ?_)
  have hS := St.init w
  refine wp_seq ?_
  refine c_reg ?_
  refine q_seg (S := (fun x_ => St w x_ [])) [(2, Value.slice none 0 0)] [.no] True (by kernel_rfl) trivial hS ?_
  refine l_nil rfl ?_
  refine then_n ?_
  refine wp_seq ?_
  refine c_reg ?_
  refine q_seg (S := (fun x_ => St w x_ [])) [(6, Value.int .i64 ((n : Nat) : Int)), (5, Value.slice A n c)] [.no, .no] True (by kernel_rfl) trivial hS ?_
  refine l_op rfl rfl (fun K hK => op_make (d := some 7) rfl rfl (e := 37) (by kernel_rfl) [Value.int .i64 0, Value.int .i64 0, Value.int .i64 0, Value.int .i64 0, Value.int .i64 0, Value.int .i64 0] (by kernel_rfl) 6 (by kernel_rfl) 48 (by kernel_rfl) n n (kl := .i64) (kc := .i64) (by kernel_rfl) (by kernel_rfl) (by omega) (by omega) (by unfold maxLen; omega) hS (fun blk2 w1 hS1 => hK _ _ ?_))
  clear hK K
  refine q_seg (S := (fun x_ => St w x_ [Res.row (Value.slice (some ⟨blk2, 0, none⟩) n n) 37 6 n (zrow [Value.int .i64 0, Value.int .i64 0, Value.int .i64 0, Value.int .i64 0, Value.int .i64 0, Value.int .i64 0] (n * 6))])) [(3, Value.slice (some ⟨blk2, 0, none⟩) n n)] [.no] True (by kernel_rfl) trivial hS1 ?_
  refine l_nil rfl ?_
  refine then_n ?_
  refine wp_seq ?_
  refine wp_seq ?_
  refine c_reg ?_
  refine q_seg (S := (fun x_ => St w x_ [Res.row (Value.slice (some ⟨blk2, 0, none⟩) n n) 37 6 n (zrow [Value.int .i64 0, Value.int .i64 0, Value.int .i64 0, Value.int .i64 0, Value.int .i64 0, Value.int .i64 0] (n * 6))])) [(4, Value.int .i64 0)] [.no] True (by kernel_rfl) trivial hS1 ?_
  refine l_nil rfl ?_
  refine then_n ?_
  refine wp_block ?_
  refine c_loop (X := Nat) (fun (k : Nat) => [(0, Value.slice A n c), (3, Value.slice (some ⟨blk2, 0, none⟩) n n), (4, Value.int .i64 ((k : Nat) : Int))]) (fun (k : Nat) (wr : World) => (k ≤ n) ∧ St w wr [Res.row (Value.slice (some ⟨blk2, 0, none⟩) n n) 37 6 n ((L.take (k * 6)).map (Value.int .i64) ++ List.replicate ((n - k) * 6) (Value.int .i64 0))]) (fun (k : Nat) => n - k) 0 ?_ ?_ ?_
  · exact (agree_cons (by kernel_rfl) (agree_cons (by kernel_rfl) (agree_cons (by kernel_rfl) agree_nil)))
  · exact ⟨Nat.zero_le _, (hS1.eqv (by rw [zrow6]; simp))⟩
  rintro k g4 w3 ⟨hkn, hS3⟩
  refine wp_seq ?_
  refine wp_seq ?_
  refine c_reg ?_
  refine q_seg (S := (fun x_ => St w x_ [Res.row (Value.slice (some ⟨blk2, 0, none⟩) n n) 37 6 n ((L.take (k * 6)).map (Value.int .i64) ++ List.replicate ((n - k) * 6) (Value.int .i64 0))])) [(11, Value.bool (decide (((k : Nat) : Int) < ((n : Nat) : Int)))), (10, Value.int .i64 ((n : Nat) : Int)), (9, Value.slice A n c), (8, Value.int .i64 ((k : Nat) : Int))] [.no, .no, .no, .no] True (by kernel_rfl) trivial hS3 ?_
  refine l_nil rfl ?_
  refine then_n ?_
  rcases Bool.eq_false_or_eq_true (decide (((k : Nat) : Int) < ((n : Nat) : Int))) with hb5 | hb5
  · skip
    have hb5p := of_decide_eq_true hb5
    have hk_n : k < n := by omega
    obtain ⟨bA, offA, rfl, hbA, hclA⟩ := hr.2 (by omega)
    refine c_true (b := (decide (((k : Nat) : Int) < ((n : Nat) : Int)))) (by kernel_rfl) hb5 ?_
    refine wp_skip ?_
    refine then_n ?_
    refine wp_seq ?_
    refine wp_block ?_
    refine c_reg ?_
    refine q_seg (S := (fun x_ => St w x_ [Res.row (Value.slice (some ⟨blk2, 0, none⟩) n n) 37 6 n ((L.take (k * 6)).map (Value.int .i64) ++ List.replicate ((n - k) * 6) (Value.int .i64 0))])) [(19, Value.agg #[Value.int .i64 (za L (k * 6 + 0)), Value.int .i64 (za L (k * 6 + 1)), Value.int .i64 (za L (k * 6 + 2)), Value.int .i64 (za L (k * 6 + 3)), Value.int .i64 (za L (k * 6 + 4)), Value.int .i64 (za L (k * 6 + 5))]), (18, Value.pointer (some ⟨bA, offA + Int.toNat ((k : Nat) : Int) * 6, none⟩)), (17, Value.int .i64 ((k : Nat) : Int)), (16, Value.slice (some ⟨bA, offA, none⟩) n c), (15, Value.int .i64 ((k : Nat) : Int)), (14, Value.slice (some ⟨blk2, 0, none⟩) n n)] [.no, .no, .no, .no, .no, .v (Value.agg #[Value.int .i64 (za L (k * 6 + 0)), Value.int .i64 (za L (k * 6 + 1)), Value.int .i64 (za L (k * 6 + 2)), Value.int .i64 (za L (k * 6 + 3)), Value.int .i64 (za L (k * 6 + 4)), Value.int .i64 (za L (k * 6 + 5))])] (((0 : Int) ≤ ((k : Nat) : Int)) ∧ (((k : Nat) : Int) < ((n : Nat) : Int)) ∧ (LoadsAt Try.prog (fun x_ => St w x_ [Res.row (Value.slice (some ⟨blk2, 0, none⟩) n n) 37 6 n ((L.take (k * 6)).map (Value.int .i64) ++ List.replicate ((n - k) * 6) (Value.int .i64 0))]) 28 ⟨bA, offA + Int.toNat ((k : Nat) : Int) * 6, none⟩ (Value.agg #[Value.int .i64 (za L (k * 6 + 0)), Value.int .i64 (za L (k * 6 + 1)), Value.int .i64 (za L (k * 6 + 2)), Value.int .i64 (za L (k * 6 + 3)), Value.int .i64 (za L (k * 6 + 4)), Value.int .i64 (za L (k * 6 + 5))]))) (by kernel_rfl) ⟨(by omega), (by omega), (ld_lowN (k := 6) (vs := [Value.int .i64 (za L (k * 6 + 0)), Value.int .i64 (za L (k * 6 + 1)), Value.int .i64 (za L (k * 6 + 2)), Value.int .i64 (za L (k * 6 + 3)), Value.int .i64 (za L (k * 6 + 4)), Value.int .i64 (za L (k * 6 + 5))]) (by kernel_rfl) rfl (rec_low (p := k * 6) (q := 6) hclA (by omega) (seg6 (by omega))))⟩ hS3 ?_
    refine l_op rfl rfl (fun K hK => op_callv (d := some 20) rfl rfl ⟨_, Try.func8, by kernel_rfl, by kernel_rfl⟩ (vs := [Value.agg #[Value.int .i64 (za L (k * 6 + 0)), Value.int .i64 (za L (k * 6 + 1)), Value.int .i64 (za L (k * 6 + 2)), Value.int .i64 (za L (k * 6 + 3)), Value.int .i64 (za L (k * 6 + 4)), Value.int .i64 (za L (k * 6 + 5))]]) (by kernel_rfl) (v := Value.agg #[Value.int .i64 (za L (k * 6 + 0)), Value.int .i64 (za L (k * 6 + 1)), Value.int .i64 (za L (k * 6 + 2)), Value.int .i64 (za L (k * 6 + 3)), Value.int .i64 (za L (k * 6 + 4)), Value.int .i64 (za L (k * 6 + 5))]) (toRegistration_c (za L (k * 6 + 0)) (za L (k * 6 + 1)) (za L (k * 6 + 2)) (za L (k * 6 + 3)) (za L (k * 6 + 4)) (za L (k * 6 + 5))  _) hS3 (fun w6 hS6 => hK _ _ ?_))
    clear hK K
    refine q_seg (S := (fun x_ => St w x_ [Res.row (Value.slice (some ⟨blk2, 0, none⟩) n n) 37 6 n ((L.take (k * 6)).map (Value.int .i64) ++ List.replicate ((n - k) * 6) (Value.int .i64 0))])) [(21, Value.pointer (some ⟨blk2, 0 + Int.toNat ((k : Nat) : Int) * 6, none⟩))] [.no] (((0 : Int) ≤ ((k : Nat) : Int)) ∧ (((k : Nat) : Int) < ((n : Nat) : Int))) (by kernel_rfl) ⟨(by omega), (by omega)⟩ hS6 ?_
    have hlnw7 := hS6.row_len (List.mem_of_getElem? (i := 0) rfl)
    refine l_op rfl rfl (fun K hK => op_storeRow (d := none) rfl rfl (i := 0) (b := blk2) (off := 0 + Int.toNat ((k : Nat) : Int) * 6) (m := n) (cap := n) (e := 37) (sz := 6) (xs := ((L.take (k * 6)).map (Value.int .i64) ++ List.replicate ((n - k) * 6) (Value.int .i64 0))) (by kernel_rfl) (by kernel_rfl) [Value.int .i64 (za L (k * 6 + 0)), Value.int .i64 (za L (k * 6 + 1)), Value.int .i64 (za L (k * 6 + 2)), Value.int .i64 (za L (k * 6 + 3)), Value.int .i64 (za L (k * 6 + 4)), Value.int .i64 (za L (k * 6 + 5))] (by kernel_rfl) (by kernel_rfl) (by rw [hlnw7]; simp only [List.length_cons, List.length_nil]; omega) (by rfl) [Res.row (Value.slice (some ⟨blk2, 0, none⟩) n n) 37 6 n (List.take (0 + Int.toNat ((k : Nat) : Int) * 6) ((L.take (k * 6)).map (Value.int .i64) ++ List.replicate ((n - k) * 6) (Value.int .i64 0)) ++ [Value.int .i64 (za L (k * 6 + 0)), Value.int .i64 (za L (k * 6 + 1)), Value.int .i64 (za L (k * 6 + 2)), Value.int .i64 (za L (k * 6 + 3)), Value.int .i64 (za L (k * 6 + 4)), Value.int .i64 (za L (k * 6 + 5))] ++ List.drop (0 + Int.toNat ((k : Nat) : Int) * 6 + List.length [Value.int .i64 (za L (k * 6 + 0)), Value.int .i64 (za L (k * 6 + 1)), Value.int .i64 (za L (k * 6 + 2)), Value.int .i64 (za L (k * 6 + 3)), Value.int .i64 (za L (k * 6 + 4)), Value.int .i64 (za L (k * 6 + 5))]) ((L.take (k * 6)).map (Value.int .i64) ++ List.replicate ((n - k) * 6) (Value.int .i64 0)))] (by kernel_rfl) hS6 (fun w7 hS7 => hK _ _ ?_))
    clear hK K
    replace hS7 := hS7.eqv (own' := [Res.row (Value.slice (some ⟨blk2, 0, none⟩) n n) 37 6 n ((L.take ((k + 1) * 6)).map (Value.int .i64) ++ List.replicate ((n - (k + 1)) * 6) (Value.int .i64 0))]) (by rw [fill6 (by omega) hk_n (by omega)])
    refine l_nil rfl ?_
    refine blk_n ?_
    refine then_n ?_
    refine c_reg ?_
    refine q_seg (S := (fun x_ => St w x_ [Res.row (Value.slice (some ⟨blk2, 0, none⟩) n n) 37 6 n ((L.take ((k + 1) * 6)).map (Value.int .i64) ++ List.replicate ((n - (k + 1)) * 6) (Value.int .i64 0))])) [(4, Value.int .i64 (((k : Nat) : Int) + (1 : Int))), (13, Value.int .i64 (((k : Nat) : Int) + (1 : Int))), (12, Value.int .i64 ((k : Nat) : Int))] [.no, .no, .no] ((InK .i64 (((k : Nat) : Int) + (1 : Int)))) (by kernel_rfl) (in64 (by omega) (by omega)) hS7 ?_
    refine l_nil rfl ?_
    refine then_n ?_
    refine round_end (k + 1) ?_ ?_ ?_
    · exact (agree_cons (by kernel_rfl) (agree_cons (by kernel_rfl) (agree_cons (by kernel_rfl) agree_nil)))
    · exact ⟨(by omega), hS7⟩
    · exact (by first | omega | (dsimp only; omega))
  · skip
    have hb5p := of_decide_eq_false hb5
    refine c_false (b := (decide (((k : Nat) : Int) < ((n : Nat) : Int)))) (by kernel_rfl) hb5 ?_
    refine wp_exit ?_
    refine then_x ?_
    refine then_x ?_
    refine blk_hit ?_
    refine then_n ?_
    refine wp_seq ?_
    refine c_reg ?_
    refine q_seg (S := (fun x_ => St w x_ [Res.row (Value.slice (some ⟨blk2, 0, none⟩) n n) 37 6 n ((L.take (k * 6)).map (Value.int .i64) ++ List.replicate ((n - k) * 6) (Value.int .i64 0))])) [(2, Value.slice (some ⟨blk2, 0, none⟩) n n), (22, Value.slice (some ⟨blk2, 0, none⟩) n n)] [.no, .no] True (by kernel_rfl) trivial hS3 ?_
    refine l_nil rfl ?_
    refine then_n ?_
    refine wp_ret ?_
    exact c_end (S := (fun x_ => St w x_ [Res.row (Value.slice (some ⟨blk2, 0, none⟩) n n) 37 6 n ((L.take (k * 6)).map (Value.int .i64) ++ List.replicate ((n - k) * 6) (Value.int .i64 0))])) (rs := [.tmp 2]) rfl [] (v := Value.slice (some ⟨blk2, 0, none⟩) n n) (C := True) (by kernel_rfl) trivial hS3 ((hS3.eqv (by rw [take_all (by omega), show (n - k) * 6 = 0 by omega, List.replicate_zero, List.append_nil])).rt ⟨_, _, rfl, rfl⟩)
theorem copyItems_c (A : Option Addr) (n c : Nat) (L : List Int) (w : World) (hn : n ≤ 1099511627776) (hr : Rd w w.heap.size A (n * 6) (L.map (Value.int .i64))) : Calls Try.prog 25 #[.slice A n c] w (Ret w (fun v new => ∃ A_ c_, v = .slice A_ n c_ ∧ new = [.row (.slice A_ n c_) 37 6 n (L.map (Value.int .i64))])) := by
  have hLl : L.length = n * 6 := hr.len
  refine calls_FA Try.func25 rfl (n := 11) rfl (l := [(0, Value.slice A n c)]) rfl (by simp) (fun g => ?_)
  have hS := St.init w
  refine wp_seq ?_
  refine c_reg ?_
  refine q_seg (S := (fun x_ => St w x_ [])) [(2, Value.slice none 0 0)] [.no] True (by kernel_rfl) trivial hS ?_
  refine l_nil rfl ?_
  refine then_n ?_
  refine wp_seq ?_
  refine c_reg ?_
  refine q_seg (S := (fun x_ => St w x_ [])) [(5, Value.int .i64 ((n : Nat) : Int)), (4, Value.slice A n c)] [.no, .no] True (by kernel_rfl) trivial hS ?_
  refine l_op rfl rfl (fun K hK => op_make (d := some 6) rfl rfl (e := 37) (by kernel_rfl) [Value.int .i64 0, Value.int .i64 0, Value.int .i64 0, Value.int .i64 0, Value.int .i64 0, Value.int .i64 0] (by kernel_rfl) 6 (by kernel_rfl) 48 (by kernel_rfl) n n (kl := .i64) (kc := .i64) (by kernel_rfl) (by kernel_rfl) (by omega) (by omega) (by unfold maxLen; omega) hS (fun blk2 w1 hS1 => hK _ _ ?_))
  clear hK K
  refine q_seg (S := (fun x_ => St w x_ [Res.row (Value.slice (some ⟨blk2, 0, none⟩) n n) 37 6 n (zrow [Value.int .i64 0, Value.int .i64 0, Value.int .i64 0, Value.int .i64 0, Value.int .i64 0, Value.int .i64 0] (n * 6))])) [(3, Value.slice (some ⟨blk2, 0, none⟩) n n)] [.no] True (by kernel_rfl) trivial hS1 ?_
  refine l_nil rfl ?_
  refine then_n ?_
  refine wp_seq ?_
  refine c_reg ?_
  refine q_seg (S := (fun x_ => St w x_ [Res.row (Value.slice (some ⟨blk2, 0, none⟩) n n) 37 6 n (zrow [Value.int .i64 0, Value.int .i64 0, Value.int .i64 0, Value.int .i64 0, Value.int .i64 0, Value.int .i64 0] (n * 6))])) [(8, Value.slice A n c), (7, Value.slice (some ⟨blk2, 0, none⟩) n n)] [.no, .no] True (by kernel_rfl) trivial hS1 ?_
  refine l_op rfl rfl (fun K hK => op_copyN (d := some 9) rfl rfl (e := 37) (by kernel_rfl) (sz := 6) (by kernel_rfl) (i := 0) (b := blk2) (cap := n) (m := n) (xs := (zrow [Value.int .i64 0, Value.int .i64 0, Value.int .i64 0, Value.int .i64 0, Value.int .i64 0, Value.int .i64 0] (n * 6))) (by kernel_rfl) (by kernel_rfl) (A := A) (c := c) (by kernel_rfl) (L.map (Value.int .i64)) hS1 (hS1.rdlow hr) (ints_one _ _) (fun w3 hS3 => hK _ _ ?_))
  clear hK K
  refine l_nil rfl ?_
  refine then_n ?_
  refine wp_seq ?_
  refine c_reg ?_
  refine q_seg (S := (fun x_ => St w x_ [Res.row (Value.slice (some ⟨blk2, 0, none⟩) n n) 37 6 n (L.map (Value.int .i64))])) [(2, Value.slice (some ⟨blk2, 0, none⟩) n n), (10, Value.slice (some ⟨blk2, 0, none⟩) n n)] [.no, .no] True (by kernel_rfl) trivial hS3 ?_
  refine l_nil rfl ?_
  refine then_n ?_
  refine wp_ret ?_
  exact c_end (S := (fun x_ => St w x_ [Res.row (Value.slice (some ⟨blk2, 0, none⟩) n n) 37 6 n (L.map (Value.int .i64))])) (rs := [.tmp 2]) rfl [] (v := Value.slice (some ⟨blk2, 0, none⟩) n n) (C := True) (by kernel_rfl) trivial hS3 (hS3.rt ⟨_, _, rfl, rfl⟩)
theorem l21Copy_c (A : Option Addr) (n c : Nat) (L : List Int) (w : World) (hn : n ≤ 1099511627776) (hr : Rd w w.heap.size A (n * 6) (L.map (Value.int .i64))) : Calls Try.prog 21 #[.slice A n c] w (Ret w (fun v new => ∃ A_ c_, v = .slice A_ n c_ ∧ new = [.row (.slice A_ n c_) 37 6 n (L.map (Value.int .i64))])) := by
  have hLl : L.length = n * 6 := hr.len
  refine calls_FA Try.func21 rfl (n := 6) rfl (l := [(0, Value.slice A n c)]) rfl (by simp) (fun g => ?_)
  have hS := St.init w
  refine wp_seq ?_
  refine c_reg ?_
  refine q_seg (S := (fun x_ => St w x_ [])) [(2, Value.slice none 0 0)] [.no] True (by kernel_rfl) trivial hS ?_
  refine l_nil rfl ?_
  refine then_n ?_
  refine wp_seq ?_
  refine c_reg ?_
  refine l_op rfl rfl (fun K hK => op_buildSlice (d := some 3) rfl rfl (e := 37) (by kernel_rfl) 6 (by kernel_rfl) (by decide) (by decide) [] (by kernel_rfl) rfl hS (fun blk2 w1 hS1 => hK _ _ ?_))
  clear hK K
  refine q_seg (S := (fun x_ => St w x_ [Res.row (Value.slice (some ⟨blk2, 0, none⟩) 0 0) 37 6 0 ([])])) [(4, Value.slice A n c)] [.no] True (by kernel_rfl) trivial hS1 ?_
  refine l_op rfl rfl (fun K hK => op_append_nil (d := some 5) rfl rfl el_37 hS1 (i := 0) rfl rfl rfl (news := (L.map (Value.int .i64))) (hS1.rdlow hr) (ints_one _ _) (by omega) (by omega) (fun v4 w3 hS3 => hK _ _ ?_))
  clear hK K
  obtain ⟨hlv4, Av4, cv4, hvv4, hnv4, hmv4⟩ := hS3.row_slice (List.mem_of_getElem? (i := 0) rfl)
  subst hvv4
  refine q_seg (S := (fun x_ => St w x_ [Res.row (Value.slice Av4 n cv4) 37 6 n (L.map (Value.int .i64))])) [(2, Value.slice Av4 n cv4)] [.no] True (by kernel_rfl) trivial hS3 ?_
  refine l_nil rfl ?_
  refine then_n ?_
  refine wp_ret ?_
  exact c_end (S := (fun x_ => St w x_ [Res.row (Value.slice Av4 n cv4) 37 6 n (L.map (Value.int .i64))])) (rs := [.tmp 2]) rfl [] (v := Value.slice Av4 n cv4) (C := True) (by kernel_rfl) trivial hS3 (hS3.rt ⟨_, _, rfl, rfl⟩)
theorem eqRegistrationS_c (A B : Option Addr) (n c d : Nat) (L : List Int) (w : World) (hn : n ≤ 1099511627776) (hr : Rd w w.heap.size A (n * 6) (L.map (Value.int .i64))) (hr2 : Rd w w.heap.size B (n * 6) (L.map (Value.int .i64))) : Calls Try.prog 10 #[.slice A n c, .slice B n d] w (RetV w (.bool true)) := by
  have hLl : L.length = n * 6 := hr.len
  refine calls_FA Try.func10 rfl (n := 27) rfl (l := [(0, Value.slice A n c), (1, Value.slice B n d)]) rfl (by simp) (fun g => ?_)
  have hS := St.init w
  refine wp_seq ?_
  refine c_reg ?_
  refine q_seg (S := (fun x_ => St w x_ [])) [(4, Value.bool false)] [.no] True (by kernel_rfl) trivial hS ?_
  refine l_nil rfl ?_
  refine then_n ?_
  refine wp_seq ?_
  refine wp_seq ?_
  refine c_reg ?_
  refine q_seg (S := (fun x_ => St w x_ [])) [(10, Value.bool (!(decide (((n : Nat) : Int) = ((n : Nat) : Int))))), (9, Value.int .i64 ((n : Nat) : Int)), (8, Value.slice B n d), (7, Value.int .i64 ((n : Nat) : Int)), (6, Value.slice A n c)] [.no, .no, .no, .no, .no] True (by kernel_rfl) trivial hS ?_
  refine l_nil rfl ?_
  refine then_n ?_
  refine c_false (b := (!(decide (((n : Nat) : Int) = ((n : Nat) : Int))))) (by kernel_rfl) (nb (v := true) (decide_eq_true rfl)) ?_
  refine wp_skip ?_
  refine then_n ?_
  refine wp_seq ?_
  refine wp_seq ?_
  refine c_reg ?_
  refine q_seg (S := (fun x_ => St w x_ [])) [(5, Value.int .i64 0)] [.no] True (by kernel_rfl) trivial hS ?_
  refine l_nil rfl ?_
  refine then_n ?_
  refine wp_block ?_
  refine c_loop (X := Nat) (fun (k : Nat) => [(0, Value.slice A n c), (1, Value.slice B n d), (5, Value.int .i64 ((k : Nat) : Int))]) (fun (k : Nat) (wr : World) => (k ≤ n) ∧ St w wr []) (fun (k : Nat) => n - k) 0 ?_ ?_ ?_
  · exact (agree_cons (by kernel_rfl) (agree_cons (by kernel_rfl) (agree_cons (by kernel_rfl) agree_nil)))
  · exact ⟨Nat.zero_le _, hS⟩
  rintro k g2 w1 ⟨hkn, hS1⟩
  refine wp_seq ?_
  refine wp_seq ?_
  refine c_reg ?_
  refine q_seg (S := (fun x_ => St w x_ [])) [(14, Value.bool (decide (((k : Nat) : Int) < ((n : Nat) : Int)))), (13, Value.int .i64 ((n : Nat) : Int)), (12, Value.slice A n c), (11, Value.int .i64 ((k : Nat) : Int))] [.no, .no, .no, .no] True (by kernel_rfl) trivial hS1 ?_
  refine l_nil rfl ?_
  refine then_n ?_
  rcases Bool.eq_false_or_eq_true (decide (((k : Nat) : Int) < ((n : Nat) : Int))) with hb3 | hb3
  · skip
    have hb3p := of_decide_eq_true hb3
    have hk_n : k < n := by omega
    obtain ⟨bA, offA, rfl, hbA, hclA⟩ := hr.2 (by omega)
    obtain ⟨bB, offB, rfl, hbB, hclB⟩ := hr2.2 (by omega)
    refine c_true (b := (decide (((k : Nat) : Int) < ((n : Nat) : Int)))) (by kernel_rfl) hb3 ?_
    refine wp_skip ?_
    refine then_n ?_
    refine wp_seq ?_
    refine wp_block ?_
    refine wp_seq ?_
    refine c_drawn [] (by kernel_rfl) hS1 (fun w4 hS4 => ?_)
    refine t_seg (S := (fun x_ => St w x_ [])) [(0, .no), (1, .no), (4, .no), (5, .no), (2, .no), (6, .no), (3, .v (Value.agg #[Value.int .i64 (za L (k * 6 + 0)), Value.int .i64 (za L (k * 6 + 1)), Value.int .i64 (za L (k * 6 + 2)), Value.int .i64 (za L (k * 6 + 3)), Value.int .i64 (za L (k * 6 + 4)), Value.int .i64 (za L (k * 6 + 5))])), (7, .v (Value.agg #[Value.int .i64 (za L (k * 6 + 0)), Value.int .i64 (za L (k * 6 + 1)), Value.int .i64 (za L (k * 6 + 2)), Value.int .i64 (za L (k * 6 + 3)), Value.int .i64 (za L (k * 6 + 4)), Value.int .i64 (za L (k * 6 + 5))]))] 2 #[true, true, true, true, true, true, true, true, false, false] [(24, Value.agg #[Value.int .i64 (za L (k * 6 + 0)), Value.int .i64 (za L (k * 6 + 1)), Value.int .i64 (za L (k * 6 + 2)), Value.int .i64 (za L (k * 6 + 3)), Value.int .i64 (za L (k * 6 + 4)), Value.int .i64 (za L (k * 6 + 5))]), (20, Value.agg #[Value.int .i64 (za L (k * 6 + 0)), Value.int .i64 (za L (k * 6 + 1)), Value.int .i64 (za L (k * 6 + 2)), Value.int .i64 (za L (k * 6 + 3)), Value.int .i64 (za L (k * 6 + 4)), Value.int .i64 (za L (k * 6 + 5))]), (23, Value.pointer (some ⟨bB, offB + Int.toNat ((k : Nat) : Int) * 6, none⟩)), (19, Value.pointer (some ⟨bA, offA + Int.toNat ((k : Nat) : Int) * 6, none⟩)), (22, Value.int .i64 ((k : Nat) : Int)), (21, Value.slice (some ⟨bB, offB, none⟩) n d), (18, Value.int .i64 ((k : Nat) : Int)), (17, Value.slice (some ⟨bA, offA, none⟩) n c)] (((0 : Int) ≤ ((k : Nat) : Int)) ∧ (((k : Nat) : Int) < ((n : Nat) : Int)) ∧ ((0 : Int) ≤ ((k : Nat) : Int)) ∧ (((k : Nat) : Int) < ((n : Nat) : Int)) ∧ (LoadsAt Try.prog (fun x_ => St w x_ []) 37 ⟨bA, offA + Int.toNat ((k : Nat) : Int) * 6, none⟩ (Value.agg #[Value.int .i64 (za L (k * 6 + 0)), Value.int .i64 (za L (k * 6 + 1)), Value.int .i64 (za L (k * 6 + 2)), Value.int .i64 (za L (k * 6 + 3)), Value.int .i64 (za L (k * 6 + 4)), Value.int .i64 (za L (k * 6 + 5))])) ∧ (LoadsAt Try.prog (fun x_ => St w x_ []) 37 ⟨bB, offB + Int.toNat ((k : Nat) : Int) * 6, none⟩ (Value.agg #[Value.int .i64 (za L (k * 6 + 0)), Value.int .i64 (za L (k * 6 + 1)), Value.int .i64 (za L (k * 6 + 2)), Value.int .i64 (za L (k * 6 + 3)), Value.int .i64 (za L (k * 6 + 4)), Value.int .i64 (za L (k * 6 + 5))]))) (by kernel_rfl) (Qpanic.then (Qpanic.block (Qpanic.then (Qpanic.then (Qpanic.block (Qpanic.then Qpanic.bp)))))) rfl (by kernel_rfl) ⟨(by omega), (by omega), (by omega), (by omega), (ld_lowN (k := 6) (vs := [Value.int .i64 (za L (k * 6 + 0)), Value.int .i64 (za L (k * 6 + 1)), Value.int .i64 (za L (k * 6 + 2)), Value.int .i64 (za L (k * 6 + 3)), Value.int .i64 (za L (k * 6 + 4)), Value.int .i64 (za L (k * 6 + 5))]) (by kernel_rfl) rfl (rec_low (p := k * 6) (q := 6) hclA (by omega) (seg6 (by omega)))), (ld_lowN (k := 6) (vs := [Value.int .i64 (za L (k * 6 + 0)), Value.int .i64 (za L (k * 6 + 1)), Value.int .i64 (za L (k * 6 + 2)), Value.int .i64 (za L (k * 6 + 3)), Value.int .i64 (za L (k * 6 + 4)), Value.int .i64 (za L (k * 6 + 5))]) (by kernel_rfl) rfl (rec_low (p := k * 6) (q := 6) hclB (by omega) (seg6 (by omega))))⟩ hS4 ?_
    refine a_op (i := 8) (fuel := 1) (listed' := #[true, true, true, true, true, true, true, true, true, false]) rfl rfl (by kernel_rfl) (by kernel_rfl) rfl (fun K hK => op_callv (d := some 25) rfl rfl ⟨_, Try.func26, by kernel_rfl, by kernel_rfl⟩ (vs := [Value.agg #[Value.int .i64 (za L (k * 6 + 0)), Value.int .i64 (za L (k * 6 + 1)), Value.int .i64 (za L (k * 6 + 2)), Value.int .i64 (za L (k * 6 + 3)), Value.int .i64 (za L (k * 6 + 4)), Value.int .i64 (za L (k * 6 + 5))], Value.agg #[Value.int .i64 (za L (k * 6 + 0)), Value.int .i64 (za L (k * 6 + 1)), Value.int .i64 (za L (k * 6 + 2)), Value.int .i64 (za L (k * 6 + 3)), Value.int .i64 (za L (k * 6 + 4)), Value.int .i64 (za L (k * 6 + 5))]]) (by kernel_rfl) (v := Value.bool true) (eqRegistration_c (za L (k * 6 + 0)) (za L (k * 6 + 1)) (za L (k * 6 + 2)) (za L (k * 6 + 3)) (za L (k * 6 + 4)) (za L (k * 6 + 5)) _) hS4 (fun w5 hS5 => hK _ _ (fun _ => hS5) ?_))
    clear hK K
    refine t_seg (S := (fun x_ => St w x_ [])) [(9, .no)] 0 #[true, true, true, true, true, true, true, true, true, true] [(26, Value.bool false)] True (by kernel_rfl) (Qpanic.then (Qpanic.block (Qpanic.then (Qpanic.then (Qpanic.block (Qpanic.then Qpanic.bp)))))) rfl (by kernel_rfl) trivial hS5 ?_
    refine a_done (by kernel_rfl) ?_
    refine then_n ?_
    refine c_false (b := false) (by kernel_rfl) rfl ?_
    refine wp_skip ?_
    refine blk_n ?_
    refine then_n ?_
    refine c_reg ?_
    refine q_seg (S := (fun x_ => St w x_ [])) [(5, Value.int .i64 (((k : Nat) : Int) + (1 : Int))), (16, Value.int .i64 (((k : Nat) : Int) + (1 : Int))), (15, Value.int .i64 ((k : Nat) : Int))] [.no, .no, .no] ((InK .i64 (((k : Nat) : Int) + (1 : Int)))) (by kernel_rfl) (in64 (by omega) (by omega)) hS5 ?_
    refine l_nil rfl ?_
    refine then_n ?_
    refine round_end (k + 1) ?_ ?_ ?_
    · exact (agree_cons (by kernel_rfl) (agree_cons (by kernel_rfl) (agree_cons (by kernel_rfl) agree_nil)))
    · exact ⟨(by omega), hS5⟩
    · exact (by first | omega | (dsimp only; omega))
  · skip
    have hb3p := of_decide_eq_false hb3
    refine c_false (b := (decide (((k : Nat) : Int) < ((n : Nat) : Int)))) (by kernel_rfl) hb3 ?_
    refine wp_exit ?_
    refine then_x ?_
    refine then_x ?_
    refine blk_hit ?_
    refine then_n ?_
    refine wp_seq ?_
    refine c_reg ?_
    refine q_seg (S := (fun x_ => St w x_ [])) [(4, Value.bool true)] [.no] True (by kernel_rfl) trivial hS1 ?_
    refine l_nil rfl ?_
    refine then_n ?_
    refine wp_ret ?_
    exact c_end (S := (fun x_ => St w x_ [])) (rs := [.tmp 4]) rfl [] (v := Value.bool true) (C := True) (by kernel_rfl) trivial hS1 ((hS1.rv rfl))
theorem szRegistrationS_c (A : Option Addr) (n c : Nat) (lf : Int) (w : World) (h1 : 0 ≤ lf) (h2 : lf ≤ 1099511627776) (hn : n ≤ 9223372036854775807) : Calls Try.prog 5 #[.slice A n c, .int .i64 lf] w (RetV w (.int .i64 (szl lf n))) := by
  refine calls_FA Try.func5 rfl (n := 12) rfl (l := [(0, Value.slice A n c), (1, Value.int .i64 lf)]) rfl (by simp) (fun g => ?_)
  have hS := St.init w
  refine wp_seq ?_
  refine c_reg ?_
  refine q_seg (S := (fun x_ => St w x_ [])) [(4, Value.int .i64 0)] [.no] True (by kernel_rfl) trivial hS ?_
  refine l_nil rfl ?_
  refine then_n ?_
  refine wp_seq ?_
  refine c_reg ?_
  refine q_seg (S := (fun x_ => St w x_ [])) [(1, Value.int .i64 (lf - ((n : Nat) : Int))), (8, Value.int .i64 (lf - ((n : Nat) : Int))), (7, Value.int .i64 ((n : Nat) : Int)), (6, Value.slice A n c), (5, Value.int .i64 lf)] [.no, .no, .no, .no, .no] ((InK .i64 (lf - ((n : Nat) : Int)))) (by kernel_rfl) (in64 (by omega) (by omega)) hS ?_
  refine l_nil rfl ?_
  refine then_n ?_
  refine wp_seq ?_
  refine wp_seq ?_
  refine c_reg ?_
  refine q_seg (S := (fun x_ => St w x_ [])) [(10, Value.bool (decide ((lf - ((n : Nat) : Int)) < (0 : Int)))), (9, Value.int .i64 (lf - ((n : Nat) : Int)))] [.no, .no] True (by kernel_rfl) trivial hS ?_
  refine l_nil rfl ?_
  refine then_n ?_
  rcases Bool.eq_false_or_eq_true (decide ((lf - ((n : Nat) : Int)) < (0 : Int))) with hb1 | hb1
  · skip
    have hb1p := of_decide_eq_true hb1
    refine c_true (b := (decide ((lf - ((n : Nat) : Int)) < (0 : Int)))) (by kernel_rfl) hb1 ?_
    refine wp_seq ?_
    refine c_reg ?_
    refine q_seg (S := (fun x_ => St w x_ [])) [(4, Value.int .i64 (-1))] [.no] True (by kernel_rfl) trivial hS ?_
    refine l_nil rfl ?_
    refine then_n ?_
    refine wp_ret ?_
    refine then_r ?_
    exact c_end (S := (fun x_ => St w x_ [])) (rs := [.tmp 4]) rfl [] (v := Value.int .i64 (-1)) (C := True) (by kernel_rfl) trivial hS ((hS.rv (congrArg (Value.int .i64) (by unfold szl; split <;> omega))))
  · skip
    have hb1p := of_decide_eq_false hb1
    refine c_false (b := (decide ((lf - ((n : Nat) : Int)) < (0 : Int)))) (by kernel_rfl) hb1 ?_
    refine wp_skip ?_
    refine then_n ?_
    refine wp_seq ?_
    refine c_reg ?_
    refine q_seg (S := (fun x_ => St w x_ [])) [(4, Value.int .i64 (lf - ((n : Nat) : Int))), (11, Value.int .i64 (lf - ((n : Nat) : Int)))] [.no, .no] True (by kernel_rfl) trivial hS ?_
    refine l_nil rfl ?_
    refine then_n ?_
    refine wp_ret ?_
    exact c_end (S := (fun x_ => St w x_ [])) (rs := [.tmp 4]) rfl [] (v := Value.int .i64 (lf - ((n : Nat) : Int))) (C := True) (by kernel_rfl) trivial hS ((hS.rv (congrArg (Value.int .i64) (by unfold szl; split <;> omega))))
theorem markRegistrationS_c (A : Option Addr) (n c : Nat) (k0 : Int) (xs : List Value) (tl : List Res) (w0 w : World) (hS : St w0 w (.row (.slice A n c) 37 6 n xs :: tl)) (hk1 : -1099511627776 ≤ k0) (hk2 : k0 ≤ 1099511627776) (hn : n ≤ 1099511627776) : Calls Try.prog 11 #[.slice A n c, .int .i64 k0] w (fun e w' => ∃ v own', e = .returned v ∧ St w0 w' own' ∧ (v = .int .i64 (k0 + ((n * 6 : Nat) : Int)) ∧ own' = .row (.slice A n c) 37 6 n ((marks id k0 (n * 6)).map (Value.int .i64)) :: tl)) := by
  have hxl : xs.length = n * 6 := hS.row_len (List.mem_of_getElem? (i := 0) rfl)
  refine calls_FA Try.func11 rfl (n := 59) rfl (l := [(0, Value.slice A n c), (1, Value.int .i64 k0)]) rfl (by simp) (fun g => ?_)
  refine wp_seq ?_
  refine c_reg ?_
  refine q_seg (S := (fun x_ => St w0 x_ (Res.row (Value.slice A n c) 37 6 n xs :: tl))) [(4, Value.int .i64 0)] [.no] True (by kernel_rfl) trivial hS ?_
  refine l_nil rfl ?_
  refine then_n ?_
  refine wp_seq ?_
  refine wp_seq ?_
  refine c_reg ?_
  refine q_seg (S := (fun x_ => St w0 x_ (Res.row (Value.slice A n c) 37 6 n xs :: tl))) [(5, Value.int .i64 0)] [.no] True (by kernel_rfl) trivial hS ?_
  refine l_nil rfl ?_
  refine then_n ?_
  refine wp_block ?_
  refine c_loop (X := Nat) (fun (k : Nat) => [(0, Value.slice A n c), (1, Value.int .i64 (k0 + ((k * 6 : Nat) : Int))), (5, Value.int .i64 ((k : Nat) : Int))]) (fun (k : Nat) (wr : World) => (k ≤ n) ∧ St w0 wr (Res.row (Value.slice A n c) 37 6 n ((marks id k0 (k * 6)).map (Value.int .i64) ++ xs.drop (k * 6)) :: tl)) (fun (k : Nat) => n - k) 0 ?_ ?_ ?_
  · exact (agree_cons (by kernel_rfl) (agree_eq (v0 := Value.int .i64 k0) (by kernel_rfl) (congrArg (Value.int .i64) (by omega)) (agree_cons (by kernel_rfl) agree_nil)))
  · exact ⟨Nat.zero_le _, (hS.eqv (by simp [marks]))⟩
  rintro k g2 w1 ⟨hkn, hS1⟩
  refine wp_seq ?_
  refine wp_seq ?_
  refine c_reg ?_
  refine q_seg (S := (fun x_ => St w0 x_ (Res.row (Value.slice A n c) 37 6 n ((marks id k0 (k * 6)).map (Value.int .i64) ++ xs.drop (k * 6)) :: tl))) [(9, Value.bool (decide (((k : Nat) : Int) < ((n : Nat) : Int)))), (8, Value.int .i64 ((n : Nat) : Int)), (7, Value.slice A n c), (6, Value.int .i64 ((k : Nat) : Int))] [.no, .no, .no, .no] True (by kernel_rfl) trivial hS1 ?_
  refine l_nil rfl ?_
  refine then_n ?_
  rcases Bool.eq_false_or_eq_true (decide (((k : Nat) : Int) < ((n : Nat) : Int))) with hb3 | hb3
  · skip
    have hb3p := of_decide_eq_true hb3
    obtain ⟨blk4, rfl⟩ := hS1.row_at (List.mem_of_getElem? (i := 0) rfl) (by omega)
    have hb_lt : k < n := by omega
    refine c_true (b := (decide (((k : Nat) : Int) < ((n : Nat) : Int)))) (by kernel_rfl) hb3 ?_
    refine wp_skip ?_
    refine then_n ?_
    refine wp_seq ?_
    refine wp_block ?_
    refine wp_seq ?_
    refine c_reg ?_
    refine q_seg (S := (fun x_ => St w0 x_ (Res.row (Value.slice (some ⟨blk4, 0, none⟩) n c) 37 6 n ((marks id k0 (k * 6)).map (Value.int .i64) ++ xs.drop (k * 6)) :: tl))) [(17, Value.pointer (some ⟨blk4, 0 + Int.toNat ((k : Nat) : Int) * 6 + 0 + 0, none⟩)), (16, Value.pointer (some ⟨blk4, 0 + Int.toNat ((k : Nat) : Int) * 6 + 0, none⟩)), (15, Value.pointer (some ⟨blk4, 0 + Int.toNat ((k : Nat) : Int) * 6, none⟩)), (14, Value.int .i64 (k0 + ((k * 6 : Nat) : Int))), (13, Value.int .i64 ((k : Nat) : Int)), (12, Value.slice (some ⟨blk4, 0, none⟩) n c)] [.no, .no, .no, .no, .no, .no] (((0 : Int) ≤ ((k : Nat) : Int)) ∧ (((k : Nat) : Int) < ((n : Nat) : Int))) (by kernel_rfl) ⟨(by omega), (by omega)⟩ hS1 ?_
    have hlnw5 := hS1.row_len (List.mem_of_getElem? (i := 0) rfl)
    refine l_op rfl rfl (fun K hK => op_storeRow (d := none) rfl rfl (i := 0) (b := blk4) (off := 0 + Int.toNat ((k : Nat) : Int) * 6 + 0 + 0) (m := n) (cap := c) (e := 37) (sz := 6) (xs := ((marks id k0 (k * 6)).map (Value.int .i64) ++ xs.drop (k * 6))) (by kernel_rfl) (by kernel_rfl) [Value.int .i64 (k0 + ((k * 6 : Nat) : Int))] (by kernel_rfl) (by kernel_rfl) (by rw [hlnw5]; simp only [List.length_cons, List.length_nil]; omega) (by rfl) (Res.row (Value.slice (some ⟨blk4, 0, none⟩) n c) 37 6 n (List.take (0 + Int.toNat ((k : Nat) : Int) * 6 + 0 + 0) ((marks id k0 (k * 6)).map (Value.int .i64) ++ xs.drop (k * 6)) ++ [Value.int .i64 (k0 + ((k * 6 : Nat) : Int))] ++ List.drop (0 + Int.toNat ((k : Nat) : Int) * 6 + 0 + 0 + List.length [Value.int .i64 (k0 + ((k * 6 : Nat) : Int))]) ((marks id k0 (k * 6)).map (Value.int .i64) ++ xs.drop (k * 6))) :: tl) (by kernel_rfl) hS1 (fun w5 hS5 => hK _ _ ?_))
    clear hK K
    replace hS5 := hS5.eqv (own' := (Res.row (Value.slice (some ⟨blk4, 0, none⟩) n c) 37 6 n ((marks id k0 (k * 6 + 1)).map (Value.int .i64) ++ xs.drop (k * 6 + 1)) :: tl)) (by rw [mark6 (p := k * 6) (n := n * 6) hxl (by omega) (by omega) (by omega)])
    refine l_nil rfl ?_
    refine then_n ?_
    refine wp_seq ?_
    refine c_reg ?_
    refine q_seg (S := (fun x_ => St w0 x_ (Res.row (Value.slice (some ⟨blk4, 0, none⟩) n c) 37 6 n ((marks id k0 (k * 6 + 1)).map (Value.int .i64) ++ xs.drop (k * 6 + 1)) :: tl))) [(1, Value.int .i64 ((k0 + ((k * 6 : Nat) : Int)) + (1 : Int))), (19, Value.int .i64 ((k0 + ((k * 6 : Nat) : Int)) + (1 : Int))), (18, Value.int .i64 (k0 + ((k * 6 : Nat) : Int)))] [.no, .no, .no] ((InK .i64 ((k0 + ((k * 6 : Nat) : Int)) + (1 : Int)))) (by kernel_rfl) (in64 (by omega) (by omega)) hS5 ?_
    refine l_nil rfl ?_
    refine then_n ?_
    refine wp_seq ?_
    refine c_reg ?_
    refine q_seg (S := (fun x_ => St w0 x_ (Res.row (Value.slice (some ⟨blk4, 0, none⟩) n c) 37 6 n ((marks id k0 (k * 6 + 1)).map (Value.int .i64) ++ xs.drop (k * 6 + 1)) :: tl))) [(25, Value.pointer (some ⟨blk4, 0 + Int.toNat ((k : Nat) : Int) * 6 + 0 + 1, none⟩)), (24, Value.pointer (some ⟨blk4, 0 + Int.toNat ((k : Nat) : Int) * 6 + 0, none⟩)), (23, Value.pointer (some ⟨blk4, 0 + Int.toNat ((k : Nat) : Int) * 6, none⟩)), (22, Value.int .i64 ((k0 + ((k * 6 : Nat) : Int)) + (1 : Int))), (21, Value.int .i64 ((k : Nat) : Int)), (20, Value.slice (some ⟨blk4, 0, none⟩) n c)] [.no, .no, .no, .no, .no, .no] (((0 : Int) ≤ ((k : Nat) : Int)) ∧ (((k : Nat) : Int) < ((n : Nat) : Int))) (by kernel_rfl) ⟨(by omega), (by omega)⟩ hS5 ?_
    have hlnw6 := hS5.row_len (List.mem_of_getElem? (i := 0) rfl)
    refine l_op rfl rfl (fun K hK => op_storeRow (d := none) rfl rfl (i := 0) (b := blk4) (off := 0 + Int.toNat ((k : Nat) : Int) * 6 + 0 + 1) (m := n) (cap := c) (e := 37) (sz := 6) (xs := ((marks id k0 (k * 6 + 1)).map (Value.int .i64) ++ xs.drop (k * 6 + 1))) (by kernel_rfl) (by kernel_rfl) [Value.int .i64 ((k0 + ((k * 6 : Nat) : Int)) + (1 : Int))] (by kernel_rfl) (by kernel_rfl) (by rw [hlnw6]; simp only [List.length_cons, List.length_nil]; omega) (by rfl) (Res.row (Value.slice (some ⟨blk4, 0, none⟩) n c) 37 6 n (List.take (0 + Int.toNat ((k : Nat) : Int) * 6 + 0 + 1) ((marks id k0 (k * 6 + 1)).map (Value.int .i64) ++ xs.drop (k * 6 + 1)) ++ [Value.int .i64 ((k0 + ((k * 6 : Nat) : Int)) + (1 : Int))] ++ List.drop (0 + Int.toNat ((k : Nat) : Int) * 6 + 0 + 1 + List.length [Value.int .i64 ((k0 + ((k * 6 : Nat) : Int)) + (1 : Int))]) ((marks id k0 (k * 6 + 1)).map (Value.int .i64) ++ xs.drop (k * 6 + 1))) :: tl) (by kernel_rfl) hS5 (fun w6 hS6 => hK _ _ ?_))
    clear hK K
    replace hS6 := hS6.eqv (own' := (Res.row (Value.slice (some ⟨blk4, 0, none⟩) n c) 37 6 n ((marks id k0 (k * 6 + 1 + 1)).map (Value.int .i64) ++ xs.drop (k * 6 + 1 + 1)) :: tl)) (by rw [mark6 (p := k * 6 + 1) (n := n * 6) hxl (by omega) (by omega) (by omega)])
    refine l_nil rfl ?_
    refine then_n ?_
    refine wp_seq ?_
    refine c_reg ?_
    refine q_seg (S := (fun x_ => St w0 x_ (Res.row (Value.slice (some ⟨blk4, 0, none⟩) n c) 37 6 n ((marks id k0 (k * 6 + 1 + 1)).map (Value.int .i64) ++ xs.drop (k * 6 + 1 + 1)) :: tl))) [(1, Value.int .i64 (((k0 + ((k * 6 : Nat) : Int)) + (1 : Int)) + (1 : Int))), (27, Value.int .i64 (((k0 + ((k * 6 : Nat) : Int)) + (1 : Int)) + (1 : Int))), (26, Value.int .i64 ((k0 + ((k * 6 : Nat) : Int)) + (1 : Int)))] [.no, .no, .no] ((InK .i64 (((k0 + ((k * 6 : Nat) : Int)) + (1 : Int)) + (1 : Int)))) (by kernel_rfl) (in64 (by omega) (by omega)) hS6 ?_
    refine l_nil rfl ?_
    refine then_n ?_
    refine wp_seq ?_
    refine c_reg ?_
    refine q_seg (S := (fun x_ => St w0 x_ (Res.row (Value.slice (some ⟨blk4, 0, none⟩) n c) 37 6 n ((marks id k0 (k * 6 + 1 + 1)).map (Value.int .i64) ++ xs.drop (k * 6 + 1 + 1)) :: tl))) [(32, Value.pointer (some ⟨blk4, 0 + Int.toNat ((k : Nat) : Int) * 6 + 2, none⟩)), (31, Value.pointer (some ⟨blk4, 0 + Int.toNat ((k : Nat) : Int) * 6, none⟩)), (30, Value.int .i64 (((k0 + ((k * 6 : Nat) : Int)) + (1 : Int)) + (1 : Int))), (29, Value.int .i64 ((k : Nat) : Int)), (28, Value.slice (some ⟨blk4, 0, none⟩) n c)] [.no, .no, .no, .no, .no] (((0 : Int) ≤ ((k : Nat) : Int)) ∧ (((k : Nat) : Int) < ((n : Nat) : Int))) (by kernel_rfl) ⟨(by omega), (by omega)⟩ hS6 ?_
    have hlnw7 := hS6.row_len (List.mem_of_getElem? (i := 0) rfl)
    refine l_op rfl rfl (fun K hK => op_storeRow (d := none) rfl rfl (i := 0) (b := blk4) (off := 0 + Int.toNat ((k : Nat) : Int) * 6 + 2) (m := n) (cap := c) (e := 37) (sz := 6) (xs := ((marks id k0 (k * 6 + 1 + 1)).map (Value.int .i64) ++ xs.drop (k * 6 + 1 + 1))) (by kernel_rfl) (by kernel_rfl) [Value.int .i64 (((k0 + ((k * 6 : Nat) : Int)) + (1 : Int)) + (1 : Int))] (by kernel_rfl) (by kernel_rfl) (by rw [hlnw7]; simp only [List.length_cons, List.length_nil]; omega) (by rfl) (Res.row (Value.slice (some ⟨blk4, 0, none⟩) n c) 37 6 n (List.take (0 + Int.toNat ((k : Nat) : Int) * 6 + 2) ((marks id k0 (k * 6 + 1 + 1)).map (Value.int .i64) ++ xs.drop (k * 6 + 1 + 1)) ++ [Value.int .i64 (((k0 + ((k * 6 : Nat) : Int)) + (1 : Int)) + (1 : Int))] ++ List.drop (0 + Int.toNat ((k : Nat) : Int) * 6 + 2 + List.length [Value.int .i64 (((k0 + ((k * 6 : Nat) : Int)) + (1 : Int)) + (1 : Int))]) ((marks id k0 (k * 6 + 1 + 1)).map (Value.int .i64) ++ xs.drop (k * 6 + 1 + 1))) :: tl) (by kernel_rfl) hS6 (fun w7 hS7 => hK _ _ ?_))
    clear hK K
    replace hS7 := hS7.eqv (own' := (Res.row (Value.slice (some ⟨blk4, 0, none⟩) n c) 37 6 n ((marks id k0 (k * 6 + 1 + 1 + 1)).map (Value.int .i64) ++ xs.drop (k * 6 + 1 + 1 + 1)) :: tl)) (by rw [mark6 (p := k * 6 + 1 + 1) (n := n * 6) hxl (by omega) (by omega) (by omega)])
    refine l_nil rfl ?_
    refine then_n ?_
    refine wp_seq ?_
    refine c_reg ?_
    refine q_seg (S := (fun x_ => St w0 x_ (Res.row (Value.slice (some ⟨blk4, 0, none⟩) n c) 37 6 n ((marks id k0 (k * 6 + 1 + 1 + 1)).map (Value.int .i64) ++ xs.drop (k * 6 + 1 + 1 + 1)) :: tl))) [(1, Value.int .i64 ((((k0 + ((k * 6 : Nat) : Int)) + (1 : Int)) + (1 : Int)) + (1 : Int))), (34, Value.int .i64 ((((k0 + ((k * 6 : Nat) : Int)) + (1 : Int)) + (1 : Int)) + (1 : Int))), (33, Value.int .i64 (((k0 + ((k * 6 : Nat) : Int)) + (1 : Int)) + (1 : Int)))] [.no, .no, .no] ((InK .i64 ((((k0 + ((k * 6 : Nat) : Int)) + (1 : Int)) + (1 : Int)) + (1 : Int)))) (by kernel_rfl) (in64 (by omega) (by omega)) hS7 ?_
    refine l_nil rfl ?_
    refine then_n ?_
    refine wp_seq ?_
    refine c_reg ?_
    refine q_seg (S := (fun x_ => St w0 x_ (Res.row (Value.slice (some ⟨blk4, 0, none⟩) n c) 37 6 n ((marks id k0 (k * 6 + 1 + 1 + 1)).map (Value.int .i64) ++ xs.drop (k * 6 + 1 + 1 + 1)) :: tl))) [(39, Value.pointer (some ⟨blk4, 0 + Int.toNat ((k : Nat) : Int) * 6 + 3, none⟩)), (38, Value.pointer (some ⟨blk4, 0 + Int.toNat ((k : Nat) : Int) * 6, none⟩)), (37, Value.int .i64 ((((k0 + ((k * 6 : Nat) : Int)) + (1 : Int)) + (1 : Int)) + (1 : Int))), (36, Value.int .i64 ((k : Nat) : Int)), (35, Value.slice (some ⟨blk4, 0, none⟩) n c)] [.no, .no, .no, .no, .no] (((0 : Int) ≤ ((k : Nat) : Int)) ∧ (((k : Nat) : Int) < ((n : Nat) : Int))) (by kernel_rfl) ⟨(by omega), (by omega)⟩ hS7 ?_
    have hlnw8 := hS7.row_len (List.mem_of_getElem? (i := 0) rfl)
    refine l_op rfl rfl (fun K hK => op_storeRow (d := none) rfl rfl (i := 0) (b := blk4) (off := 0 + Int.toNat ((k : Nat) : Int) * 6 + 3) (m := n) (cap := c) (e := 37) (sz := 6) (xs := ((marks id k0 (k * 6 + 1 + 1 + 1)).map (Value.int .i64) ++ xs.drop (k * 6 + 1 + 1 + 1))) (by kernel_rfl) (by kernel_rfl) [Value.int .i64 ((((k0 + ((k * 6 : Nat) : Int)) + (1 : Int)) + (1 : Int)) + (1 : Int))] (by kernel_rfl) (by kernel_rfl) (by rw [hlnw8]; simp only [List.length_cons, List.length_nil]; omega) (by rfl) (Res.row (Value.slice (some ⟨blk4, 0, none⟩) n c) 37 6 n (List.take (0 + Int.toNat ((k : Nat) : Int) * 6 + 3) ((marks id k0 (k * 6 + 1 + 1 + 1)).map (Value.int .i64) ++ xs.drop (k * 6 + 1 + 1 + 1)) ++ [Value.int .i64 ((((k0 + ((k * 6 : Nat) : Int)) + (1 : Int)) + (1 : Int)) + (1 : Int))] ++ List.drop (0 + Int.toNat ((k : Nat) : Int) * 6 + 3 + List.length [Value.int .i64 ((((k0 + ((k * 6 : Nat) : Int)) + (1 : Int)) + (1 : Int)) + (1 : Int))]) ((marks id k0 (k * 6 + 1 + 1 + 1)).map (Value.int .i64) ++ xs.drop (k * 6 + 1 + 1 + 1))) :: tl) (by kernel_rfl) hS7 (fun w8 hS8 => hK _ _ ?_))
    clear hK K
    replace hS8 := hS8.eqv (own' := (Res.row (Value.slice (some ⟨blk4, 0, none⟩) n c) 37 6 n ((marks id k0 (k * 6 + 1 + 1 + 1 + 1)).map (Value.int .i64) ++ xs.drop (k * 6 + 1 + 1 + 1 + 1)) :: tl)) (by rw [mark6 (p := k * 6 + 1 + 1 + 1) (n := n * 6) hxl (by omega) (by omega) (by omega)])
    refine l_nil rfl ?_
    refine then_n ?_
    refine wp_seq ?_
    refine c_reg ?_
    refine q_seg (S := (fun x_ => St w0 x_ (Res.row (Value.slice (some ⟨blk4, 0, none⟩) n c) 37 6 n ((marks id k0 (k * 6 + 1 + 1 + 1 + 1)).map (Value.int .i64) ++ xs.drop (k * 6 + 1 + 1 + 1 + 1)) :: tl))) [(1, Value.int .i64 (((((k0 + ((k * 6 : Nat) : Int)) + (1 : Int)) + (1 : Int)) + (1 : Int)) + (1 : Int))), (41, Value.int .i64 (((((k0 + ((k * 6 : Nat) : Int)) + (1 : Int)) + (1 : Int)) + (1 : Int)) + (1 : Int))), (40, Value.int .i64 ((((k0 + ((k * 6 : Nat) : Int)) + (1 : Int)) + (1 : Int)) + (1 : Int)))] [.no, .no, .no] ((InK .i64 (((((k0 + ((k * 6 : Nat) : Int)) + (1 : Int)) + (1 : Int)) + (1 : Int)) + (1 : Int)))) (by kernel_rfl) (in64 (by omega) (by omega)) hS8 ?_
    refine l_nil rfl ?_
    refine then_n ?_
    refine wp_seq ?_
    refine c_reg ?_
    refine q_seg (S := (fun x_ => St w0 x_ (Res.row (Value.slice (some ⟨blk4, 0, none⟩) n c) 37 6 n ((marks id k0 (k * 6 + 1 + 1 + 1 + 1)).map (Value.int .i64) ++ xs.drop (k * 6 + 1 + 1 + 1 + 1)) :: tl))) [(47, Value.pointer (some ⟨blk4, 0 + Int.toNat ((k : Nat) : Int) * 6 + 4 + 0, none⟩)), (46, Value.pointer (some ⟨blk4, 0 + Int.toNat ((k : Nat) : Int) * 6 + 4, none⟩)), (45, Value.pointer (some ⟨blk4, 0 + Int.toNat ((k : Nat) : Int) * 6, none⟩)), (44, Value.int .i64 (((((k0 + ((k * 6 : Nat) : Int)) + (1 : Int)) + (1 : Int)) + (1 : Int)) + (1 : Int))), (43, Value.int .i64 ((k : Nat) : Int)), (42, Value.slice (some ⟨blk4, 0, none⟩) n c)] [.no, .no, .no, .no, .no, .no] (((0 : Int) ≤ ((k : Nat) : Int)) ∧ (((k : Nat) : Int) < ((n : Nat) : Int))) (by kernel_rfl) ⟨(by omega), (by omega)⟩ hS8 ?_
    have hlnw9 := hS8.row_len (List.mem_of_getElem? (i := 0) rfl)
    refine l_op rfl rfl (fun K hK => op_storeRow (d := none) rfl rfl (i := 0) (b := blk4) (off := 0 + Int.toNat ((k : Nat) : Int) * 6 + 4 + 0) (m := n) (cap := c) (e := 37) (sz := 6) (xs := ((marks id k0 (k * 6 + 1 + 1 + 1 + 1)).map (Value.int .i64) ++ xs.drop (k * 6 + 1 + 1 + 1 + 1))) (by kernel_rfl) (by kernel_rfl) [Value.int .i64 (((((k0 + ((k * 6 : Nat) : Int)) + (1 : Int)) + (1 : Int)) + (1 : Int)) + (1 : Int))] (by kernel_rfl) (by kernel_rfl) (by rw [hlnw9]; simp only [List.length_cons, List.length_nil]; omega) (by rfl) (Res.row (Value.slice (some ⟨blk4, 0, none⟩) n c) 37 6 n (List.take (0 + Int.toNat ((k : Nat) : Int) * 6 + 4 + 0) ((marks id k0 (k * 6 + 1 + 1 + 1 + 1)).map (Value.int .i64) ++ xs.drop (k * 6 + 1 + 1 + 1 + 1)) ++ [Value.int .i64 (((((k0 + ((k * 6 : Nat) : Int)) + (1 : Int)) + (1 : Int)) + (1 : Int)) + (1 : Int))] ++ List.drop (0 + Int.toNat ((k : Nat) : Int) * 6 + 4 + 0 + List.length [Value.int .i64 (((((k0 + ((k * 6 : Nat) : Int)) + (1 : Int)) + (1 : Int)) + (1 : Int)) + (1 : Int))]) ((marks id k0 (k * 6 + 1 + 1 + 1 + 1)).map (Value.int .i64) ++ xs.drop (k * 6 + 1 + 1 + 1 + 1))) :: tl) (by kernel_rfl) hS8 (fun w9 hS9 => hK _ _ ?_))
    clear hK K
    replace hS9 := hS9.eqv (own' := (Res.row (Value.slice (some ⟨blk4, 0, none⟩) n c) 37 6 n ((marks id k0 (k * 6 + 1 + 1 + 1 + 1 + 1)).map (Value.int .i64) ++ xs.drop (k * 6 + 1 + 1 + 1 + 1 + 1)) :: tl)) (by rw [mark6 (p := k * 6 + 1 + 1 + 1 + 1) (n := n * 6) hxl (by omega) (by omega) (by omega)])
    refine l_nil rfl ?_
    refine then_n ?_
    refine wp_seq ?_
    refine c_reg ?_
    refine q_seg (S := (fun x_ => St w0 x_ (Res.row (Value.slice (some ⟨blk4, 0, none⟩) n c) 37 6 n ((marks id k0 (k * 6 + 1 + 1 + 1 + 1 + 1)).map (Value.int .i64) ++ xs.drop (k * 6 + 1 + 1 + 1 + 1 + 1)) :: tl))) [(1, Value.int .i64 ((((((k0 + ((k * 6 : Nat) : Int)) + (1 : Int)) + (1 : Int)) + (1 : Int)) + (1 : Int)) + (1 : Int))), (49, Value.int .i64 ((((((k0 + ((k * 6 : Nat) : Int)) + (1 : Int)) + (1 : Int)) + (1 : Int)) + (1 : Int)) + (1 : Int))), (48, Value.int .i64 (((((k0 + ((k * 6 : Nat) : Int)) + (1 : Int)) + (1 : Int)) + (1 : Int)) + (1 : Int)))] [.no, .no, .no] ((InK .i64 ((((((k0 + ((k * 6 : Nat) : Int)) + (1 : Int)) + (1 : Int)) + (1 : Int)) + (1 : Int)) + (1 : Int)))) (by kernel_rfl) (in64 (by omega) (by omega)) hS9 ?_
    refine l_nil rfl ?_
    refine then_n ?_
    refine wp_seq ?_
    refine c_reg ?_
    refine q_seg (S := (fun x_ => St w0 x_ (Res.row (Value.slice (some ⟨blk4, 0, none⟩) n c) 37 6 n ((marks id k0 (k * 6 + 1 + 1 + 1 + 1 + 1)).map (Value.int .i64) ++ xs.drop (k * 6 + 1 + 1 + 1 + 1 + 1)) :: tl))) [(55, Value.pointer (some ⟨blk4, 0 + Int.toNat ((k : Nat) : Int) * 6 + 4 + 1, none⟩)), (54, Value.pointer (some ⟨blk4, 0 + Int.toNat ((k : Nat) : Int) * 6 + 4, none⟩)), (53, Value.pointer (some ⟨blk4, 0 + Int.toNat ((k : Nat) : Int) * 6, none⟩)), (52, Value.int .i64 ((((((k0 + ((k * 6 : Nat) : Int)) + (1 : Int)) + (1 : Int)) + (1 : Int)) + (1 : Int)) + (1 : Int))), (51, Value.int .i64 ((k : Nat) : Int)), (50, Value.slice (some ⟨blk4, 0, none⟩) n c)] [.no, .no, .no, .no, .no, .no] (((0 : Int) ≤ ((k : Nat) : Int)) ∧ (((k : Nat) : Int) < ((n : Nat) : Int))) (by kernel_rfl) ⟨(by omega), (by omega)⟩ hS9 ?_
    have hlnw10 := hS9.row_len (List.mem_of_getElem? (i := 0) rfl)
    refine l_op rfl rfl (fun K hK => op_storeRow (d := none) rfl rfl (i := 0) (b := blk4) (off := 0 + Int.toNat ((k : Nat) : Int) * 6 + 4 + 1) (m := n) (cap := c) (e := 37) (sz := 6) (xs := ((marks id k0 (k * 6 + 1 + 1 + 1 + 1 + 1)).map (Value.int .i64) ++ xs.drop (k * 6 + 1 + 1 + 1 + 1 + 1))) (by kernel_rfl) (by kernel_rfl) [Value.int .i64 ((((((k0 + ((k * 6 : Nat) : Int)) + (1 : Int)) + (1 : Int)) + (1 : Int)) + (1 : Int)) + (1 : Int))] (by kernel_rfl) (by kernel_rfl) (by rw [hlnw10]; simp only [List.length_cons, List.length_nil]; omega) (by rfl) (Res.row (Value.slice (some ⟨blk4, 0, none⟩) n c) 37 6 n (List.take (0 + Int.toNat ((k : Nat) : Int) * 6 + 4 + 1) ((marks id k0 (k * 6 + 1 + 1 + 1 + 1 + 1)).map (Value.int .i64) ++ xs.drop (k * 6 + 1 + 1 + 1 + 1 + 1)) ++ [Value.int .i64 ((((((k0 + ((k * 6 : Nat) : Int)) + (1 : Int)) + (1 : Int)) + (1 : Int)) + (1 : Int)) + (1 : Int))] ++ List.drop (0 + Int.toNat ((k : Nat) : Int) * 6 + 4 + 1 + List.length [Value.int .i64 ((((((k0 + ((k * 6 : Nat) : Int)) + (1 : Int)) + (1 : Int)) + (1 : Int)) + (1 : Int)) + (1 : Int))]) ((marks id k0 (k * 6 + 1 + 1 + 1 + 1 + 1)).map (Value.int .i64) ++ xs.drop (k * 6 + 1 + 1 + 1 + 1 + 1))) :: tl) (by kernel_rfl) hS9 (fun w10 hS10 => hK _ _ ?_))
    clear hK K
    replace hS10 := hS10.eqv (own' := (Res.row (Value.slice (some ⟨blk4, 0, none⟩) n c) 37 6 n ((marks id k0 (k * 6 + 1 + 1 + 1 + 1 + 1 + 1)).map (Value.int .i64) ++ xs.drop (k * 6 + 1 + 1 + 1 + 1 + 1 + 1)) :: tl)) (by rw [mark6 (p := k * 6 + 1 + 1 + 1 + 1 + 1) (n := n * 6) hxl (by omega) (by omega) (by omega)])
    refine l_nil rfl ?_
    refine then_n ?_
    refine c_reg ?_
    refine q_seg (S := (fun x_ => St w0 x_ (Res.row (Value.slice (some ⟨blk4, 0, none⟩) n c) 37 6 n ((marks id k0 (k * 6 + 1 + 1 + 1 + 1 + 1 + 1)).map (Value.int .i64) ++ xs.drop (k * 6 + 1 + 1 + 1 + 1 + 1 + 1)) :: tl))) [(1, Value.int .i64 (((((((k0 + ((k * 6 : Nat) : Int)) + (1 : Int)) + (1 : Int)) + (1 : Int)) + (1 : Int)) + (1 : Int)) + (1 : Int))), (57, Value.int .i64 (((((((k0 + ((k * 6 : Nat) : Int)) + (1 : Int)) + (1 : Int)) + (1 : Int)) + (1 : Int)) + (1 : Int)) + (1 : Int))), (56, Value.int .i64 ((((((k0 + ((k * 6 : Nat) : Int)) + (1 : Int)) + (1 : Int)) + (1 : Int)) + (1 : Int)) + (1 : Int)))] [.no, .no, .no] ((InK .i64 (((((((k0 + ((k * 6 : Nat) : Int)) + (1 : Int)) + (1 : Int)) + (1 : Int)) + (1 : Int)) + (1 : Int)) + (1 : Int)))) (by kernel_rfl) (in64 (by omega) (by omega)) hS10 ?_
    refine l_nil rfl ?_
    refine blk_n ?_
    refine then_n ?_
    refine c_reg ?_
    refine q_seg (S := (fun x_ => St w0 x_ (Res.row (Value.slice (some ⟨blk4, 0, none⟩) n c) 37 6 n ((marks id k0 (k * 6 + 1 + 1 + 1 + 1 + 1 + 1)).map (Value.int .i64) ++ xs.drop (k * 6 + 1 + 1 + 1 + 1 + 1 + 1)) :: tl))) [(5, Value.int .i64 (((k : Nat) : Int) + (1 : Int))), (11, Value.int .i64 (((k : Nat) : Int) + (1 : Int))), (10, Value.int .i64 ((k : Nat) : Int))] [.no, .no, .no] ((InK .i64 (((k : Nat) : Int) + (1 : Int)))) (by kernel_rfl) (in64 (by omega) (by omega)) hS10 ?_
    refine l_nil rfl ?_
    refine then_n ?_
    refine round_end (k + 1) ?_ ?_ ?_
    · exact (agree_cons (by kernel_rfl) (agree_eq (v0 := Value.int .i64 (((((((k0 + ((k * 6 : Nat) : Int)) + (1 : Int)) + (1 : Int)) + (1 : Int)) + (1 : Int)) + (1 : Int)) + (1 : Int))) (by kernel_rfl) (congrArg (Value.int .i64) (by omega)) (agree_cons (by kernel_rfl) agree_nil)))
    · exact ⟨(by omega), (hS10.eqv (by rw [show k * 6 + 1 + 1 + 1 + 1 + 1 + 1 = (k + 1) * 6 by omega]))⟩
    · exact (by first | omega | (dsimp only; omega))
  · skip
    have hb3p := of_decide_eq_false hb3
    refine c_false (b := (decide (((k : Nat) : Int) < ((n : Nat) : Int)))) (by kernel_rfl) hb3 ?_
    refine wp_exit ?_
    refine then_x ?_
    refine then_x ?_
    refine blk_hit ?_
    refine then_n ?_
    refine wp_seq ?_
    refine c_reg ?_
    refine q_seg (S := (fun x_ => St w0 x_ (Res.row (Value.slice A n c) 37 6 n ((marks id k0 (k * 6)).map (Value.int .i64) ++ xs.drop (k * 6)) :: tl))) [(4, Value.int .i64 (k0 + ((k * 6 : Nat) : Int))), (58, Value.int .i64 (k0 + ((k * 6 : Nat) : Int)))] [.no, .no] True (by kernel_rfl) trivial hS1 ?_
    refine l_nil rfl ?_
    refine then_n ?_
    refine wp_ret ?_
    have hkn2 : k = n := by omega
    exact c_end (S := (fun x_ => St w0 x_ (Res.row (Value.slice A n c) 37 6 n ((marks id k0 (k * 6)).map (Value.int .i64) ++ xs.drop (k * 6)) :: tl))) (rs := [.tmp 4]) rfl [] (v := Value.int .i64 (k0 + ((k * 6 : Nat) : Int))) (C := True) (by kernel_rfl) trivial hS1 (⟨_, _, rfl, hS1.eqv (by rw [hkn2, drop_all (by omega), List.append_nil]), by rw [hkn2], rfl⟩)
theorem heldRegistrationS_c (A : Option Addr) (n c : Nat) (k0 : Int) (w : World) (hk1 : -1099511627776 ≤ k0) (hk2 : k0 ≤ 1099511627776) (hn : n ≤ 1099511627776) (hr : Rd w w.heap.size A (n * 6) ((marks id k0 (n * 6)).map (Value.int .i64))) : Calls Try.prog 12 #[.slice A n c, .int .i64 k0] w (RetV w (.int .i64 (k0 + ((n * 6 : Nat) : Int)))) := by
  refine calls_FA Try.func12 rfl (n := 71) rfl (l := [(0, Value.slice A n c), (1, Value.int .i64 k0)]) rfl (by simp) (fun g => ?_)
  have hS := St.init w
  refine wp_seq ?_
  refine c_reg ?_
  refine q_seg (S := (fun x_ => St w x_ [])) [(4, Value.int .i64 0)] [.no] True (by kernel_rfl) trivial hS ?_
  refine l_nil rfl ?_
  refine then_n ?_
  refine wp_seq ?_
  refine wp_seq ?_
  refine c_reg ?_
  refine q_seg (S := (fun x_ => St w x_ [])) [(5, Value.int .i64 0)] [.no] True (by kernel_rfl) trivial hS ?_
  refine l_nil rfl ?_
  refine then_n ?_
  refine wp_block ?_
  refine c_loop (X := Nat) (fun (k : Nat) => [(0, Value.slice A n c), (1, Value.int .i64 (k0 + ((k * 6 : Nat) : Int))), (5, Value.int .i64 ((k : Nat) : Int))]) (fun (k : Nat) (wr : World) => (k ≤ n) ∧ St w wr []) (fun (k : Nat) => n - k) 0 ?_ ?_ ?_
  · exact (agree_cons (by kernel_rfl) (agree_eq (v0 := Value.int .i64 k0) (by kernel_rfl) (congrArg (Value.int .i64) (by omega)) (agree_cons (by kernel_rfl) agree_nil)))
  · exact ⟨Nat.zero_le _, hS⟩
  rintro k g2 w1 ⟨hkn, hS1⟩
  refine wp_seq ?_
  refine wp_seq ?_
  refine c_reg ?_
  refine q_seg (S := (fun x_ => St w x_ [])) [(9, Value.bool (decide (((k : Nat) : Int) < ((n : Nat) : Int)))), (8, Value.int .i64 ((n : Nat) : Int)), (7, Value.slice A n c), (6, Value.int .i64 ((k : Nat) : Int))] [.no, .no, .no, .no] True (by kernel_rfl) trivial hS1 ?_
  refine l_nil rfl ?_
  refine then_n ?_
  rcases Bool.eq_false_or_eq_true (decide (((k : Nat) : Int) < ((n : Nat) : Int))) with hb3 | hb3
  · skip
    have hb3p := of_decide_eq_true hb3
    have hk_n : k < n := by omega
    obtain ⟨bA, offA, rfl, hbA, hclA⟩ := hr.2 (by omega)
    refine c_true (b := (decide (((k : Nat) : Int) < ((n : Nat) : Int)))) (by kernel_rfl) hb3 ?_
    refine wp_skip ?_
    refine then_n ?_
    refine wp_seq ?_
    refine wp_block ?_
    refine wp_seq ?_
    refine wp_seq ?_
    refine c_reg ?_
    refine q_seg (S := (fun x_ => St w x_ [])) [(19, Value.bool (!(decide ((k0 + ((k * 6 + 0 : Nat) : Int)) = (k0 + ((k * 6 : Nat) : Int)))))), (18, Value.int .i64 (k0 + ((k * 6 : Nat) : Int))), (17, Value.int .i64 (k0 + ((k * 6 + 0 : Nat) : Int))), (16, Value.pointer (some ⟨bA, offA + Int.toNat ((k : Nat) : Int) * 6 + 0 + 0, none⟩)), (15, Value.pointer (some ⟨bA, offA + Int.toNat ((k : Nat) : Int) * 6 + 0, none⟩)), (14, Value.pointer (some ⟨bA, offA + Int.toNat ((k : Nat) : Int) * 6, none⟩)), (13, Value.int .i64 ((k : Nat) : Int)), (12, Value.slice (some ⟨bA, offA, none⟩) n c)] [.no, .no, .no, .no, .no, .v (Value.int .i64 (k0 + ((k * 6 + 0 : Nat) : Int))), .no, .no] (((0 : Int) ≤ ((k : Nat) : Int)) ∧ (((k : Nat) : Int) < ((n : Nat) : Int)) ∧ (LoadsAt Try.prog (fun x_ => St w x_ []) 3 ⟨bA, offA + Int.toNat ((k : Nat) : Int) * 6 + 0 + 0, none⟩ (Value.int .i64 (k0 + ((k * 6 + 0 : Nat) : Int))))) (by kernel_rfl) ⟨(by omega), (by omega), (ld_low (held_low (p := k * 6 + 0) hclA (by omega) (by omega)) (by kernel_rfl))⟩ hS1 ?_
    refine l_nil rfl ?_
    refine then_n ?_
    refine c_false (b := (!(decide ((k0 + ((k * 6 + 0 : Nat) : Int)) = (k0 + ((k * 6 : Nat) : Int)))))) (by kernel_rfl) (nb (v := true) (decide_eq_true (by omega))) ?_
    refine wp_skip ?_
    refine then_n ?_
    refine wp_seq ?_
    refine c_reg ?_
    refine q_seg (S := (fun x_ => St w x_ [])) [(1, Value.int .i64 ((k0 + ((k * 6 : Nat) : Int)) + (1 : Int))), (21, Value.int .i64 ((k0 + ((k * 6 : Nat) : Int)) + (1 : Int))), (20, Value.int .i64 (k0 + ((k * 6 : Nat) : Int)))] [.no, .no, .no] ((InK .i64 ((k0 + ((k * 6 : Nat) : Int)) + (1 : Int)))) (by kernel_rfl) (in64 (by omega) (by omega)) hS1 ?_
    refine l_nil rfl ?_
    refine then_n ?_
    refine wp_seq ?_
    refine wp_seq ?_
    refine c_reg ?_
    refine q_seg (S := (fun x_ => St w x_ [])) [(29, Value.bool (!(decide ((k0 + ((k * 6 + 1 : Nat) : Int)) = ((k0 + ((k * 6 : Nat) : Int)) + (1 : Int)))))), (28, Value.int .i64 ((k0 + ((k * 6 : Nat) : Int)) + (1 : Int))), (27, Value.int .i64 (k0 + ((k * 6 + 1 : Nat) : Int))), (26, Value.pointer (some ⟨bA, offA + Int.toNat ((k : Nat) : Int) * 6 + 0 + 1, none⟩)), (25, Value.pointer (some ⟨bA, offA + Int.toNat ((k : Nat) : Int) * 6 + 0, none⟩)), (24, Value.pointer (some ⟨bA, offA + Int.toNat ((k : Nat) : Int) * 6, none⟩)), (23, Value.int .i64 ((k : Nat) : Int)), (22, Value.slice (some ⟨bA, offA, none⟩) n c)] [.no, .no, .no, .no, .no, .v (Value.int .i64 (k0 + ((k * 6 + 1 : Nat) : Int))), .no, .no] (((0 : Int) ≤ ((k : Nat) : Int)) ∧ (((k : Nat) : Int) < ((n : Nat) : Int)) ∧ (LoadsAt Try.prog (fun x_ => St w x_ []) 3 ⟨bA, offA + Int.toNat ((k : Nat) : Int) * 6 + 0 + 1, none⟩ (Value.int .i64 (k0 + ((k * 6 + 1 : Nat) : Int))))) (by kernel_rfl) ⟨(by omega), (by omega), (ld_low (held_low (p := k * 6 + 1) hclA (by omega) (by omega)) (by kernel_rfl))⟩ hS1 ?_
    refine l_nil rfl ?_
    refine then_n ?_
    refine c_false (b := (!(decide ((k0 + ((k * 6 + 1 : Nat) : Int)) = ((k0 + ((k * 6 : Nat) : Int)) + (1 : Int)))))) (by kernel_rfl) (nb (v := true) (decide_eq_true (by omega))) ?_
    refine wp_skip ?_
    refine then_n ?_
    refine wp_seq ?_
    refine c_reg ?_
    refine q_seg (S := (fun x_ => St w x_ [])) [(1, Value.int .i64 (((k0 + ((k * 6 : Nat) : Int)) + (1 : Int)) + (1 : Int))), (31, Value.int .i64 (((k0 + ((k * 6 : Nat) : Int)) + (1 : Int)) + (1 : Int))), (30, Value.int .i64 ((k0 + ((k * 6 : Nat) : Int)) + (1 : Int)))] [.no, .no, .no] ((InK .i64 (((k0 + ((k * 6 : Nat) : Int)) + (1 : Int)) + (1 : Int)))) (by kernel_rfl) (in64 (by omega) (by omega)) hS1 ?_
    refine l_nil rfl ?_
    refine then_n ?_
    refine wp_seq ?_
    refine wp_seq ?_
    refine c_reg ?_
    refine q_seg (S := (fun x_ => St w x_ [])) [(38, Value.bool (!(decide ((k0 + ((k * 6 + 2 : Nat) : Int)) = (((k0 + ((k * 6 : Nat) : Int)) + (1 : Int)) + (1 : Int)))))), (37, Value.int .i64 (((k0 + ((k * 6 : Nat) : Int)) + (1 : Int)) + (1 : Int))), (36, Value.int .i64 (k0 + ((k * 6 + 2 : Nat) : Int))), (35, Value.pointer (some ⟨bA, offA + Int.toNat ((k : Nat) : Int) * 6 + 2, none⟩)), (34, Value.pointer (some ⟨bA, offA + Int.toNat ((k : Nat) : Int) * 6, none⟩)), (33, Value.int .i64 ((k : Nat) : Int)), (32, Value.slice (some ⟨bA, offA, none⟩) n c)] [.no, .no, .no, .no, .v (Value.int .i64 (k0 + ((k * 6 + 2 : Nat) : Int))), .no, .no] (((0 : Int) ≤ ((k : Nat) : Int)) ∧ (((k : Nat) : Int) < ((n : Nat) : Int)) ∧ (LoadsAt Try.prog (fun x_ => St w x_ []) 3 ⟨bA, offA + Int.toNat ((k : Nat) : Int) * 6 + 2, none⟩ (Value.int .i64 (k0 + ((k * 6 + 2 : Nat) : Int))))) (by kernel_rfl) ⟨(by omega), (by omega), (ld_low (held_low (p := k * 6 + 2) hclA (by omega) (by omega)) (by kernel_rfl))⟩ hS1 ?_
    refine l_nil rfl ?_
    refine then_n ?_
    refine c_false (b := (!(decide ((k0 + ((k * 6 + 2 : Nat) : Int)) = (((k0 + ((k * 6 : Nat) : Int)) + (1 : Int)) + (1 : Int)))))) (by kernel_rfl) (nb (v := true) (decide_eq_true (by omega))) ?_
    refine wp_skip ?_
    refine then_n ?_
    refine wp_seq ?_
    refine c_reg ?_
    refine q_seg (S := (fun x_ => St w x_ [])) [(1, Value.int .i64 ((((k0 + ((k * 6 : Nat) : Int)) + (1 : Int)) + (1 : Int)) + (1 : Int))), (40, Value.int .i64 ((((k0 + ((k * 6 : Nat) : Int)) + (1 : Int)) + (1 : Int)) + (1 : Int))), (39, Value.int .i64 (((k0 + ((k * 6 : Nat) : Int)) + (1 : Int)) + (1 : Int)))] [.no, .no, .no] ((InK .i64 ((((k0 + ((k * 6 : Nat) : Int)) + (1 : Int)) + (1 : Int)) + (1 : Int)))) (by kernel_rfl) (in64 (by omega) (by omega)) hS1 ?_
    refine l_nil rfl ?_
    refine then_n ?_
    refine wp_seq ?_
    refine wp_seq ?_
    refine c_reg ?_
    refine q_seg (S := (fun x_ => St w x_ [])) [(47, Value.bool (!(decide ((k0 + ((k * 6 + 3 : Nat) : Int)) = ((((k0 + ((k * 6 : Nat) : Int)) + (1 : Int)) + (1 : Int)) + (1 : Int)))))), (46, Value.int .i64 ((((k0 + ((k * 6 : Nat) : Int)) + (1 : Int)) + (1 : Int)) + (1 : Int))), (45, Value.int .i64 (k0 + ((k * 6 + 3 : Nat) : Int))), (44, Value.pointer (some ⟨bA, offA + Int.toNat ((k : Nat) : Int) * 6 + 3, none⟩)), (43, Value.pointer (some ⟨bA, offA + Int.toNat ((k : Nat) : Int) * 6, none⟩)), (42, Value.int .i64 ((k : Nat) : Int)), (41, Value.slice (some ⟨bA, offA, none⟩) n c)] [.no, .no, .no, .no, .v (Value.int .i64 (k0 + ((k * 6 + 3 : Nat) : Int))), .no, .no] (((0 : Int) ≤ ((k : Nat) : Int)) ∧ (((k : Nat) : Int) < ((n : Nat) : Int)) ∧ (LoadsAt Try.prog (fun x_ => St w x_ []) 3 ⟨bA, offA + Int.toNat ((k : Nat) : Int) * 6 + 3, none⟩ (Value.int .i64 (k0 + ((k * 6 + 3 : Nat) : Int))))) (by kernel_rfl) ⟨(by omega), (by omega), (ld_low (held_low (p := k * 6 + 3) hclA (by omega) (by omega)) (by kernel_rfl))⟩ hS1 ?_
    refine l_nil rfl ?_
    refine then_n ?_
    refine c_false (b := (!(decide ((k0 + ((k * 6 + 3 : Nat) : Int)) = ((((k0 + ((k * 6 : Nat) : Int)) + (1 : Int)) + (1 : Int)) + (1 : Int)))))) (by kernel_rfl) (nb (v := true) (decide_eq_true (by omega))) ?_
    refine wp_skip ?_
    refine then_n ?_
    refine wp_seq ?_
    refine c_reg ?_
    refine q_seg (S := (fun x_ => St w x_ [])) [(1, Value.int .i64 (((((k0 + ((k * 6 : Nat) : Int)) + (1 : Int)) + (1 : Int)) + (1 : Int)) + (1 : Int))), (49, Value.int .i64 (((((k0 + ((k * 6 : Nat) : Int)) + (1 : Int)) + (1 : Int)) + (1 : Int)) + (1 : Int))), (48, Value.int .i64 ((((k0 + ((k * 6 : Nat) : Int)) + (1 : Int)) + (1 : Int)) + (1 : Int)))] [.no, .no, .no] ((InK .i64 (((((k0 + ((k * 6 : Nat) : Int)) + (1 : Int)) + (1 : Int)) + (1 : Int)) + (1 : Int)))) (by kernel_rfl) (in64 (by omega) (by omega)) hS1 ?_
    refine l_nil rfl ?_
    refine then_n ?_
    refine wp_seq ?_
    refine wp_seq ?_
    refine c_reg ?_
    refine q_seg (S := (fun x_ => St w x_ [])) [(57, Value.bool (!(decide ((k0 + ((k * 6 + 4 : Nat) : Int)) = (((((k0 + ((k * 6 : Nat) : Int)) + (1 : Int)) + (1 : Int)) + (1 : Int)) + (1 : Int)))))), (56, Value.int .i64 (((((k0 + ((k * 6 : Nat) : Int)) + (1 : Int)) + (1 : Int)) + (1 : Int)) + (1 : Int))), (55, Value.int .i64 (k0 + ((k * 6 + 4 : Nat) : Int))), (54, Value.pointer (some ⟨bA, offA + Int.toNat ((k : Nat) : Int) * 6 + 4 + 0, none⟩)), (53, Value.pointer (some ⟨bA, offA + Int.toNat ((k : Nat) : Int) * 6 + 4, none⟩)), (52, Value.pointer (some ⟨bA, offA + Int.toNat ((k : Nat) : Int) * 6, none⟩)), (51, Value.int .i64 ((k : Nat) : Int)), (50, Value.slice (some ⟨bA, offA, none⟩) n c)] [.no, .no, .no, .no, .no, .v (Value.int .i64 (k0 + ((k * 6 + 4 : Nat) : Int))), .no, .no] (((0 : Int) ≤ ((k : Nat) : Int)) ∧ (((k : Nat) : Int) < ((n : Nat) : Int)) ∧ (LoadsAt Try.prog (fun x_ => St w x_ []) 3 ⟨bA, offA + Int.toNat ((k : Nat) : Int) * 6 + 4 + 0, none⟩ (Value.int .i64 (k0 + ((k * 6 + 4 : Nat) : Int))))) (by kernel_rfl) ⟨(by omega), (by omega), (ld_low (held_low (p := k * 6 + 4) hclA (by omega) (by omega)) (by kernel_rfl))⟩ hS1 ?_
    refine l_nil rfl ?_
    refine then_n ?_
    refine c_false (b := (!(decide ((k0 + ((k * 6 + 4 : Nat) : Int)) = (((((k0 + ((k * 6 : Nat) : Int)) + (1 : Int)) + (1 : Int)) + (1 : Int)) + (1 : Int)))))) (by kernel_rfl) (nb (v := true) (decide_eq_true (by omega))) ?_
    refine wp_skip ?_
    refine then_n ?_
    refine wp_seq ?_
    refine c_reg ?_
    refine q_seg (S := (fun x_ => St w x_ [])) [(1, Value.int .i64 ((((((k0 + ((k * 6 : Nat) : Int)) + (1 : Int)) + (1 : Int)) + (1 : Int)) + (1 : Int)) + (1 : Int))), (59, Value.int .i64 ((((((k0 + ((k * 6 : Nat) : Int)) + (1 : Int)) + (1 : Int)) + (1 : Int)) + (1 : Int)) + (1 : Int))), (58, Value.int .i64 (((((k0 + ((k * 6 : Nat) : Int)) + (1 : Int)) + (1 : Int)) + (1 : Int)) + (1 : Int)))] [.no, .no, .no] ((InK .i64 ((((((k0 + ((k * 6 : Nat) : Int)) + (1 : Int)) + (1 : Int)) + (1 : Int)) + (1 : Int)) + (1 : Int)))) (by kernel_rfl) (in64 (by omega) (by omega)) hS1 ?_
    refine l_nil rfl ?_
    refine then_n ?_
    refine wp_seq ?_
    refine wp_seq ?_
    refine c_reg ?_
    refine q_seg (S := (fun x_ => St w x_ [])) [(67, Value.bool (!(decide ((k0 + ((k * 6 + 5 : Nat) : Int)) = ((((((k0 + ((k * 6 : Nat) : Int)) + (1 : Int)) + (1 : Int)) + (1 : Int)) + (1 : Int)) + (1 : Int)))))), (66, Value.int .i64 ((((((k0 + ((k * 6 : Nat) : Int)) + (1 : Int)) + (1 : Int)) + (1 : Int)) + (1 : Int)) + (1 : Int))), (65, Value.int .i64 (k0 + ((k * 6 + 5 : Nat) : Int))), (64, Value.pointer (some ⟨bA, offA + Int.toNat ((k : Nat) : Int) * 6 + 4 + 1, none⟩)), (63, Value.pointer (some ⟨bA, offA + Int.toNat ((k : Nat) : Int) * 6 + 4, none⟩)), (62, Value.pointer (some ⟨bA, offA + Int.toNat ((k : Nat) : Int) * 6, none⟩)), (61, Value.int .i64 ((k : Nat) : Int)), (60, Value.slice (some ⟨bA, offA, none⟩) n c)] [.no, .no, .no, .no, .no, .v (Value.int .i64 (k0 + ((k * 6 + 5 : Nat) : Int))), .no, .no] (((0 : Int) ≤ ((k : Nat) : Int)) ∧ (((k : Nat) : Int) < ((n : Nat) : Int)) ∧ (LoadsAt Try.prog (fun x_ => St w x_ []) 3 ⟨bA, offA + Int.toNat ((k : Nat) : Int) * 6 + 4 + 1, none⟩ (Value.int .i64 (k0 + ((k * 6 + 5 : Nat) : Int))))) (by kernel_rfl) ⟨(by omega), (by omega), (ld_low (held_low (p := k * 6 + 5) hclA (by omega) (by omega)) (by kernel_rfl))⟩ hS1 ?_
    refine l_nil rfl ?_
    refine then_n ?_
    refine c_false (b := (!(decide ((k0 + ((k * 6 + 5 : Nat) : Int)) = ((((((k0 + ((k * 6 : Nat) : Int)) + (1 : Int)) + (1 : Int)) + (1 : Int)) + (1 : Int)) + (1 : Int)))))) (by kernel_rfl) (nb (v := true) (decide_eq_true (by omega))) ?_
    refine wp_skip ?_
    refine then_n ?_
    refine c_reg ?_
    refine q_seg (S := (fun x_ => St w x_ [])) [(1, Value.int .i64 (((((((k0 + ((k * 6 : Nat) : Int)) + (1 : Int)) + (1 : Int)) + (1 : Int)) + (1 : Int)) + (1 : Int)) + (1 : Int))), (69, Value.int .i64 (((((((k0 + ((k * 6 : Nat) : Int)) + (1 : Int)) + (1 : Int)) + (1 : Int)) + (1 : Int)) + (1 : Int)) + (1 : Int))), (68, Value.int .i64 ((((((k0 + ((k * 6 : Nat) : Int)) + (1 : Int)) + (1 : Int)) + (1 : Int)) + (1 : Int)) + (1 : Int)))] [.no, .no, .no] ((InK .i64 (((((((k0 + ((k * 6 : Nat) : Int)) + (1 : Int)) + (1 : Int)) + (1 : Int)) + (1 : Int)) + (1 : Int)) + (1 : Int)))) (by kernel_rfl) (in64 (by omega) (by omega)) hS1 ?_
    refine l_nil rfl ?_
    refine blk_n ?_
    refine then_n ?_
    refine c_reg ?_
    refine q_seg (S := (fun x_ => St w x_ [])) [(5, Value.int .i64 (((k : Nat) : Int) + (1 : Int))), (11, Value.int .i64 (((k : Nat) : Int) + (1 : Int))), (10, Value.int .i64 ((k : Nat) : Int))] [.no, .no, .no] ((InK .i64 (((k : Nat) : Int) + (1 : Int)))) (by kernel_rfl) (in64 (by omega) (by omega)) hS1 ?_
    refine l_nil rfl ?_
    refine then_n ?_
    refine round_end (k + 1) ?_ ?_ ?_
    · exact (agree_cons (by kernel_rfl) (agree_eq (v0 := Value.int .i64 (((((((k0 + ((k * 6 : Nat) : Int)) + (1 : Int)) + (1 : Int)) + (1 : Int)) + (1 : Int)) + (1 : Int)) + (1 : Int))) (by kernel_rfl) (congrArg (Value.int .i64) (by omega)) (agree_cons (by kernel_rfl) agree_nil)))
    · exact ⟨(by omega), hS1⟩
    · exact (by first | omega | (dsimp only; omega))
  · skip
    have hb3p := of_decide_eq_false hb3
    refine c_false (b := (decide (((k : Nat) : Int) < ((n : Nat) : Int)))) (by kernel_rfl) hb3 ?_
    refine wp_exit ?_
    refine then_x ?_
    refine then_x ?_
    refine blk_hit ?_
    refine then_n ?_
    refine wp_seq ?_
    refine c_reg ?_
    refine q_seg (S := (fun x_ => St w x_ [])) [(4, Value.int .i64 (k0 + ((k * 6 : Nat) : Int))), (70, Value.int .i64 (k0 + ((k * 6 : Nat) : Int)))] [.no, .no] True (by kernel_rfl) trivial hS1 ?_
    refine l_nil rfl ?_
    refine then_n ?_
    refine wp_ret ?_
    have hkn2 : k = n := by omega
    exact c_end (S := (fun x_ => St w x_ [])) (rs := [.tmp 4]) rfl [] (v := Value.int .i64 (k0 + ((k * 6 : Nat) : Int))) (C := True) (by kernel_rfl) trivial hS1 ((hS1.rv (by rw [hkn2])))
theorem FindS_c (A : Option Addr) (n c N : Nat) (L : List Int) (a b : Int) (w : World) (hn : n ≤ 1099511627776) (hN : n ≤ N) (hr : Rd w w.heap.size A (N * 6) (L.map (Value.int .i64))) : Calls Try.prog 16 #[.slice A n c, .agg #[.int .i64 a, .int .i64 b]] w (RetV w (.int .i64 (fnd (isID L a b) n))) := by
  have hLl := hr.len
  have hLl : L.length = N * 6 := hLl
  refine calls_FA Try.func16 rfl (n := 20) rfl (l := [(0, Value.slice A n c), (1, Value.agg #[Value.int .i64 a, Value.int .i64 b])]) rfl (by simp) (fun g => ?_)
  have hS := St.init w
  refine wp_seq ?_
  refine c_reg ?_
  refine l_op rfl rfl (fun K hK => op_box (d := some 3) rfl rfl [Value.int .i64 a, Value.int .i64 b] (by kernel_rfl) hS (fun blk2 w1 hS1 => hK _ _ ?_))
  clear hK K
  refine q_seg (S := (fun x_ => St w x_ [Res.box blk2 [Value.int .i64 a, Value.int .i64 b] 34])) [(4, Value.int .i64 0)] [.no] True (by kernel_rfl) trivial hS1 ?_
  refine l_nil rfl ?_
  refine then_n ?_
  refine wp_seq ?_
  refine wp_seq ?_
  refine c_reg ?_
  refine q_seg (S := (fun x_ => St w x_ [Res.box blk2 [Value.int .i64 a, Value.int .i64 b] 34])) [(5, Value.int .i64 0)] [.no] True (by kernel_rfl) trivial hS1 ?_
  refine l_nil rfl ?_
  refine then_n ?_
  refine wp_block ?_
  refine c_loop (X := Nat) (fun (k : Nat) => [(0, Value.slice A n c), (3, Value.pointer (some ⟨blk2, 0, none⟩)), (5, Value.int .i64 ((k : Nat) : Int))]) (fun (k : Nat) (wr : World) => (k ≤ n) ∧ (∀ j, j < k → isID L a b j = false) ∧ St w wr [Res.box blk2 [Value.int .i64 a, Value.int .i64 b] 34]) (fun (k : Nat) => n - k) 0 ?_ ?_ ?_
  · exact (agree_cons (by kernel_rfl) (agree_cons (by kernel_rfl) (agree_cons (by kernel_rfl) agree_nil)))
  · exact ⟨Nat.zero_le _, (fun j hj => absurd hj (by omega)), hS1⟩
  rintro k g4 w3 ⟨hkn, hno, hS3⟩
  refine wp_seq ?_
  refine wp_seq ?_
  refine c_reg ?_
  refine q_seg (S := (fun x_ => St w x_ [Res.box blk2 [Value.int .i64 a, Value.int .i64 b] 34])) [(9, Value.bool (decide (((k : Nat) : Int) < ((n : Nat) : Int)))), (8, Value.int .i64 ((n : Nat) : Int)), (7, Value.slice A n c), (6, Value.int .i64 ((k : Nat) : Int))] [.no, .no, .no, .no] True (by kernel_rfl) trivial hS3 ?_
  refine l_nil rfl ?_
  refine then_n ?_
  rcases Bool.eq_false_or_eq_true (decide (((k : Nat) : Int) < ((n : Nat) : Int))) with hb5 | hb5
  · skip
    have hb5p := of_decide_eq_true hb5
    have hk_n : k < n := by omega
    obtain ⟨bA, offA, rfl, hbA, hclA⟩ := hr.2 (by omega)
    refine c_true (b := (decide (((k : Nat) : Int) < ((n : Nat) : Int)))) (by kernel_rfl) hb5 ?_
    refine wp_skip ?_
    refine then_n ?_
    refine wp_seq ?_
    refine wp_block ?_
    refine wp_seq ?_
    refine c_drawn [] (by kernel_rfl) hS3 (fun w6 hS6 => ?_)
    refine t_seg (S := (fun x_ => St w x_ [Res.box blk2 [Value.int .i64 a, Value.int .i64 b] 34])) [(0, .no), (1, .no), (5, .v (Value.agg #[Value.int .i64 a, Value.int .i64 b])), (2, .no), (3, .no), (4, .v (Value.agg #[Value.int .i64 (za L (k * 6 + 0)), Value.int .i64 (za L (k * 6 + 1))])), (6, .no)] 0 #[true, true, true, true, true, true, true] [(18, Value.bool (((za L (k * 6 + 0)) == a) && (((za L (k * 6 + 1)) == b) && true))), (16, Value.agg #[Value.int .i64 (za L (k * 6 + 0)), Value.int .i64 (za L (k * 6 + 1))]), (15, Value.pointer (some ⟨bA, offA + Int.toNat ((k : Nat) : Int) * 6 + 0, none⟩)), (14, Value.pointer (some ⟨bA, offA + Int.toNat ((k : Nat) : Int) * 6, none⟩)), (17, Value.agg #[Value.int .i64 a, Value.int .i64 b]), (13, Value.int .i64 ((k : Nat) : Int)), (12, Value.slice (some ⟨bA, offA, none⟩) n c)] ((LoadsAt Try.prog (fun x_ => St w x_ [Res.box blk2 [Value.int .i64 a, Value.int .i64 b] 34]) 34 ⟨blk2, 0, none⟩ (Value.agg #[Value.int .i64 a, Value.int .i64 b])) ∧ ((0 : Int) ≤ ((k : Nat) : Int)) ∧ (((k : Nat) : Int) < ((n : Nat) : Int)) ∧ (LoadsAt Try.prog (fun x_ => St w x_ [Res.box blk2 [Value.int .i64 a, Value.int .i64 b] 34]) 34 ⟨bA, offA + Int.toNat ((k : Nat) : Int) * 6 + 0, none⟩ (Value.agg #[Value.int .i64 (za L (k * 6 + 0)), Value.int .i64 (za L (k * 6 + 1))]))) (by kernel_rfl) (Qpanic.then (Qpanic.block (Qpanic.then (Qpanic.then (Qpanic.block (Qpanic.then Qpanic.bp)))))) rfl (by kernel_rfl) ⟨(ld_boxN (i := 0) (k := 2) rfl rfl rfl (by kernel_rfl)), (by omega), (by omega), (ld_lowN (k := 2) (vs := [Value.int .i64 (za L (k * 6 + 0)), Value.int .i64 (za L (k * 6 + 1))]) (by kernel_rfl) rfl (rec_low (p := k * 6) (q := 2) hclA (by omega) (segA (by omega))))⟩ hS6 ?_
    refine a_done (by kernel_rfl) ?_
    refine then_n ?_
    rcases Bool.eq_false_or_eq_true ((((za L (k * 6 + 0)) == a) && (((za L (k * 6 + 1)) == b) && true))) with hb7 | hb7
    · skip
      refine c_true (b := (((za L (k * 6 + 0)) == a) && (((za L (k * 6 + 1)) == b) && true))) (by kernel_rfl) hb7 ?_
      refine wp_seq ?_
      refine c_reg ?_
      refine q_seg (S := (fun x_ => St w x_ [Res.box blk2 [Value.int .i64 a, Value.int .i64 b] 34])) [(4, Value.int .i64 ((k : Nat) : Int)), (19, Value.int .i64 ((k : Nat) : Int))] [.no, .no] True (by kernel_rfl) trivial hS6 ?_
      refine l_nil rfl ?_
      refine then_n ?_
      refine wp_ret ?_
      refine blk_r ?_
      refine then_r ?_
      refine then_r ?_
      refine blk_r ?_
      refine then_r ?_
      exact c_end (S := (fun x_ => St w x_ [Res.box blk2 [Value.int .i64 a, Value.int .i64 b] 34])) (rs := [.tmp 4]) rfl [] (v := Value.int .i64 ((k : Nat) : Int)) (C := True) (by kernel_rfl) trivial hS6 ((hS6.rv (congrArg (Value.int .i64) (fnd_hit hk_n hb7 hno).symm)))
    · skip
      refine c_false (b := (((za L (k * 6 + 0)) == a) && (((za L (k * 6 + 1)) == b) && true))) (by kernel_rfl) hb7 ?_
      refine wp_skip ?_
      refine blk_n ?_
      refine then_n ?_
      refine c_reg ?_
      refine q_seg (S := (fun x_ => St w x_ [Res.box blk2 [Value.int .i64 a, Value.int .i64 b] 34])) [(5, Value.int .i64 (((k : Nat) : Int) + (1 : Int))), (11, Value.int .i64 (((k : Nat) : Int) + (1 : Int))), (10, Value.int .i64 ((k : Nat) : Int))] [.no, .no, .no] ((InK .i64 (((k : Nat) : Int) + (1 : Int)))) (by kernel_rfl) (in64 (by omega) (by omega)) hS6 ?_
      refine l_nil rfl ?_
      refine then_n ?_
      refine round_end (k + 1) ?_ ?_ ?_
      · exact (agree_cons (by kernel_rfl) (agree_cons (by kernel_rfl) (agree_cons (by kernel_rfl) agree_nil)))
      · exact ⟨(by omega), (step_no hno hb7), hS6⟩
      · exact (by first | omega | (dsimp only; omega))
  · skip
    have hb5p := of_decide_eq_false hb5
    refine c_false (b := (decide (((k : Nat) : Int) < ((n : Nat) : Int)))) (by kernel_rfl) hb5 ?_
    refine wp_exit ?_
    refine then_x ?_
    refine then_x ?_
    refine blk_hit ?_
    refine then_n ?_
    refine wp_seq ?_
    refine c_reg ?_
    refine q_seg (S := (fun x_ => St w x_ [Res.box blk2 [Value.int .i64 a, Value.int .i64 b] 34])) [(4, Value.int .i64 (-1))] [.no] True (by kernel_rfl) trivial hS3 ?_
    refine l_nil rfl ?_
    refine then_n ?_
    refine wp_ret ?_
    exact c_end (S := (fun x_ => St w x_ [Res.box blk2 [Value.int .i64 a, Value.int .i64 b] 34])) (rs := [.tmp 4]) rfl [] (v := Value.int .i64 (-1)) (C := True) (by kernel_rfl) trivial hS3 ((hS3.rv (congrArg (Value.int .i64) (fnd_miss (fun j hj => hno j (by omega))).symm)))
theorem FindI_c (A : Option Addr) (n c N : Nat) (L : List Int) (a b : Int) (w : World) (hn : n ≤ 1099511627776) (hN : n ≤ N) (hr : Rd w w.heap.size A (N * 6) (L.map (Value.int .i64))) : Calls Try.prog 17 #[.slice A n c, .agg #[.int .i64 a, .int .i64 b]] w (RetV w (.int .i64 (fnd (isID L a b) n))) := by
  have hLl := hr.len
  have hLl : L.length = N * 6 := hLl
  refine calls_FA Try.func17 rfl (n := 20) rfl (l := [(0, Value.slice A n c), (1, Value.agg #[Value.int .i64 a, Value.int .i64 b])]) rfl (by simp) (fun g => ?_)
  have hS := St.init w
  refine wp_seq ?_
  refine c_reg ?_
  refine l_op rfl rfl (fun K hK => op_box (d := some 3) rfl rfl [Value.int .i64 a, Value.int .i64 b] (by kernel_rfl) hS (fun blk2 w1 hS1 => hK _ _ ?_))
  clear hK K
  refine q_seg (S := (fun x_ => St w x_ [Res.box blk2 [Value.int .i64 a, Value.int .i64 b] 34])) [(4, Value.int .i64 0)] [.no] True (by kernel_rfl) trivial hS1 ?_
  refine l_nil rfl ?_
  refine then_n ?_
  refine wp_seq ?_
  refine wp_seq ?_
  refine c_reg ?_
  refine q_seg (S := (fun x_ => St w x_ [Res.box blk2 [Value.int .i64 a, Value.int .i64 b] 34])) [(9, Value.int .i64 0), (8, Value.int .i64 ((n : Nat) : Int)), (7, Value.slice A n c)] [.no, .no, .no] True (by kernel_rfl) trivial hS1 ?_
  refine l_nil rfl ?_
  refine then_n ?_
  refine wp_block ?_
  refine c_loop (X := Nat) (fun (k : Nat) => [(3, Value.pointer (some ⟨blk2, 0, none⟩)), (7, Value.slice A n c), (8, Value.int .i64 ((n : Nat) : Int)), (9, Value.int .i64 ((k : Nat) : Int))]) (fun (k : Nat) (wr : World) => (k ≤ n) ∧ (∀ j, j < k → isID L a b j = false) ∧ St w wr [Res.box blk2 [Value.int .i64 a, Value.int .i64 b] 34]) (fun (k : Nat) => n - k) 0 ?_ ?_ ?_
  · exact (agree_cons (by kernel_rfl) (agree_cons (by kernel_rfl) (agree_cons (by kernel_rfl) (agree_cons (by kernel_rfl) agree_nil))))
  · exact ⟨Nat.zero_le _, (fun j hj => absurd hj (by omega)), hS1⟩
  rintro k g4 w3 ⟨hkn, hno, hS3⟩
  refine wp_seq ?_
  refine c_reg ?_
  refine q_seg (S := (fun x_ => St w x_ [Res.box blk2 [Value.int .i64 a, Value.int .i64 b] 34])) [(10, Value.bool (decide (((k : Nat) : Int) < ((n : Nat) : Int))))] [.no] True (by kernel_rfl) trivial hS3 ?_
  refine l_nil rfl ?_
  refine then_n ?_
  refine wp_seq ?_
  rcases Bool.eq_false_or_eq_true (decide (((k : Nat) : Int) < ((n : Nat) : Int))) with hb5 | hb5
  · skip
    have hb5p := of_decide_eq_true hb5
    have hk_n : k < n := by omega
    obtain ⟨bA, offA, rfl, hbA, hclA⟩ := hr.2 (by omega)
    refine c_true (b := (decide (((k : Nat) : Int) < ((n : Nat) : Int)))) (by kernel_rfl) hb5 ?_
    refine wp_skip ?_
    refine then_n ?_
    refine wp_seq ?_
    refine wp_block ?_
    refine wp_seq ?_
    refine c_reg ?_
    refine q_seg (S := (fun x_ => St w x_ [Res.box blk2 [Value.int .i64 a, Value.int .i64 b] 34])) [(13, Value.agg #[Value.int .i64 (za L (k * 6 + 0)), Value.int .i64 (za L (k * 6 + 1)), Value.int .i64 (za L (k * 6 + 2)), Value.int .i64 (za L (k * 6 + 3)), Value.int .i64 (za L (k * 6 + 4)), Value.int .i64 (za L (k * 6 + 5))]), (12, Value.pointer (some ⟨bA, offA + Int.toNat ((k : Nat) : Int) * 6, none⟩)), (11, Value.int .i64 ((k : Nat) : Int))] [.no, .no, .v (Value.agg #[Value.int .i64 (za L (k * 6 + 0)), Value.int .i64 (za L (k * 6 + 1)), Value.int .i64 (za L (k * 6 + 2)), Value.int .i64 (za L (k * 6 + 3)), Value.int .i64 (za L (k * 6 + 4)), Value.int .i64 (za L (k * 6 + 5))])] (((0 : Int) ≤ ((k : Nat) : Int)) ∧ (((k : Nat) : Int) < ((n : Nat) : Int)) ∧ (LoadsAt Try.prog (fun x_ => St w x_ [Res.box blk2 [Value.int .i64 a, Value.int .i64 b] 34]) 37 ⟨bA, offA + Int.toNat ((k : Nat) : Int) * 6, none⟩ (Value.agg #[Value.int .i64 (za L (k * 6 + 0)), Value.int .i64 (za L (k * 6 + 1)), Value.int .i64 (za L (k * 6 + 2)), Value.int .i64 (za L (k * 6 + 3)), Value.int .i64 (za L (k * 6 + 4)), Value.int .i64 (za L (k * 6 + 5))]))) (by kernel_rfl) ⟨(by omega), (by omega), (ld_lowN (k := 6) (vs := [Value.int .i64 (za L (k * 6 + 0)), Value.int .i64 (za L (k * 6 + 1)), Value.int .i64 (za L (k * 6 + 2)), Value.int .i64 (za L (k * 6 + 3)), Value.int .i64 (za L (k * 6 + 4)), Value.int .i64 (za L (k * 6 + 5))]) (by kernel_rfl) rfl (rec_low (p := k * 6) (q := 6) hclA (by omega) (seg6 (by omega))))⟩ hS3 ?_
    refine l_op rfl rfl (fun K hK => op_alloc (d := some 6) rfl rfl [Value.int .i64 0, Value.int .i64 0, Value.int .i64 0, Value.int .i64 0, Value.int .i64 0, Value.int .i64 0] (by kernel_rfl) hS3 (fun blk7 w6 hS6 => hK _ _ ?_))
    clear hK K
    refine q_seg (S := (fun x_ => St w x_ [Res.box blk7 [Value.int .i64 0, Value.int .i64 0, Value.int .i64 0, Value.int .i64 0, Value.int .i64 0, Value.int .i64 0] 37, Res.box blk2 [Value.int .i64 a, Value.int .i64 b] 34])) [(5, Value.int .i64 ((k : Nat) : Int))] [.no] True (by kernel_rfl) trivial hS6 ?_
    refine l_op rfl rfl (fun K hK => op_store (d := none) rfl rfl (i := 0) (b := blk7) (off := 0) (cs := [Value.int .i64 0, Value.int .i64 0, Value.int .i64 0, Value.int .i64 0, Value.int .i64 0, Value.int .i64 0]) (bt := 37) (by kernel_rfl) (by kernel_rfl) [Value.int .i64 (za L (k * 6 + 0)), Value.int .i64 (za L (k * 6 + 1)), Value.int .i64 (za L (k * 6 + 2)), Value.int .i64 (za L (k * 6 + 3)), Value.int .i64 (za L (k * 6 + 4)), Value.int .i64 (za L (k * 6 + 5))] (by kernel_rfl) (by kernel_rfl) (Nat.le_of_ble_eq_true (by kernel_rfl)) (by kernel_rfl) [Res.box blk7 [Value.int .i64 (za L (k * 6 + 0)), Value.int .i64 (za L (k * 6 + 1)), Value.int .i64 (za L (k * 6 + 2)), Value.int .i64 (za L (k * 6 + 3)), Value.int .i64 (za L (k * 6 + 4)), Value.int .i64 (za L (k * 6 + 5))] 37, Res.box blk2 [Value.int .i64 a, Value.int .i64 b] 34] (by kernel_rfl) hS6 (fun w8 hS8 => hK _ _ ?_))
    clear hK K
    refine l_nil rfl ?_
    refine then_n ?_
    refine wp_seq ?_
    refine c_reg ?_
    refine q_seg (S := (fun x_ => St w x_ [Res.box blk7 [Value.int .i64 (za L (k * 6 + 0)), Value.int .i64 (za L (k * 6 + 1)), Value.int .i64 (za L (k * 6 + 2)), Value.int .i64 (za L (k * 6 + 3)), Value.int .i64 (za L (k * 6 + 4)), Value.int .i64 (za L (k * 6 + 5))] 37, Res.box blk2 [Value.int .i64 a, Value.int .i64 b] 34])) [(17, Value.bool (((za L (k * 6 + 0)) == a) && (((za L (k * 6 + 1)) == b) && true))), (16, Value.agg #[Value.int .i64 a, Value.int .i64 b]), (15, Value.agg #[Value.int .i64 (za L (k * 6 + 0)), Value.int .i64 (za L (k * 6 + 1))]), (14, Value.pointer (some ⟨blk7, 0 + 0, none⟩))] [.no, .v (Value.agg #[Value.int .i64 (za L (k * 6 + 0)), Value.int .i64 (za L (k * 6 + 1))]), .v (Value.agg #[Value.int .i64 a, Value.int .i64 b]), .no] ((LoadsAt Try.prog (fun x_ => St w x_ [Res.box blk7 [Value.int .i64 (za L (k * 6 + 0)), Value.int .i64 (za L (k * 6 + 1)), Value.int .i64 (za L (k * 6 + 2)), Value.int .i64 (za L (k * 6 + 3)), Value.int .i64 (za L (k * 6 + 4)), Value.int .i64 (za L (k * 6 + 5))] 37, Res.box blk2 [Value.int .i64 a, Value.int .i64 b] 34]) 34 ⟨blk7, 0 + 0, none⟩ (Value.agg #[Value.int .i64 (za L (k * 6 + 0)), Value.int .i64 (za L (k * 6 + 1))])) ∧ (LoadsAt Try.prog (fun x_ => St w x_ [Res.box blk7 [Value.int .i64 (za L (k * 6 + 0)), Value.int .i64 (za L (k * 6 + 1)), Value.int .i64 (za L (k * 6 + 2)), Value.int .i64 (za L (k * 6 + 3)), Value.int .i64 (za L (k * 6 + 4)), Value.int .i64 (za L (k * 6 + 5))] 37, Res.box blk2 [Value.int .i64 a, Value.int .i64 b] 34]) 34 ⟨blk2, 0, none⟩ (Value.agg #[Value.int .i64 a, Value.int .i64 b]))) (by kernel_rfl) ⟨(ld_boxN (i := 0) (k := 2) rfl rfl rfl (by kernel_rfl)), (ld_boxN (i := 1) (k := 2) rfl rfl rfl (by kernel_rfl))⟩ hS8 ?_
    refine l_nil rfl ?_
    refine then_n ?_
    rcases Bool.eq_false_or_eq_true ((((za L (k * 6 + 0)) == a) && (((za L (k * 6 + 1)) == b) && true))) with hb9 | hb9
    · skip
      refine c_true (b := (((za L (k * 6 + 0)) == a) && (((za L (k * 6 + 1)) == b) && true))) (by kernel_rfl) hb9 ?_
      refine wp_seq ?_
      refine c_reg ?_
      refine q_seg (S := (fun x_ => St w x_ [Res.box blk7 [Value.int .i64 (za L (k * 6 + 0)), Value.int .i64 (za L (k * 6 + 1)), Value.int .i64 (za L (k * 6 + 2)), Value.int .i64 (za L (k * 6 + 3)), Value.int .i64 (za L (k * 6 + 4)), Value.int .i64 (za L (k * 6 + 5))] 37, Res.box blk2 [Value.int .i64 a, Value.int .i64 b] 34])) [(4, Value.int .i64 ((k : Nat) : Int)), (18, Value.int .i64 ((k : Nat) : Int))] [.no, .no] True (by kernel_rfl) trivial hS8 ?_
      refine l_nil rfl ?_
      refine then_n ?_
      refine wp_ret ?_
      refine blk_r ?_
      refine then_r ?_
      refine then_r ?_
      refine blk_r ?_
      refine then_r ?_
      exact c_end (S := (fun x_ => St w x_ [Res.box blk7 [Value.int .i64 (za L (k * 6 + 0)), Value.int .i64 (za L (k * 6 + 1)), Value.int .i64 (za L (k * 6 + 2)), Value.int .i64 (za L (k * 6 + 3)), Value.int .i64 (za L (k * 6 + 4)), Value.int .i64 (za L (k * 6 + 5))] 37, Res.box blk2 [Value.int .i64 a, Value.int .i64 b] 34])) (rs := [.tmp 4]) rfl [] (v := Value.int .i64 ((k : Nat) : Int)) (C := True) (by kernel_rfl) trivial hS8 ((hS8.rv (congrArg (Value.int .i64) (fnd_hit hk_n hb9 hno).symm)))
    · skip
      refine c_false (b := (((za L (k * 6 + 0)) == a) && (((za L (k * 6 + 1)) == b) && true))) (by kernel_rfl) hb9 ?_
      refine wp_skip ?_
      refine blk_n ?_
      refine then_n ?_
      refine c_reg ?_
      refine q_seg (S := (fun x_ => St w x_ [Res.box blk7 [Value.int .i64 (za L (k * 6 + 0)), Value.int .i64 (za L (k * 6 + 1)), Value.int .i64 (za L (k * 6 + 2)), Value.int .i64 (za L (k * 6 + 3)), Value.int .i64 (za L (k * 6 + 4)), Value.int .i64 (za L (k * 6 + 5))] 37, Res.box blk2 [Value.int .i64 a, Value.int .i64 b] 34])) [(9, Value.int .i64 (((k : Nat) : Int) + (1 : Int))), (19, Value.int .i64 (((k : Nat) : Int) + (1 : Int)))] [.no, .no] ((InK .i64 (((k : Nat) : Int) + (1 : Int)))) (by kernel_rfl) (in64 (by omega) (by omega)) hS8 ?_
      refine l_nil rfl ?_
      refine then_n ?_
      refine round_end (k + 1) ?_ ?_ ?_
      · exact (agree_cons (by kernel_rfl) (agree_cons (by kernel_rfl) (agree_cons (by kernel_rfl) (agree_cons (by kernel_rfl) agree_nil))))
      · exact ⟨(by omega), (step_no hno hb9), hS8.drop⟩
      · exact (by first | omega | (dsimp only; omega))
  · skip
    have hb5p := of_decide_eq_false hb5
    refine c_false (b := (decide (((k : Nat) : Int) < ((n : Nat) : Int)))) (by kernel_rfl) hb5 ?_
    refine wp_exit ?_
    refine then_x ?_
    refine then_x ?_
    refine blk_hit ?_
    refine then_n ?_
    refine wp_seq ?_
    refine c_reg ?_
    refine q_seg (S := (fun x_ => St w x_ [Res.box blk2 [Value.int .i64 a, Value.int .i64 b] 34])) [(4, Value.int .i64 (-1))] [.no] True (by kernel_rfl) trivial hS3 ?_
    refine l_nil rfl ?_
    refine then_n ?_
    refine wp_ret ?_
    exact c_end (S := (fun x_ => St w x_ [Res.box blk2 [Value.int .i64 a, Value.int .i64 b] 34])) (rs := [.tmp 4]) rfl [] (v := Value.int .i64 (-1)) (C := True) (by kernel_rfl) trivial hS3 ((hS3.rv (congrArg (Value.int .i64) (fnd_miss (fun j hj => hno j (by omega))).symm)))
theorem TempS_c (A : Option Addr) (n c N : Nat) (L : List Int) (d a b : Int) (w : World) (hn : n ≤ 1099511627776) (hN : n ≤ N) (hr : Rd w w.heap.size A (N * 6) (L.map (Value.int .i64))) : Calls Try.prog 39 #[.slice A n c, .int .i64 d, .agg #[.int .i64 a, .int .i64 b]] w (RetV w (.int .i64 (fnd (isTM L d a b) n))) := by
  have hLl := hr.len
  have hLl : L.length = N * 6 := hLl
  refine calls_FA Try.func39 rfl (n := 31) rfl (l := [(0, Value.slice A n c), (1, Value.int .i64 d), (2, Value.agg #[Value.int .i64 a, Value.int .i64 b])]) rfl (by simp) (fun g => ?_)
  have hS := St.init w
  refine wp_seq ?_
  refine c_reg ?_
  refine l_op rfl rfl (fun K hK => op_box (d := some 5) rfl rfl [Value.int .i64 a, Value.int .i64 b] (by kernel_rfl) hS (fun blk2 w1 hS1 => hK _ _ ?_))
  clear hK K
  refine q_seg (S := (fun x_ => St w x_ [Res.box blk2 [Value.int .i64 a, Value.int .i64 b] 35])) [(6, Value.int .i64 0)] [.no] True (by kernel_rfl) trivial hS1 ?_
  refine l_nil rfl ?_
  refine then_n ?_
  refine wp_seq ?_
  refine wp_seq ?_
  refine c_reg ?_
  refine q_seg (S := (fun x_ => St w x_ [Res.box blk2 [Value.int .i64 a, Value.int .i64 b] 35])) [(7, Value.int .i64 0)] [.no] True (by kernel_rfl) trivial hS1 ?_
  refine l_nil rfl ?_
  refine then_n ?_
  refine wp_block ?_
  refine c_loop (X := Nat) (fun (k : Nat) => [(0, Value.slice A n c), (1, Value.int .i64 d), (5, Value.pointer (some ⟨blk2, 0, none⟩)), (7, Value.int .i64 ((k : Nat) : Int))]) (fun (k : Nat) (wr : World) => (k ≤ n) ∧ (∀ j, j < k → isTM L d a b j = false) ∧ St w wr [Res.box blk2 [Value.int .i64 a, Value.int .i64 b] 35]) (fun (k : Nat) => n - k) 0 ?_ ?_ ?_
  · exact (agree_cons (by kernel_rfl) (agree_cons (by kernel_rfl) (agree_cons (by kernel_rfl) (agree_cons (by kernel_rfl) agree_nil))))
  · exact ⟨Nat.zero_le _, (fun j hj => absurd hj (by omega)), hS1⟩
  rintro k g4 w3 ⟨hkn, hno, hS3⟩
  refine wp_seq ?_
  refine wp_seq ?_
  refine c_reg ?_
  refine q_seg (S := (fun x_ => St w x_ [Res.box blk2 [Value.int .i64 a, Value.int .i64 b] 35])) [(11, Value.bool (decide (((k : Nat) : Int) < ((n : Nat) : Int)))), (10, Value.int .i64 ((n : Nat) : Int)), (9, Value.slice A n c), (8, Value.int .i64 ((k : Nat) : Int))] [.no, .no, .no, .no] True (by kernel_rfl) trivial hS3 ?_
  refine l_nil rfl ?_
  refine then_n ?_
  rcases Bool.eq_false_or_eq_true (decide (((k : Nat) : Int) < ((n : Nat) : Int))) with hb5 | hb5
  · skip
    have hb5p := of_decide_eq_true hb5
    have hk_n : k < n := by omega
    obtain ⟨bA, offA, rfl, hbA, hclA⟩ := hr.2 (by omega)
    refine c_true (b := (decide (((k : Nat) : Int) < ((n : Nat) : Int)))) (by kernel_rfl) hb5 ?_
    refine wp_skip ?_
    refine then_n ?_
    refine wp_seq ?_
    refine wp_block ?_
    refine wp_seq ?_
    refine c_drawn [] (by kernel_rfl) hS3 (fun w6 hS6 => ?_)
    refine t_seg (S := (fun x_ => St w x_ [Res.box blk2 [Value.int .i64 a, Value.int .i64 b] 35])) [(0, .no), (1, .no), (5, .no), (2, .no), (3, .no), (4, .v (Value.int .i64 (za L (k * 6 + 2)))), (6, .no), (7, .no)] 8 #[true, true, true, true, true, true, true, true, false, false, false, false, false, false, false, false] [(21, Value.bool (decide ((za L (k * 6 + 2)) = d))), (20, Value.bool (decide ((za L (k * 6 + 2)) = d))), (18, Value.int .i64 (za L (k * 6 + 2))), (17, Value.pointer (some ⟨bA, offA + Int.toNat ((k : Nat) : Int) * 6 + 2, none⟩)), (16, Value.pointer (some ⟨bA, offA + Int.toNat ((k : Nat) : Int) * 6, none⟩)), (19, Value.int .i64 d), (15, Value.int .i64 ((k : Nat) : Int)), (14, Value.slice (some ⟨bA, offA, none⟩) n c)] (((0 : Int) ≤ ((k : Nat) : Int)) ∧ (((k : Nat) : Int) < ((n : Nat) : Int)) ∧ (LoadsAt Try.prog (fun x_ => St w x_ [Res.box blk2 [Value.int .i64 a, Value.int .i64 b] 35]) 3 ⟨bA, offA + Int.toNat ((k : Nat) : Int) * 6 + 2, none⟩ (Value.int .i64 (za L (k * 6 + 2))))) (by kernel_rfl) (Qpanic.then (Qpanic.block (Qpanic.then (Qpanic.then (Qpanic.block (Qpanic.then Qpanic.bp)))))) rfl (by kernel_rfl) ⟨(by omega), (by omega), (ld_low (rec_low1 (p := k * 6 + 2) hclA (by omega) (by omega)) (by kernel_rfl))⟩ hS6 ?_
    rcases Bool.eq_false_or_eq_true (decide ((za L (k * 6 + 2)) = d)) with hb7 | hb7
    · skip
      have hb7p := of_decide_eq_true hb7
      refine t_seg (S := (fun x_ => St w x_ [Res.box blk2 [Value.int .i64 a, Value.int .i64 b] 35])) [(8, .no), (9, .no), (13, .v (Value.agg #[Value.int .i64 a, Value.int .i64 b])), (10, .no), (11, .no), (12, .v (Value.agg #[Value.int .i64 (za L (k * 6 + 4)), Value.int .i64 (za L (k * 6 + 5))])), (14, .no), (15, .v (.bool true))] 0 #[true, true, true, true, true, true, true, true, true, true, true, true, true, true, true, true] [(29, Value.bool (((za L (k * 6 + 4)) == a) && (((za L (k * 6 + 5)) == b) && true))), (28, Value.bool (((za L (k * 6 + 4)) == a) && (((za L (k * 6 + 5)) == b) && true))), (26, Value.agg #[Value.int .i64 (za L (k * 6 + 4)), Value.int .i64 (za L (k * 6 + 5))]), (25, Value.pointer (some ⟨bA, offA + Int.toNat ((k : Nat) : Int) * 6 + 4, none⟩)), (24, Value.pointer (some ⟨bA, offA + Int.toNat ((k : Nat) : Int) * 6, none⟩)), (27, Value.agg #[Value.int .i64 a, Value.int .i64 b]), (23, Value.int .i64 ((k : Nat) : Int)), (22, Value.slice (some ⟨bA, offA, none⟩) n c)] (((decide ((za L (k * 6 + 2)) = d)) = true) ∧ ((decide ((za L (k * 6 + 2)) = d)) = true) ∧ ((decide ((za L (k * 6 + 2)) = d)) = true) ∧ (LoadsAt Try.prog (fun x_ => St w x_ [Res.box blk2 [Value.int .i64 a, Value.int .i64 b] 35]) 35 ⟨blk2, 0, none⟩ (Value.agg #[Value.int .i64 a, Value.int .i64 b])) ∧ ((decide ((za L (k * 6 + 2)) = d)) = true) ∧ ((0 : Int) ≤ ((k : Nat) : Int)) ∧ (((k : Nat) : Int) < ((n : Nat) : Int)) ∧ ((decide ((za L (k * 6 + 2)) = d)) = true) ∧ ((decide ((za L (k * 6 + 2)) = d)) = true) ∧ (LoadsAt Try.prog (fun x_ => St w x_ [Res.box blk2 [Value.int .i64 a, Value.int .i64 b] 35]) 35 ⟨bA, offA + Int.toNat ((k : Nat) : Int) * 6 + 4, none⟩ (Value.agg #[Value.int .i64 (za L (k * 6 + 4)), Value.int .i64 (za L (k * 6 + 5))])) ∧ ((decide ((za L (k * 6 + 2)) = d)) = true) ∧ ((decide ((za L (k * 6 + 2)) = d)) = true)) (by kernel_rfl) (Qpanic.then (Qpanic.block (Qpanic.then (Qpanic.then (Qpanic.block (Qpanic.then Qpanic.bp)))))) rfl (by kernel_rfl) ⟨hb7, hb7, hb7, (ld_boxN (i := 0) (k := 2) rfl rfl rfl (by kernel_rfl)), hb7, (by omega), (by omega), hb7, hb7, (ld_lowN (k := 2) (vs := [Value.int .i64 (za L (k * 6 + 4)), Value.int .i64 (za L (k * 6 + 5))]) (by kernel_rfl) rfl (rec_low (p := k * 6 + 4) (q := 2) hclA (by omega) (segB (by omega)))), hb7, hb7⟩ hS6 ?_
      refine a_done (by kernel_rfl) ?_
      refine then_n ?_
      rcases Bool.eq_false_or_eq_true ((((za L (k * 6 + 4)) == a) && (((za L (k * 6 + 5)) == b) && true))) with hb8 | hb8
      · skip
        refine c_true (b := (((za L (k * 6 + 4)) == a) && (((za L (k * 6 + 5)) == b) && true))) (by kernel_rfl) hb8 ?_
        refine wp_seq ?_
        refine c_reg ?_
        refine q_seg (S := (fun x_ => St w x_ [Res.box blk2 [Value.int .i64 a, Value.int .i64 b] 35])) [(6, Value.int .i64 ((k : Nat) : Int)), (30, Value.int .i64 ((k : Nat) : Int))] [.no, .no] True (by kernel_rfl) trivial hS6 ?_
        refine l_nil rfl ?_
        refine then_n ?_
        refine wp_ret ?_
        refine blk_r ?_
        refine then_r ?_
        refine then_r ?_
        refine blk_r ?_
        refine then_r ?_
        exact c_end (S := (fun x_ => St w x_ [Res.box blk2 [Value.int .i64 a, Value.int .i64 b] 35])) (rs := [.tmp 6]) rfl [] (v := Value.int .i64 ((k : Nat) : Int)) (C := True) (by kernel_rfl) trivial hS6 ((hS6.rv (congrArg (Value.int .i64) (fnd_hit hk_n (by unfold isTM; rw [hb7, hb8]; rfl) hno).symm)))
      · skip
        refine c_false (b := (((za L (k * 6 + 4)) == a) && (((za L (k * 6 + 5)) == b) && true))) (by kernel_rfl) hb8 ?_
        refine wp_skip ?_
        refine blk_n ?_
        refine then_n ?_
        refine c_reg ?_
        refine q_seg (S := (fun x_ => St w x_ [Res.box blk2 [Value.int .i64 a, Value.int .i64 b] 35])) [(7, Value.int .i64 (((k : Nat) : Int) + (1 : Int))), (13, Value.int .i64 (((k : Nat) : Int) + (1 : Int))), (12, Value.int .i64 ((k : Nat) : Int))] [.no, .no, .no] ((InK .i64 (((k : Nat) : Int) + (1 : Int)))) (by kernel_rfl) (in64 (by omega) (by omega)) hS6 ?_
        refine l_nil rfl ?_
        refine then_n ?_
        refine round_end (k + 1) ?_ ?_ ?_
        · exact (agree_cons (by kernel_rfl) (agree_cons (by kernel_rfl) (agree_cons (by kernel_rfl) (agree_cons (by kernel_rfl) agree_nil))))
        · exact ⟨(by omega), (step_no hno (by unfold isTM; rw [hb7, hb8]; rfl)), hS6⟩
        · exact (by first | omega | (dsimp only; omega))
    · skip
      have hb7p := of_decide_eq_false hb7
      refine t_seg (S := (fun x_ => St w x_ [Res.box blk2 [Value.int .i64 a, Value.int .i64 b] 35])) [(8, .skip), (9, .skip), (13, .skip), (10, .skip), (11, .skip), (12, .skip), (14, .skip), (15, .v (.bool false))] 0 #[true, true, true, true, true, true, true, true, true, true, true, true, true, true, true, true] [(29, Value.bool false), (28, undef), (26, undef), (25, undef), (24, undef), (27, undef), (23, undef), (22, undef)] (((decide ((za L (k * 6 + 2)) = d)) = !true) ∧ ((decide ((za L (k * 6 + 2)) = d)) = !true) ∧ ((decide ((za L (k * 6 + 2)) = d)) = !true) ∧ ((decide ((za L (k * 6 + 2)) = d)) = !true) ∧ ((decide ((za L (k * 6 + 2)) = d)) = !true) ∧ ((decide ((za L (k * 6 + 2)) = d)) = !true) ∧ ((decide ((za L (k * 6 + 2)) = d)) = !true) ∧ ((decide ((za L (k * 6 + 2)) = d)) = false)) (by kernel_rfl) (Qpanic.then (Qpanic.block (Qpanic.then (Qpanic.then (Qpanic.block (Qpanic.then Qpanic.bp)))))) rfl (by kernel_rfl) ⟨hb7, hb7, hb7, hb7, hb7, hb7, hb7, hb7⟩ hS6 ?_
      refine a_done (by kernel_rfl) ?_
      refine then_n ?_
      refine c_false (b := false) (by kernel_rfl) rfl ?_
      refine wp_skip ?_
      refine blk_n ?_
      refine then_n ?_
      refine c_reg ?_
      refine q_seg (S := (fun x_ => St w x_ [Res.box blk2 [Value.int .i64 a, Value.int .i64 b] 35])) [(7, Value.int .i64 (((k : Nat) : Int) + (1 : Int))), (13, Value.int .i64 (((k : Nat) : Int) + (1 : Int))), (12, Value.int .i64 ((k : Nat) : Int))] [.no, .no, .no] ((InK .i64 (((k : Nat) : Int) + (1 : Int)))) (by kernel_rfl) (in64 (by omega) (by omega)) hS6 ?_
      refine l_nil rfl ?_
      refine then_n ?_
      refine round_end (k + 1) ?_ ?_ ?_
      · exact (agree_cons (by kernel_rfl) (agree_cons (by kernel_rfl) (agree_cons (by kernel_rfl) (agree_cons (by kernel_rfl) agree_nil))))
      · exact ⟨(by omega), (step_no hno (by unfold isTM; rw [hb7]; rfl)), hS6⟩
      · exact (by first | omega | (dsimp only; omega))
  · skip
    have hb5p := of_decide_eq_false hb5
    refine c_false (b := (decide (((k : Nat) : Int) < ((n : Nat) : Int)))) (by kernel_rfl) hb5 ?_
    refine wp_exit ?_
    refine then_x ?_
    refine then_x ?_
    refine blk_hit ?_
    refine then_n ?_
    refine wp_seq ?_
    refine c_reg ?_
    refine q_seg (S := (fun x_ => St w x_ [Res.box blk2 [Value.int .i64 a, Value.int .i64 b] 35])) [(6, Value.int .i64 (-1))] [.no] True (by kernel_rfl) trivial hS3 ?_
    refine l_nil rfl ?_
    refine then_n ?_
    refine wp_ret ?_
    exact c_end (S := (fun x_ => St w x_ [Res.box blk2 [Value.int .i64 a, Value.int .i64 b] 35])) (rs := [.tmp 6]) rfl [] (v := Value.int .i64 (-1)) (C := True) (by kernel_rfl) trivial hS3 ((hS3.rv (congrArg (Value.int .i64) (fnd_miss (fun j hj => hno j (by omega))).symm)))
theorem ValidI_c (A : Option Addr) (n c N : Nat) (L : List Int) (w : World) (hn : n ≤ 1099511627776) (hN : n ≤ N) (hr : Rd w w.heap.size A (N * 6) (L.map (Value.int .i64))) (hnc : n ≤ c) (hcm : c ≤ maxLen) : Calls Try.prog 18 #[.slice A n c] w (RetV w (.bool (okR L n))) := by
  have hLl := hr.len
  have hLl : L.length = N * 6 := hLl
  unfold maxLen at hcm
  refine calls_FA Try.func18 rfl (n := 68) rfl (l := [(0, Value.slice A n c)]) rfl (by simp) (fun g => ?_)
  have hS := St.init w
  refine wp_seq ?_
  refine c_reg ?_
  refine q_seg (S := (fun x_ => St w x_ [])) [(2, Value.bool false)] [.no] True (by kernel_rfl) trivial hS ?_
  refine l_nil rfl ?_
  refine then_n ?_
  refine wp_seq ?_
  refine wp_seq ?_
  refine c_reg ?_
  refine q_seg (S := (fun x_ => St w x_ [])) [(9, Value.bool (decide ((8 : Int) < ((n : Nat) : Int)))), (8, Value.int .i64 ((n : Nat) : Int)), (7, Value.slice A n c)] [.no, .no, .no] True (by kernel_rfl) trivial hS ?_
  refine l_nil rfl ?_
  refine then_n ?_
  rcases Bool.eq_false_or_eq_true (decide ((8 : Int) < ((n : Nat) : Int))) with hb1 | hb1
  · skip
    have hb1p := of_decide_eq_true hb1
    refine c_true (b := (decide ((8 : Int) < ((n : Nat) : Int)))) (by kernel_rfl) hb1 ?_
    refine wp_seq ?_
    refine c_reg ?_
    refine q_seg (S := (fun x_ => St w x_ [])) [(2, Value.bool false)] [.no] True (by kernel_rfl) trivial hS ?_
    refine l_nil rfl ?_
    refine then_n ?_
    refine wp_ret ?_
    refine then_r ?_
    exact c_end (S := (fun x_ => St w x_ [])) (rs := [.tmp 2]) rfl [] (v := Value.bool false) (C := True) (by kernel_rfl) trivial hS ((hS.rv (congrArg Value.bool (by first | exact okR_n (by omega) | exact okR_e hk_n rfl))))
  · skip
    have hb1p := of_decide_eq_false hb1
    refine c_false (b := (decide ((8 : Int) < ((n : Nat) : Int)))) (by kernel_rfl) hb1 ?_
    refine wp_skip ?_
    refine then_n ?_
    refine wp_seq ?_
    refine wp_seq ?_
    refine c_reg ?_
    refine q_seg (S := (fun x_ => St w x_ [])) [(12, Value.int .i64 0), (11, Value.int .i64 ((n : Nat) : Int)), (10, Value.slice A n c)] [.no, .no, .no] True (by kernel_rfl) trivial hS ?_
    refine l_nil rfl ?_
    refine then_n ?_
    refine wp_block ?_
    refine c_loop (X := Nat) (fun (k : Nat) => [(0, Value.slice A n c), (10, Value.slice A n c), (11, Value.int .i64 ((n : Nat) : Int)), (12, Value.int .i64 ((k : Nat) : Int))]) (fun (k : Nat) (wr : World) => (k ≤ n) ∧ (∀ i, i < k → goodE L i) ∧ St w wr []) (fun (k : Nat) => n - k) 0 ?_ ?_ ?_
    · exact (agree_cons (by kernel_rfl) (agree_cons (by kernel_rfl) (agree_cons (by kernel_rfl) (agree_cons (by kernel_rfl) agree_nil))))
    · exact ⟨Nat.zero_le _, (fun j hj => absurd hj (by omega)), hS⟩
    rintro k g3 w2 ⟨hkn, hgood, hS2⟩
    refine wp_seq ?_
    refine c_reg ?_
    refine q_seg (S := (fun x_ => St w x_ [])) [(13, Value.bool (decide (((k : Nat) : Int) < ((n : Nat) : Int))))] [.no] True (by kernel_rfl) trivial hS2 ?_
    refine l_nil rfl ?_
    refine then_n ?_
    refine wp_seq ?_
    rcases Bool.eq_false_or_eq_true (decide (((k : Nat) : Int) < ((n : Nat) : Int))) with hb4 | hb4
    · skip
      have hb4p := of_decide_eq_true hb4
      have hk_n : k < n := by omega
      obtain ⟨bA, offA, rfl, hbA, hclA⟩ := hr.2 (by omega)
      refine c_true (b := (decide (((k : Nat) : Int) < ((n : Nat) : Int)))) (by kernel_rfl) hb4 ?_
      refine wp_skip ?_
      refine then_n ?_
      refine wp_seq ?_
      refine wp_block ?_
      refine wp_seq ?_
      refine c_reg ?_
      refine q_seg (S := (fun x_ => St w x_ [])) [(16, Value.agg #[Value.int .i64 (za L (k * 6 + 0)), Value.int .i64 (za L (k * 6 + 1)), Value.int .i64 (za L (k * 6 + 2)), Value.int .i64 (za L (k * 6 + 3)), Value.int .i64 (za L (k * 6 + 4)), Value.int .i64 (za L (k * 6 + 5))]), (15, Value.pointer (some ⟨bA, offA + Int.toNat ((k : Nat) : Int) * 6, none⟩)), (14, Value.int .i64 ((k : Nat) : Int))] [.no, .no, .v (Value.agg #[Value.int .i64 (za L (k * 6 + 0)), Value.int .i64 (za L (k * 6 + 1)), Value.int .i64 (za L (k * 6 + 2)), Value.int .i64 (za L (k * 6 + 3)), Value.int .i64 (za L (k * 6 + 4)), Value.int .i64 (za L (k * 6 + 5))])] (((0 : Int) ≤ ((k : Nat) : Int)) ∧ (((k : Nat) : Int) < ((n : Nat) : Int)) ∧ (LoadsAt Try.prog (fun x_ => St w x_ []) 37 ⟨bA, offA + Int.toNat ((k : Nat) : Int) * 6, none⟩ (Value.agg #[Value.int .i64 (za L (k * 6 + 0)), Value.int .i64 (za L (k * 6 + 1)), Value.int .i64 (za L (k * 6 + 2)), Value.int .i64 (za L (k * 6 + 3)), Value.int .i64 (za L (k * 6 + 4)), Value.int .i64 (za L (k * 6 + 5))]))) (by kernel_rfl) ⟨(by omega), (by omega), (ld_lowN (k := 6) (vs := [Value.int .i64 (za L (k * 6 + 0)), Value.int .i64 (za L (k * 6 + 1)), Value.int .i64 (za L (k * 6 + 2)), Value.int .i64 (za L (k * 6 + 3)), Value.int .i64 (za L (k * 6 + 4)), Value.int .i64 (za L (k * 6 + 5))]) (by kernel_rfl) rfl (rec_low (p := k * 6) (q := 6) hclA (by omega) (seg6 (by omega))))⟩ hS2 ?_
      refine l_op rfl rfl (fun K hK => op_alloc (d := some 4) rfl rfl [Value.int .i64 0, Value.int .i64 0, Value.int .i64 0, Value.int .i64 0, Value.int .i64 0, Value.int .i64 0] (by kernel_rfl) hS2 (fun blk6 w5 hS5 => hK _ _ ?_))
      clear hK K
      refine q_seg (S := (fun x_ => St w x_ [Res.box blk6 [Value.int .i64 0, Value.int .i64 0, Value.int .i64 0, Value.int .i64 0, Value.int .i64 0, Value.int .i64 0] 37])) [(3, Value.int .i64 ((k : Nat) : Int))] [.no] True (by kernel_rfl) trivial hS5 ?_
      refine l_op rfl rfl (fun K hK => op_store (d := none) rfl rfl (i := 0) (b := blk6) (off := 0) (cs := [Value.int .i64 0, Value.int .i64 0, Value.int .i64 0, Value.int .i64 0, Value.int .i64 0, Value.int .i64 0]) (bt := 37) (by kernel_rfl) (by kernel_rfl) [Value.int .i64 (za L (k * 6 + 0)), Value.int .i64 (za L (k * 6 + 1)), Value.int .i64 (za L (k * 6 + 2)), Value.int .i64 (za L (k * 6 + 3)), Value.int .i64 (za L (k * 6 + 4)), Value.int .i64 (za L (k * 6 + 5))] (by kernel_rfl) (by kernel_rfl) (Nat.le_of_ble_eq_true (by kernel_rfl)) (by kernel_rfl) [Res.box blk6 [Value.int .i64 (za L (k * 6 + 0)), Value.int .i64 (za L (k * 6 + 1)), Value.int .i64 (za L (k * 6 + 2)), Value.int .i64 (za L (k * 6 + 3)), Value.int .i64 (za L (k * 6 + 4)), Value.int .i64 (za L (k * 6 + 5))] 37] (by kernel_rfl) hS5 (fun w7 hS7 => hK _ _ ?_))
      clear hK K
      refine l_nil rfl ?_
      refine then_n ?_
      refine wp_seq ?_
      refine wp_seq ?_
      refine c_reg ?_
      refine q_seg (S := (fun x_ => St w x_ [Res.box blk6 [Value.int .i64 (za L (k * 6 + 0)), Value.int .i64 (za L (k * 6 + 1)), Value.int .i64 (za L (k * 6 + 2)), Value.int .i64 (za L (k * 6 + 3)), Value.int .i64 (za L (k * 6 + 4)), Value.int .i64 (za L (k * 6 + 5))] 37])) [(18, Value.agg #[Value.int .i64 (za L (k * 6 + 0)), Value.int .i64 (za L (k * 6 + 1))]), (17, Value.pointer (some ⟨blk6, 0 + 0, none⟩))] [.no, .v (Value.agg #[Value.int .i64 (za L (k * 6 + 0)), Value.int .i64 (za L (k * 6 + 1))])] ((LoadsAt Try.prog (fun x_ => St w x_ [Res.box blk6 [Value.int .i64 (za L (k * 6 + 0)), Value.int .i64 (za L (k * 6 + 1)), Value.int .i64 (za L (k * 6 + 2)), Value.int .i64 (za L (k * 6 + 3)), Value.int .i64 (za L (k * 6 + 4)), Value.int .i64 (za L (k * 6 + 5))] 37]) 34 ⟨blk6, 0 + 0, none⟩ (Value.agg #[Value.int .i64 (za L (k * 6 + 0)), Value.int .i64 (za L (k * 6 + 1))]))) (by kernel_rfl) (ld_boxN (i := 0) (k := 2) rfl rfl rfl (by kernel_rfl)) hS7 ?_
      refine l_op rfl rfl (fun K hK => op_callv (d := some 19) rfl rfl ⟨_, Try.func32, by kernel_rfl, by kernel_rfl⟩ (vs := [Value.agg #[Value.int .i64 (za L (k * 6 + 0)), Value.int .i64 (za L (k * 6 + 1))]]) (by kernel_rfl) (v := Value.bool (vsub (za L (k * 6 + 0)) (za L (k * 6 + 1)))) (IsValidSubscriberID_i_c (za L (k * 6 + 0)) (za L (k * 6 + 1))  _) hS7 (fun w8 hS8 => hK _ _ ?_))
      clear hK K
      refine q_seg (S := (fun x_ => St w x_ [Res.box blk6 [Value.int .i64 (za L (k * 6 + 0)), Value.int .i64 (za L (k * 6 + 1)), Value.int .i64 (za L (k * 6 + 2)), Value.int .i64 (za L (k * 6 + 3)), Value.int .i64 (za L (k * 6 + 4)), Value.int .i64 (za L (k * 6 + 5))] 37])) [(21, Value.bool (!(vsub (za L (k * 6 + 0)) (za L (k * 6 + 1))))), (20, Value.bool (!(vsub (za L (k * 6 + 0)) (za L (k * 6 + 1)))))] [.no, .no] True (by kernel_rfl) trivial hS8 ?_
      rcases Bool.eq_false_or_eq_true (vsub (za L (k * 6 + 0)) (za L (k * 6 + 1))) with hb9 | hb9
      · skip
        refine q_seg (S := (fun x_ => St w x_ [Res.box blk6 [Value.int .i64 (za L (k * 6 + 0)), Value.int .i64 (za L (k * 6 + 1)), Value.int .i64 (za L (k * 6 + 2)), Value.int .i64 (za L (k * 6 + 3)), Value.int .i64 (za L (k * 6 + 4)), Value.int .i64 (za L (k * 6 + 5))] 37])) [(23, Value.int .i64 (za L (k * 6 + 2))), (22, Value.pointer (some ⟨blk6, 0 + 2, none⟩))] [.no, .v (Value.int .i64 (za L (k * 6 + 2)))] (((!(vsub (za L (k * 6 + 0)) (za L (k * 6 + 1)))) = false) ∧ ((!(vsub (za L (k * 6 + 0)) (za L (k * 6 + 1)))) = false) ∧ (LoadsAt Try.prog (fun x_ => St w x_ [Res.box blk6 [Value.int .i64 (za L (k * 6 + 0)), Value.int .i64 (za L (k * 6 + 1)), Value.int .i64 (za L (k * 6 + 2)), Value.int .i64 (za L (k * 6 + 3)), Value.int .i64 (za L (k * 6 + 4)), Value.int .i64 (za L (k * 6 + 5))] 37]) 3 ⟨blk6, 0 + 2, none⟩ (Value.int .i64 (za L (k * 6 + 2))))) (by kernel_rfl) ⟨(nb (v := true) hb9), (nb (v := true) hb9), (ld_box (i := 0) rfl rfl (by kernel_rfl))⟩ hS8 ?_
        refine l_opg rfl (b := (!(vsub (za L (k * 6 + 0)) (za L (k * 6 + 1))))) (want := false) (by kernel_rfl) (nb (v := true) hb9) (fun K hK => op_callv (d := some 24) rfl rfl ⟨_, Try.func33, by kernel_rfl, by kernel_rfl⟩ (vs := [Value.int .i64 (za L (k * 6 + 2)), Value.int .i64 0, Value.int .i64 3]) (by kernel_rfl) (v := Value.bool (inR (za L (k * 6 + 2)) 0 3)) (InRange_c (za L (k * 6 + 2)) 0 3 _) hS8 (fun w10 hS10 => hK _ _ ?_))
        clear hK K
        refine q_seg (S := (fun x_ => St w x_ [Res.box blk6 [Value.int .i64 (za L (k * 6 + 0)), Value.int .i64 (za L (k * 6 + 1)), Value.int .i64 (za L (k * 6 + 2)), Value.int .i64 (za L (k * 6 + 3)), Value.int .i64 (za L (k * 6 + 4)), Value.int .i64 (za L (k * 6 + 5))] 37])) [(27, Value.bool (!(inR (za L (k * 6 + 2)) 0 3))), (26, Value.bool (!(inR (za L (k * 6 + 2)) 0 3))), (25, Value.bool (!(inR (za L (k * 6 + 2)) 0 3)))] [.no, .v (.bool false), .no] (((!(vsub (za L (k * 6 + 0)) (za L (k * 6 + 1)))) = false) ∧ ((!(vsub (za L (k * 6 + 0)) (za L (k * 6 + 1)))) = false)) (by kernel_rfl) ⟨(nb (v := true) hb9), (nb (v := true) hb9)⟩ hS10 ?_
        rcases Bool.eq_false_or_eq_true (inR (za L (k * 6 + 2)) 0 3) with hb11 | hb11
        · skip
          obtain ⟨hb11p, hb11q⟩ := inR_iff.1 hb11
          refine q_seg (S := (fun x_ => St w x_ [Res.box blk6 [Value.int .i64 (za L (k * 6 + 0)), Value.int .i64 (za L (k * 6 + 1)), Value.int .i64 (za L (k * 6 + 2)), Value.int .i64 (za L (k * 6 + 3)), Value.int .i64 (za L (k * 6 + 4)), Value.int .i64 (za L (k * 6 + 5))] 37])) [(29, Value.int .i64 (za L (k * 6 + 3))), (28, Value.pointer (some ⟨blk6, 0 + 3, none⟩))] [.no, .v (Value.int .i64 (za L (k * 6 + 3)))] (((!(inR (za L (k * 6 + 2)) 0 3)) = false) ∧ ((!(inR (za L (k * 6 + 2)) 0 3)) = false) ∧ (LoadsAt Try.prog (fun x_ => St w x_ [Res.box blk6 [Value.int .i64 (za L (k * 6 + 0)), Value.int .i64 (za L (k * 6 + 1)), Value.int .i64 (za L (k * 6 + 2)), Value.int .i64 (za L (k * 6 + 3)), Value.int .i64 (za L (k * 6 + 4)), Value.int .i64 (za L (k * 6 + 5))] 37]) 3 ⟨blk6, 0 + 3, none⟩ (Value.int .i64 (za L (k * 6 + 3))))) (by kernel_rfl) ⟨(nb (v := true) hb11), (nb (v := true) hb11), (ld_box (i := 0) rfl rfl (by kernel_rfl))⟩ hS10 ?_
          refine l_opg rfl (b := (!(inR (za L (k * 6 + 2)) 0 3))) (want := false) (by kernel_rfl) (nb (v := true) hb11) (fun K hK => op_callv (d := some 30) rfl rfl ⟨_, Try.func33, by kernel_rfl, by kernel_rfl⟩ (vs := [Value.int .i64 (za L (k * 6 + 3)), Value.int .i64 0, Value.int .i64 2]) (by kernel_rfl) (v := Value.bool (inR (za L (k * 6 + 3)) 0 2)) (InRange_c (za L (k * 6 + 3)) 0 2 _) hS10 (fun w12 hS12 => hK _ _ ?_))
          clear hK K
          refine q_seg (S := (fun x_ => St w x_ [Res.box blk6 [Value.int .i64 (za L (k * 6 + 0)), Value.int .i64 (za L (k * 6 + 1)), Value.int .i64 (za L (k * 6 + 2)), Value.int .i64 (za L (k * 6 + 3)), Value.int .i64 (za L (k * 6 + 4)), Value.int .i64 (za L (k * 6 + 5))] 37])) [(33, Value.bool (!(inR (za L (k * 6 + 3)) 0 2))), (32, Value.bool (!(inR (za L (k * 6 + 3)) 0 2))), (31, Value.bool (!(inR (za L (k * 6 + 3)) 0 2)))] [.no, .v (.bool false), .no] (((!(inR (za L (k * 6 + 2)) 0 3)) = false) ∧ ((!(inR (za L (k * 6 + 2)) 0 3)) = false)) (by kernel_rfl) ⟨(nb (v := true) hb11), (nb (v := true) hb11)⟩ hS12 ?_
          rcases Bool.eq_false_or_eq_true (inR (za L (k * 6 + 3)) 0 2) with hb13 | hb13
          · skip
            obtain ⟨hb13p, hb13q⟩ := inR_iff.1 hb13
            refine q_seg (S := (fun x_ => St w x_ [Res.box blk6 [Value.int .i64 (za L (k * 6 + 0)), Value.int .i64 (za L (k * 6 + 1)), Value.int .i64 (za L (k * 6 + 2)), Value.int .i64 (za L (k * 6 + 3)), Value.int .i64 (za L (k * 6 + 4)), Value.int .i64 (za L (k * 6 + 5))] 37])) [(35, Value.agg #[Value.int .i64 (za L (k * 6 + 4)), Value.int .i64 (za L (k * 6 + 5))]), (34, Value.pointer (some ⟨blk6, 0 + 4, none⟩))] [.no, .v (Value.agg #[Value.int .i64 (za L (k * 6 + 4)), Value.int .i64 (za L (k * 6 + 5))])] (((!(inR (za L (k * 6 + 3)) 0 2)) = false) ∧ ((!(inR (za L (k * 6 + 3)) 0 2)) = false) ∧ (LoadsAt Try.prog (fun x_ => St w x_ [Res.box blk6 [Value.int .i64 (za L (k * 6 + 0)), Value.int .i64 (za L (k * 6 + 1)), Value.int .i64 (za L (k * 6 + 2)), Value.int .i64 (za L (k * 6 + 3)), Value.int .i64 (za L (k * 6 + 4)), Value.int .i64 (za L (k * 6 + 5))] 37]) 35 ⟨blk6, 0 + 4, none⟩ (Value.agg #[Value.int .i64 (za L (k * 6 + 4)), Value.int .i64 (za L (k * 6 + 5))]))) (by kernel_rfl) ⟨(nb (v := true) hb13), (nb (v := true) hb13), (ld_boxN (i := 0) (k := 2) rfl rfl rfl (by kernel_rfl))⟩ hS12 ?_
            refine l_opg rfl (b := (!(inR (za L (k * 6 + 3)) 0 2))) (want := false) (by kernel_rfl) (nb (v := true) hb13) (fun K hK => op_callv (d := some 36) rfl rfl ⟨_, Try.func34, by kernel_rfl, by kernel_rfl⟩ (vs := [Value.agg #[Value.int .i64 (za L (k * 6 + 4)), Value.int .i64 (za L (k * 6 + 5))]]) (by kernel_rfl) (v := Value.bool (vtmp (za L (k * 6 + 4)) (za L (k * 6 + 5)))) (IsValidTempID_i_c (za L (k * 6 + 4)) (za L (k * 6 + 5))  _) hS12 (fun w14 hS14 => hK _ _ ?_))
            clear hK K
            refine q_seg (S := (fun x_ => St w x_ [Res.box blk6 [Value.int .i64 (za L (k * 6 + 0)), Value.int .i64 (za L (k * 6 + 1)), Value.int .i64 (za L (k * 6 + 2)), Value.int .i64 (za L (k * 6 + 3)), Value.int .i64 (za L (k * 6 + 4)), Value.int .i64 (za L (k * 6 + 5))] 37])) [(38, Value.bool (!(vtmp (za L (k * 6 + 4)) (za L (k * 6 + 5))))), (37, Value.bool (!(vtmp (za L (k * 6 + 4)) (za L (k * 6 + 5)))))] [.no, .v (.bool false)] (((!(inR (za L (k * 6 + 3)) 0 2)) = false) ∧ ((!(inR (za L (k * 6 + 3)) 0 2)) = false)) (by kernel_rfl) ⟨(nb (v := true) hb13), (nb (v := true) hb13)⟩ hS14 ?_
            refine l_nil rfl ?_
            refine then_n ?_
            rcases Bool.eq_false_or_eq_true (vtmp (za L (k * 6 + 4)) (za L (k * 6 + 5))) with hb15 | hb15
            · skip
              refine c_false (b := (!(vtmp (za L (k * 6 + 4)) (za L (k * 6 + 5))))) (by kernel_rfl) (nb (v := true) hb15) ?_
              refine wp_skip ?_
              refine then_n ?_
              refine wp_seq ?_
              refine c_reg ?_
              refine q_seg (S := (fun x_ => St w x_ [Res.box blk6 [Value.int .i64 (za L (k * 6 + 0)), Value.int .i64 (za L (k * 6 + 1)), Value.int .i64 (za L (k * 6 + 2)), Value.int .i64 (za L (k * 6 + 3)), Value.int .i64 (za L (k * 6 + 4)), Value.int .i64 (za L (k * 6 + 5))] 37])) [(43, Value.int .i64 0), (42, Value.int .i64 (((k - 0) : Nat) : Int)), (41, Value.slice (cutA (some ⟨bA, offA, none⟩) c 0 6) (k - 0) (c - 0)), (40, Value.int .i64 ((k : Nat) : Int)), (39, Value.slice (some ⟨bA, offA, none⟩) n c)] [.no, .no, .no, .no, .no] (((0 : Int) ≤ (0 : Int)) ∧ ((0 : Int) ≤ ((k : Nat) : Int)) ∧ (((k : Nat) : Int) ≤ ((c : Nat) : Int)) ∧ (n ≤ c)) (by kernel_rfl) ⟨(by omega), (by omega), (by omega), (by omega)⟩ hS14 ?_
              refine l_nil rfl ?_
              refine then_n ?_
              refine wp_block ?_
              have hok : okE L k = true := (by unfold okE; rw [hb9, hb11, hb13, hb15]; first | rfl | simp)
              refine c_loop (X := Nat) (fun (j : Nat) => [(0, Value.slice (some ⟨bA, offA, none⟩) n c), (3, Value.int .i64 ((k : Nat) : Int)), (4, Value.pointer (some ⟨blk6, 0, none⟩)), (10, Value.slice (some ⟨bA, offA, none⟩) n c), (11, Value.int .i64 ((n : Nat) : Int)), (12, Value.int .i64 ((k : Nat) : Int)), (13, Value.bool (decide (((k : Nat) : Int) < ((n : Nat) : Int)))), (14, Value.int .i64 ((k : Nat) : Int)), (15, Value.pointer (some ⟨bA, offA + Int.toNat ((k : Nat) : Int) * 6, none⟩)), (16, Value.agg #[Value.int .i64 (za L (k * 6 + 0)), Value.int .i64 (za L (k * 6 + 1)), Value.int .i64 (za L (k * 6 + 2)), Value.int .i64 (za L (k * 6 + 3)), Value.int .i64 (za L (k * 6 + 4)), Value.int .i64 (za L (k * 6 + 5))]), (17, Value.pointer (some ⟨blk6, 0 + 0, none⟩)), (18, Value.agg #[Value.int .i64 (za L (k * 6 + 0)), Value.int .i64 (za L (k * 6 + 1))]), (19, Value.bool (vsub (za L (k * 6 + 0)) (za L (k * 6 + 1)))), (20, Value.bool (!(vsub (za L (k * 6 + 0)) (za L (k * 6 + 1))))), (21, Value.bool (!(vsub (za L (k * 6 + 0)) (za L (k * 6 + 1))))), (22, Value.pointer (some ⟨blk6, 0 + 2, none⟩)), (23, Value.int .i64 (za L (k * 6 + 2))), (24, Value.bool (inR (za L (k * 6 + 2)) 0 3)), (25, Value.bool (!(inR (za L (k * 6 + 2)) 0 3))), (26, Value.bool (!(inR (za L (k * 6 + 2)) 0 3))), (27, Value.bool (!(inR (za L (k * 6 + 2)) 0 3))), (28, Value.pointer (some ⟨blk6, 0 + 3, none⟩)), (29, Value.int .i64 (za L (k * 6 + 3))), (30, Value.bool (inR (za L (k * 6 + 3)) 0 2)), (31, Value.bool (!(inR (za L (k * 6 + 3)) 0 2))), (32, Value.bool (!(inR (za L (k * 6 + 3)) 0 2))), (33, Value.bool (!(inR (za L (k * 6 + 3)) 0 2))), (34, Value.pointer (some ⟨blk6, 0 + 4, none⟩)), (35, Value.agg #[Value.int .i64 (za L (k * 6 + 4)), Value.int .i64 (za L (k * 6 + 5))]), (36, Value.bool (vtmp (za L (k * 6 + 4)) (za L (k * 6 + 5)))), (37, Value.bool (!(vtmp (za L (k * 6 + 4)) (za L (k * 6 + 5))))), (38, Value.bool (!(vtmp (za L (k * 6 + 4)) (za L (k * 6 + 5))))), (39, Value.slice (some ⟨bA, offA, none⟩) n c), (40, Value.int .i64 ((k : Nat) : Int)), (41, Value.slice (some ⟨bA, offA, none⟩) k c), (42, Value.int .i64 (((k - 0) : Nat) : Int)), (43, Value.int .i64 ((j : Nat) : Int))]) (fun (j : Nat) (wr : World) => (j ≤ k) ∧ (∀ i, i < j → clash L k i = false) ∧ St w wr [Res.box blk6 [Value.int .i64 (za L (k * 6 + 0)), Value.int .i64 (za L (k * 6 + 1)), Value.int .i64 (za L (k * 6 + 2)), Value.int .i64 (za L (k * 6 + 3)), Value.int .i64 (za L (k * 6 + 4)), Value.int .i64 (za L (k * 6 + 5))] 37]) (fun (j : Nat) => k - j) 0 ?_ ?_ ?_
              · exact (agree_cons (by kernel_rfl) (agree_cons (by kernel_rfl) (agree_cons (by kernel_rfl) (agree_cons (by kernel_rfl) (agree_cons (by kernel_rfl) (agree_cons (by kernel_rfl) (agree_cons (by kernel_rfl) (agree_cons (by kernel_rfl) (agree_cons (by kernel_rfl) (agree_cons (by kernel_rfl) (agree_cons (by kernel_rfl) (agree_cons (by kernel_rfl) (agree_cons (by kernel_rfl) (agree_cons (by kernel_rfl) (agree_cons (by kernel_rfl) (agree_cons (by kernel_rfl) (agree_cons (by kernel_rfl) (agree_cons (by kernel_rfl) (agree_cons (by kernel_rfl) (agree_cons (by kernel_rfl) (agree_cons (by kernel_rfl) (agree_cons (by kernel_rfl) (agree_cons (by kernel_rfl) (agree_cons (by kernel_rfl) (agree_cons (by kernel_rfl) (agree_cons (by kernel_rfl) (agree_cons (by kernel_rfl) (agree_cons (by kernel_rfl) (agree_cons (by kernel_rfl) (agree_cons (by kernel_rfl) (agree_cons (by kernel_rfl) (agree_cons (by kernel_rfl) (agree_cons (by kernel_rfl) (agree_cons (by kernel_rfl) (agree_eq (v0 := Value.slice (cutA (some ⟨bA, offA, none⟩) c 0 6) (k - 0) (c - 0)) (by kernel_rfl) (by rw [cut_at (by omega)]; rfl) (agree_cons (by kernel_rfl) (agree_cons (by kernel_rfl) agree_nil)))))))))))))))))))))))))))))))))))))
              · exact ⟨Nat.zero_le _, (fun j hj => absurd hj (by omega)), hS14⟩
              rintro j g17 w16 ⟨hjk, hcj, hS16⟩
              refine wp_seq ?_
              refine c_reg ?_
              refine q_seg (S := (fun x_ => St w x_ [Res.box blk6 [Value.int .i64 (za L (k * 6 + 0)), Value.int .i64 (za L (k * 6 + 1)), Value.int .i64 (za L (k * 6 + 2)), Value.int .i64 (za L (k * 6 + 3)), Value.int .i64 (za L (k * 6 + 4)), Value.int .i64 (za L (k * 6 + 5))] 37])) [(44, Value.bool (decide (((j : Nat) : Int) < (((k - 0) : Nat) : Int))))] [.no] True (by kernel_rfl) trivial hS16 ?_
              refine l_nil rfl ?_
              refine then_n ?_
              refine wp_seq ?_
              rcases Bool.eq_false_or_eq_true (decide (((j : Nat) : Int) < (((k - 0) : Nat) : Int))) with hb18 | hb18
              · skip
                have hb18p := of_decide_eq_true hb18
                have hj_k : j < k := by omega
                refine c_true (b := (decide (((j : Nat) : Int) < (((k - 0) : Nat) : Int)))) (by kernel_rfl) hb18 ?_
                refine wp_skip ?_
                refine then_n ?_
                refine wp_seq ?_
                refine wp_block ?_
                refine wp_seq ?_
                refine c_reg ?_
                refine q_seg (S := (fun x_ => St w x_ [Res.box blk6 [Value.int .i64 (za L (k * 6 + 0)), Value.int .i64 (za L (k * 6 + 1)), Value.int .i64 (za L (k * 6 + 2)), Value.int .i64 (za L (k * 6 + 3)), Value.int .i64 (za L (k * 6 + 4)), Value.int .i64 (za L (k * 6 + 5))] 37])) [(46, Value.agg #[Value.int .i64 (za L (j * 6 + 0)), Value.int .i64 (za L (j * 6 + 1)), Value.int .i64 (za L (j * 6 + 2)), Value.int .i64 (za L (j * 6 + 3)), Value.int .i64 (za L (j * 6 + 4)), Value.int .i64 (za L (j * 6 + 5))]), (45, Value.pointer (some ⟨bA, offA + Int.toNat ((j : Nat) : Int) * 6, none⟩))] [.no, .v (Value.agg #[Value.int .i64 (za L (j * 6 + 0)), Value.int .i64 (za L (j * 6 + 1)), Value.int .i64 (za L (j * 6 + 2)), Value.int .i64 (za L (j * 6 + 3)), Value.int .i64 (za L (j * 6 + 4)), Value.int .i64 (za L (j * 6 + 5))])] (((0 : Int) ≤ ((j : Nat) : Int)) ∧ (((j : Nat) : Int) < ((k : Nat) : Int)) ∧ (LoadsAt Try.prog (fun x_ => St w x_ [Res.box blk6 [Value.int .i64 (za L (k * 6 + 0)), Value.int .i64 (za L (k * 6 + 1)), Value.int .i64 (za L (k * 6 + 2)), Value.int .i64 (za L (k * 6 + 3)), Value.int .i64 (za L (k * 6 + 4)), Value.int .i64 (za L (k * 6 + 5))] 37]) 37 ⟨bA, offA + Int.toNat ((j : Nat) : Int) * 6, none⟩ (Value.agg #[Value.int .i64 (za L (j * 6 + 0)), Value.int .i64 (za L (j * 6 + 1)), Value.int .i64 (za L (j * 6 + 2)), Value.int .i64 (za L (j * 6 + 3)), Value.int .i64 (za L (j * 6 + 4)), Value.int .i64 (za L (j * 6 + 5))]))) (by kernel_rfl) ⟨(by omega), (by omega), (ld_lowN (k := 6) (vs := [Value.int .i64 (za L (j * 6 + 0)), Value.int .i64 (za L (j * 6 + 1)), Value.int .i64 (za L (j * 6 + 2)), Value.int .i64 (za L (j * 6 + 3)), Value.int .i64 (za L (j * 6 + 4)), Value.int .i64 (za L (j * 6 + 5))]) (by kernel_rfl) rfl (rec_low (p := j * 6) (q := 6) hclA (by omega) (seg6 (by omega))))⟩ hS16 ?_
                refine l_op rfl rfl (fun K hK => op_alloc (d := some 6) rfl rfl [Value.int .i64 0, Value.int .i64 0, Value.int .i64 0, Value.int .i64 0, Value.int .i64 0, Value.int .i64 0] (by kernel_rfl) hS16 (fun blk20 w19 hS19 => hK _ _ ?_))
                clear hK K
                refine l_op rfl rfl (fun K hK => op_store (d := none) rfl rfl (i := 0) (b := blk20) (off := 0) (cs := [Value.int .i64 0, Value.int .i64 0, Value.int .i64 0, Value.int .i64 0, Value.int .i64 0, Value.int .i64 0]) (bt := 37) (by kernel_rfl) (by kernel_rfl) [Value.int .i64 (za L (j * 6 + 0)), Value.int .i64 (za L (j * 6 + 1)), Value.int .i64 (za L (j * 6 + 2)), Value.int .i64 (za L (j * 6 + 3)), Value.int .i64 (za L (j * 6 + 4)), Value.int .i64 (za L (j * 6 + 5))] (by kernel_rfl) (by kernel_rfl) (Nat.le_of_ble_eq_true (by kernel_rfl)) (by kernel_rfl) [Res.box blk20 [Value.int .i64 (za L (j * 6 + 0)), Value.int .i64 (za L (j * 6 + 1)), Value.int .i64 (za L (j * 6 + 2)), Value.int .i64 (za L (j * 6 + 3)), Value.int .i64 (za L (j * 6 + 4)), Value.int .i64 (za L (j * 6 + 5))] 37, Res.box blk6 [Value.int .i64 (za L (k * 6 + 0)), Value.int .i64 (za L (k * 6 + 1)), Value.int .i64 (za L (k * 6 + 2)), Value.int .i64 (za L (k * 6 + 3)), Value.int .i64 (za L (k * 6 + 4)), Value.int .i64 (za L (k * 6 + 5))] 37] (by kernel_rfl) hS19 (fun w21 hS21 => hK _ _ ?_))
                clear hK K
                refine l_nil rfl ?_
                refine then_n ?_
                refine wp_seq ?_
                refine c_reg ?_
                refine q_seg (S := (fun x_ => St w x_ [Res.box blk20 [Value.int .i64 (za L (j * 6 + 0)), Value.int .i64 (za L (j * 6 + 1)), Value.int .i64 (za L (j * 6 + 2)), Value.int .i64 (za L (j * 6 + 3)), Value.int .i64 (za L (j * 6 + 4)), Value.int .i64 (za L (j * 6 + 5))] 37, Res.box blk6 [Value.int .i64 (za L (k * 6 + 0)), Value.int .i64 (za L (k * 6 + 1)), Value.int .i64 (za L (k * 6 + 2)), Value.int .i64 (za L (k * 6 + 3)), Value.int .i64 (za L (k * 6 + 4)), Value.int .i64 (za L (k * 6 + 5))] 37])) [(52, Value.bool (((za L (j * 6 + 0)) == (za L (k * 6 + 0))) && (((za L (j * 6 + 1)) == (za L (k * 6 + 1))) && true))), (51, Value.bool (((za L (j * 6 + 0)) == (za L (k * 6 + 0))) && (((za L (j * 6 + 1)) == (za L (k * 6 + 1))) && true))), (50, Value.agg #[Value.int .i64 (za L (k * 6 + 0)), Value.int .i64 (za L (k * 6 + 1))]), (49, Value.pointer (some ⟨blk6, 0 + 0, none⟩)), (48, Value.agg #[Value.int .i64 (za L (j * 6 + 0)), Value.int .i64 (za L (j * 6 + 1))]), (47, Value.pointer (some ⟨blk20, 0 + 0, none⟩))] [.no, .v (Value.agg #[Value.int .i64 (za L (j * 6 + 0)), Value.int .i64 (za L (j * 6 + 1))]), .no, .v (Value.agg #[Value.int .i64 (za L (k * 6 + 0)), Value.int .i64 (za L (k * 6 + 1))]), .no, .no] ((LoadsAt Try.prog (fun x_ => St w x_ [Res.box blk20 [Value.int .i64 (za L (j * 6 + 0)), Value.int .i64 (za L (j * 6 + 1)), Value.int .i64 (za L (j * 6 + 2)), Value.int .i64 (za L (j * 6 + 3)), Value.int .i64 (za L (j * 6 + 4)), Value.int .i64 (za L (j * 6 + 5))] 37, Res.box blk6 [Value.int .i64 (za L (k * 6 + 0)), Value.int .i64 (za L (k * 6 + 1)), Value.int .i64 (za L (k * 6 + 2)), Value.int .i64 (za L (k * 6 + 3)), Value.int .i64 (za L (k * 6 + 4)), Value.int .i64 (za L (k * 6 + 5))] 37]) 34 ⟨blk20, 0 + 0, none⟩ (Value.agg #[Value.int .i64 (za L (j * 6 + 0)), Value.int .i64 (za L (j * 6 + 1))])) ∧ (LoadsAt Try.prog (fun x_ => St w x_ [Res.box blk20 [Value.int .i64 (za L (j * 6 + 0)), Value.int .i64 (za L (j * 6 + 1)), Value.int .i64 (za L (j * 6 + 2)), Value.int .i64 (za L (j * 6 + 3)), Value.int .i64 (za L (j * 6 + 4)), Value.int .i64 (za L (j * 6 + 5))] 37, Res.box blk6 [Value.int .i64 (za L (k * 6 + 0)), Value.int .i64 (za L (k * 6 + 1)), Value.int .i64 (za L (k * 6 + 2)), Value.int .i64 (za L (k * 6 + 3)), Value.int .i64 (za L (k * 6 + 4)), Value.int .i64 (za L (k * 6 + 5))] 37]) 34 ⟨blk6, 0 + 0, none⟩ (Value.agg #[Value.int .i64 (za L (k * 6 + 0)), Value.int .i64 (za L (k * 6 + 1))]))) (by kernel_rfl) ⟨(ld_boxN (i := 0) (k := 2) rfl rfl rfl (by kernel_rfl)), (ld_boxN (i := 1) (k := 2) rfl rfl rfl (by kernel_rfl))⟩ hS21 ?_
                rcases Bool.eq_false_or_eq_true ((((za L (j * 6 + 0)) == (za L (k * 6 + 0))) && (((za L (j * 6 + 1)) == (za L (k * 6 + 1))) && true))) with hb22 | hb22
                · skip
                  refine q_seg (S := (fun x_ => St w x_ [Res.box blk20 [Value.int .i64 (za L (j * 6 + 0)), Value.int .i64 (za L (j * 6 + 1)), Value.int .i64 (za L (j * 6 + 2)), Value.int .i64 (za L (j * 6 + 3)), Value.int .i64 (za L (j * 6 + 4)), Value.int .i64 (za L (j * 6 + 5))] 37, Res.box blk6 [Value.int .i64 (za L (k * 6 + 0)), Value.int .i64 (za L (k * 6 + 1)), Value.int .i64 (za L (k * 6 + 2)), Value.int .i64 (za L (k * 6 + 3)), Value.int .i64 (za L (k * 6 + 4)), Value.int .i64 (za L (k * 6 + 5))] 37])) [(65, Value.bool true), (64, undef), (63, undef), (62, undef), (61, undef), (60, undef), (59, undef), (58, undef), (57, undef), (56, undef), (55, undef), (54, undef), (53, undef)] [.skip, .skip, .skip, .skip, .skip, .skip, .skip, .skip, .skip, .skip, .skip, .skip, .v (.bool true)] (((((za L (j * 6 + 0)) == (za L (k * 6 + 0))) && (((za L (j * 6 + 1)) == (za L (k * 6 + 1))) && true)) = !false) ∧ ((((za L (j * 6 + 0)) == (za L (k * 6 + 0))) && (((za L (j * 6 + 1)) == (za L (k * 6 + 1))) && true)) = !false) ∧ ((((za L (j * 6 + 0)) == (za L (k * 6 + 0))) && (((za L (j * 6 + 1)) == (za L (k * 6 + 1))) && true)) = !false) ∧ ((((za L (j * 6 + 0)) == (za L (k * 6 + 0))) && (((za L (j * 6 + 1)) == (za L (k * 6 + 1))) && true)) = !false) ∧ ((((za L (j * 6 + 0)) == (za L (k * 6 + 0))) && (((za L (j * 6 + 1)) == (za L (k * 6 + 1))) && true)) = !false) ∧ ((((za L (j * 6 + 0)) == (za L (k * 6 + 0))) && (((za L (j * 6 + 1)) == (za L (k * 6 + 1))) && true)) = !false) ∧ ((((za L (j * 6 + 0)) == (za L (k * 6 + 0))) && (((za L (j * 6 + 1)) == (za L (k * 6 + 1))) && true)) = !false) ∧ ((((za L (j * 6 + 0)) == (za L (k * 6 + 0))) && (((za L (j * 6 + 1)) == (za L (k * 6 + 1))) && true)) = true)) (by kernel_rfl) ⟨hb22, hb22, hb22, hb22, hb22, hb22, hb22, hb22⟩ hS21 ?_
                  refine l_nil rfl ?_
                  refine then_n ?_
                  refine c_true (b := true) (by kernel_rfl) rfl ?_
                  refine wp_seq ?_
                  refine c_reg ?_
                  refine q_seg (S := (fun x_ => St w x_ [Res.box blk20 [Value.int .i64 (za L (j * 6 + 0)), Value.int .i64 (za L (j * 6 + 1)), Value.int .i64 (za L (j * 6 + 2)), Value.int .i64 (za L (j * 6 + 3)), Value.int .i64 (za L (j * 6 + 4)), Value.int .i64 (za L (j * 6 + 5))] 37, Res.box blk6 [Value.int .i64 (za L (k * 6 + 0)), Value.int .i64 (za L (k * 6 + 1)), Value.int .i64 (za L (k * 6 + 2)), Value.int .i64 (za L (k * 6 + 3)), Value.int .i64 (za L (k * 6 + 4)), Value.int .i64 (za L (k * 6 + 5))] 37])) [(2, Value.bool false)] [.no] True (by kernel_rfl) trivial hS21 ?_
                  refine l_nil rfl ?_
                  refine then_n ?_
                  refine wp_ret ?_
                  refine blk_r ?_
                  refine then_r ?_
                  refine then_r ?_
                  refine blk_r ?_
                  refine blk_r ?_
                  refine then_r ?_
                  refine then_r ?_
                  refine blk_r ?_
                  refine then_r ?_
                  exact c_end (S := (fun x_ => St w x_ [Res.box blk20 [Value.int .i64 (za L (j * 6 + 0)), Value.int .i64 (za L (j * 6 + 1)), Value.int .i64 (za L (j * 6 + 2)), Value.int .i64 (za L (j * 6 + 3)), Value.int .i64 (za L (j * 6 + 4)), Value.int .i64 (za L (j * 6 + 5))] 37, Res.box blk6 [Value.int .i64 (za L (k * 6 + 0)), Value.int .i64 (za L (k * 6 + 1)), Value.int .i64 (za L (k * 6 + 2)), Value.int .i64 (za L (k * 6 + 3)), Value.int .i64 (za L (k * 6 + 4)), Value.int .i64 (za L (k * 6 + 5))] 37])) (rs := [.tmp 2]) rfl [] (v := Value.bool false) (C := True) (by kernel_rfl) trivial hS21 ((hS21.rv (congrArg Value.bool (by first | exact okR_n (by omega) | exact okR_c hk_n hj_k (by unfold clash isID isTM; rw [hb22]; first | rfl | simp)))))
                · skip
                  refine q_seg (S := (fun x_ => St w x_ [Res.box blk20 [Value.int .i64 (za L (j * 6 + 0)), Value.int .i64 (za L (j * 6 + 1)), Value.int .i64 (za L (j * 6 + 2)), Value.int .i64 (za L (j * 6 + 3)), Value.int .i64 (za L (j * 6 + 4)), Value.int .i64 (za L (j * 6 + 5))] 37, Res.box blk6 [Value.int .i64 (za L (k * 6 + 0)), Value.int .i64 (za L (k * 6 + 1)), Value.int .i64 (za L (k * 6 + 2)), Value.int .i64 (za L (k * 6 + 3)), Value.int .i64 (za L (k * 6 + 4)), Value.int .i64 (za L (k * 6 + 5))] 37])) [(58, Value.bool (decide ((za L (j * 6 + 2)) = (za L (k * 6 + 2))))), (57, Value.bool (decide ((za L (j * 6 + 2)) = (za L (k * 6 + 2))))), (56, Value.int .i64 (za L (k * 6 + 2))), (55, Value.pointer (some ⟨blk6, 0 + 2, none⟩)), (54, Value.int .i64 (za L (j * 6 + 2))), (53, Value.pointer (some ⟨blk20, 0 + 2, none⟩))] [.no, .v (Value.int .i64 (za L (j * 6 + 2))), .no, .v (Value.int .i64 (za L (k * 6 + 2))), .no, .no] (((((za L (j * 6 + 0)) == (za L (k * 6 + 0))) && (((za L (j * 6 + 1)) == (za L (k * 6 + 1))) && true)) = false) ∧ ((((za L (j * 6 + 0)) == (za L (k * 6 + 0))) && (((za L (j * 6 + 1)) == (za L (k * 6 + 1))) && true)) = false) ∧ (LoadsAt Try.prog (fun x_ => St w x_ [Res.box blk20 [Value.int .i64 (za L (j * 6 + 0)), Value.int .i64 (za L (j * 6 + 1)), Value.int .i64 (za L (j * 6 + 2)), Value.int .i64 (za L (j * 6 + 3)), Value.int .i64 (za L (j * 6 + 4)), Value.int .i64 (za L (j * 6 + 5))] 37, Res.box blk6 [Value.int .i64 (za L (k * 6 + 0)), Value.int .i64 (za L (k * 6 + 1)), Value.int .i64 (za L (k * 6 + 2)), Value.int .i64 (za L (k * 6 + 3)), Value.int .i64 (za L (k * 6 + 4)), Value.int .i64 (za L (k * 6 + 5))] 37]) 3 ⟨blk20, 0 + 2, none⟩ (Value.int .i64 (za L (j * 6 + 2)))) ∧ ((((za L (j * 6 + 0)) == (za L (k * 6 + 0))) && (((za L (j * 6 + 1)) == (za L (k * 6 + 1))) && true)) = false) ∧ ((((za L (j * 6 + 0)) == (za L (k * 6 + 0))) && (((za L (j * 6 + 1)) == (za L (k * 6 + 1))) && true)) = false) ∧ (LoadsAt Try.prog (fun x_ => St w x_ [Res.box blk20 [Value.int .i64 (za L (j * 6 + 0)), Value.int .i64 (za L (j * 6 + 1)), Value.int .i64 (za L (j * 6 + 2)), Value.int .i64 (za L (j * 6 + 3)), Value.int .i64 (za L (j * 6 + 4)), Value.int .i64 (za L (j * 6 + 5))] 37, Res.box blk6 [Value.int .i64 (za L (k * 6 + 0)), Value.int .i64 (za L (k * 6 + 1)), Value.int .i64 (za L (k * 6 + 2)), Value.int .i64 (za L (k * 6 + 3)), Value.int .i64 (za L (k * 6 + 4)), Value.int .i64 (za L (k * 6 + 5))] 37]) 3 ⟨blk6, 0 + 2, none⟩ (Value.int .i64 (za L (k * 6 + 2)))) ∧ ((((za L (j * 6 + 0)) == (za L (k * 6 + 0))) && (((za L (j * 6 + 1)) == (za L (k * 6 + 1))) && true)) = false) ∧ ((((za L (j * 6 + 0)) == (za L (k * 6 + 0))) && (((za L (j * 6 + 1)) == (za L (k * 6 + 1))) && true)) = false)) (by kernel_rfl) ⟨hb22, hb22, (ld_box (i := 0) rfl rfl (by kernel_rfl)), hb22, hb22, (ld_box (i := 1) rfl rfl (by kernel_rfl)), hb22, hb22⟩ hS21 ?_
                  rcases Bool.eq_false_or_eq_true (decide ((za L (j * 6 + 2)) = (za L (k * 6 + 2)))) with hb23 | hb23
                  · skip
                    have hb23p := of_decide_eq_true hb23
                    refine q_seg (S := (fun x_ => St w x_ [Res.box blk20 [Value.int .i64 (za L (j * 6 + 0)), Value.int .i64 (za L (j * 6 + 1)), Value.int .i64 (za L (j * 6 + 2)), Value.int .i64 (za L (j * 6 + 3)), Value.int .i64 (za L (j * 6 + 4)), Value.int .i64 (za L (j * 6 + 5))] 37, Res.box blk6 [Value.int .i64 (za L (k * 6 + 0)), Value.int .i64 (za L (k * 6 + 1)), Value.int .i64 (za L (k * 6 + 2)), Value.int .i64 (za L (k * 6 + 3)), Value.int .i64 (za L (k * 6 + 4)), Value.int .i64 (za L (k * 6 + 5))] 37])) [(65, Value.bool (((za L (j * 6 + 4)) == (za L (k * 6 + 4))) && (((za L (j * 6 + 5)) == (za L (k * 6 + 5))) && true))), (64, Value.bool (((za L (j * 6 + 4)) == (za L (k * 6 + 4))) && (((za L (j * 6 + 5)) == (za L (k * 6 + 5))) && true))), (63, Value.bool (((za L (j * 6 + 4)) == (za L (k * 6 + 4))) && (((za L (j * 6 + 5)) == (za L (k * 6 + 5))) && true))), (62, Value.agg #[Value.int .i64 (za L (k * 6 + 4)), Value.int .i64 (za L (k * 6 + 5))]), (61, Value.pointer (some ⟨blk6, 0 + 4, none⟩)), (60, Value.agg #[Value.int .i64 (za L (j * 6 + 4)), Value.int .i64 (za L (j * 6 + 5))]), (59, Value.pointer (some ⟨blk20, 0 + 4, none⟩))] [.no, .v (Value.agg #[Value.int .i64 (za L (j * 6 + 4)), Value.int .i64 (za L (j * 6 + 5))]), .no, .v (Value.agg #[Value.int .i64 (za L (k * 6 + 4)), Value.int .i64 (za L (k * 6 + 5))]), .no, .v (.bool true), .v (.bool false)] (((decide ((za L (j * 6 + 2)) = (za L (k * 6 + 2)))) = true) ∧ ((decide ((za L (j * 6 + 2)) = (za L (k * 6 + 2)))) = true) ∧ (LoadsAt Try.prog (fun x_ => St w x_ [Res.box blk20 [Value.int .i64 (za L (j * 6 + 0)), Value.int .i64 (za L (j * 6 + 1)), Value.int .i64 (za L (j * 6 + 2)), Value.int .i64 (za L (j * 6 + 3)), Value.int .i64 (za L (j * 6 + 4)), Value.int .i64 (za L (j * 6 + 5))] 37, Res.box blk6 [Value.int .i64 (za L (k * 6 + 0)), Value.int .i64 (za L (k * 6 + 1)), Value.int .i64 (za L (k * 6 + 2)), Value.int .i64 (za L (k * 6 + 3)), Value.int .i64 (za L (k * 6 + 4)), Value.int .i64 (za L (k * 6 + 5))] 37]) 35 ⟨blk20, 0 + 4, none⟩ (Value.agg #[Value.int .i64 (za L (j * 6 + 4)), Value.int .i64 (za L (j * 6 + 5))])) ∧ ((decide ((za L (j * 6 + 2)) = (za L (k * 6 + 2)))) = true) ∧ ((decide ((za L (j * 6 + 2)) = (za L (k * 6 + 2)))) = true) ∧ (LoadsAt Try.prog (fun x_ => St w x_ [Res.box blk20 [Value.int .i64 (za L (j * 6 + 0)), Value.int .i64 (za L (j * 6 + 1)), Value.int .i64 (za L (j * 6 + 2)), Value.int .i64 (za L (j * 6 + 3)), Value.int .i64 (za L (j * 6 + 4)), Value.int .i64 (za L (j * 6 + 5))] 37, Res.box blk6 [Value.int .i64 (za L (k * 6 + 0)), Value.int .i64 (za L (k * 6 + 1)), Value.int .i64 (za L (k * 6 + 2)), Value.int .i64 (za L (k * 6 + 3)), Value.int .i64 (za L (k * 6 + 4)), Value.int .i64 (za L (k * 6 + 5))] 37]) 35 ⟨blk6, 0 + 4, none⟩ (Value.agg #[Value.int .i64 (za L (k * 6 + 4)), Value.int .i64 (za L (k * 6 + 5))])) ∧ ((decide ((za L (j * 6 + 2)) = (za L (k * 6 + 2)))) = true) ∧ ((((za L (j * 6 + 0)) == (za L (k * 6 + 0))) && (((za L (j * 6 + 1)) == (za L (k * 6 + 1))) && true)) = false) ∧ ((decide ((za L (j * 6 + 2)) = (za L (k * 6 + 2)))) = true) ∧ ((((za L (j * 6 + 0)) == (za L (k * 6 + 0))) && (((za L (j * 6 + 1)) == (za L (k * 6 + 1))) && true)) = false)) (by kernel_rfl) ⟨hb23, hb23, (ld_boxN (i := 0) (k := 2) rfl rfl rfl (by kernel_rfl)), hb23, hb23, (ld_boxN (i := 1) (k := 2) rfl rfl rfl (by kernel_rfl)), hb23, hb22, hb23, hb22⟩ hS21 ?_
                    refine l_nil rfl ?_
                    refine then_n ?_
                    rcases Bool.eq_false_or_eq_true ((((za L (j * 6 + 4)) == (za L (k * 6 + 4))) && (((za L (j * 6 + 5)) == (za L (k * 6 + 5))) && true))) with hb24 | hb24
                    · skip
                      refine c_true (b := (((za L (j * 6 + 4)) == (za L (k * 6 + 4))) && (((za L (j * 6 + 5)) == (za L (k * 6 + 5))) && true))) (by kernel_rfl) hb24 ?_
                      refine wp_seq ?_
                      refine c_reg ?_
                      refine q_seg (S := (fun x_ => St w x_ [Res.box blk20 [Value.int .i64 (za L (j * 6 + 0)), Value.int .i64 (za L (j * 6 + 1)), Value.int .i64 (za L (j * 6 + 2)), Value.int .i64 (za L (j * 6 + 3)), Value.int .i64 (za L (j * 6 + 4)), Value.int .i64 (za L (j * 6 + 5))] 37, Res.box blk6 [Value.int .i64 (za L (k * 6 + 0)), Value.int .i64 (za L (k * 6 + 1)), Value.int .i64 (za L (k * 6 + 2)), Value.int .i64 (za L (k * 6 + 3)), Value.int .i64 (za L (k * 6 + 4)), Value.int .i64 (za L (k * 6 + 5))] 37])) [(2, Value.bool false)] [.no] True (by kernel_rfl) trivial hS21 ?_
                      refine l_nil rfl ?_
                      refine then_n ?_
                      refine wp_ret ?_
                      refine blk_r ?_
                      refine then_r ?_
                      refine then_r ?_
                      refine blk_r ?_
                      refine blk_r ?_
                      refine then_r ?_
                      refine then_r ?_
                      refine blk_r ?_
                      refine then_r ?_
                      exact c_end (S := (fun x_ => St w x_ [Res.box blk20 [Value.int .i64 (za L (j * 6 + 0)), Value.int .i64 (za L (j * 6 + 1)), Value.int .i64 (za L (j * 6 + 2)), Value.int .i64 (za L (j * 6 + 3)), Value.int .i64 (za L (j * 6 + 4)), Value.int .i64 (za L (j * 6 + 5))] 37, Res.box blk6 [Value.int .i64 (za L (k * 6 + 0)), Value.int .i64 (za L (k * 6 + 1)), Value.int .i64 (za L (k * 6 + 2)), Value.int .i64 (za L (k * 6 + 3)), Value.int .i64 (za L (k * 6 + 4)), Value.int .i64 (za L (k * 6 + 5))] 37])) (rs := [.tmp 2]) rfl [] (v := Value.bool false) (C := True) (by kernel_rfl) trivial hS21 ((hS21.rv (congrArg Value.bool (by first | exact okR_n (by omega) | exact okR_c hk_n hj_k (by unfold clash isID isTM; rw [hb22, hb23, hb24]; first | rfl | simp)))))
                    · skip
                      refine c_false (b := (((za L (j * 6 + 4)) == (za L (k * 6 + 4))) && (((za L (j * 6 + 5)) == (za L (k * 6 + 5))) && true))) (by kernel_rfl) hb24 ?_
                      refine wp_skip ?_
                      refine blk_n ?_
                      refine then_n ?_
                      refine c_reg ?_
                      refine q_seg (S := (fun x_ => St w x_ [Res.box blk20 [Value.int .i64 (za L (j * 6 + 0)), Value.int .i64 (za L (j * 6 + 1)), Value.int .i64 (za L (j * 6 + 2)), Value.int .i64 (za L (j * 6 + 3)), Value.int .i64 (za L (j * 6 + 4)), Value.int .i64 (za L (j * 6 + 5))] 37, Res.box blk6 [Value.int .i64 (za L (k * 6 + 0)), Value.int .i64 (za L (k * 6 + 1)), Value.int .i64 (za L (k * 6 + 2)), Value.int .i64 (za L (k * 6 + 3)), Value.int .i64 (za L (k * 6 + 4)), Value.int .i64 (za L (k * 6 + 5))] 37])) [(43, Value.int .i64 (((j : Nat) : Int) + (1 : Int))), (66, Value.int .i64 (((j : Nat) : Int) + (1 : Int)))] [.no, .no] ((InK .i64 (((j : Nat) : Int) + (1 : Int)))) (by kernel_rfl) (in64 (by omega) (by omega)) hS21 ?_
                      refine l_nil rfl ?_
                      refine then_n ?_
                      refine round_end (j + 1) ?_ ?_ ?_
                      · exact (agree_cons (by kernel_rfl) (agree_cons (by kernel_rfl) (agree_cons (by kernel_rfl) (agree_cons (by kernel_rfl) (agree_cons (by kernel_rfl) (agree_cons (by kernel_rfl) (agree_cons (by kernel_rfl) (agree_cons (by kernel_rfl) (agree_cons (by kernel_rfl) (agree_cons (by kernel_rfl) (agree_cons (by kernel_rfl) (agree_cons (by kernel_rfl) (agree_cons (by kernel_rfl) (agree_cons (by kernel_rfl) (agree_cons (by kernel_rfl) (agree_cons (by kernel_rfl) (agree_cons (by kernel_rfl) (agree_cons (by kernel_rfl) (agree_cons (by kernel_rfl) (agree_cons (by kernel_rfl) (agree_cons (by kernel_rfl) (agree_cons (by kernel_rfl) (agree_cons (by kernel_rfl) (agree_cons (by kernel_rfl) (agree_cons (by kernel_rfl) (agree_cons (by kernel_rfl) (agree_cons (by kernel_rfl) (agree_cons (by kernel_rfl) (agree_cons (by kernel_rfl) (agree_cons (by kernel_rfl) (agree_cons (by kernel_rfl) (agree_cons (by kernel_rfl) (agree_cons (by kernel_rfl) (agree_cons (by kernel_rfl) (agree_cons (by kernel_rfl) (agree_cons (by kernel_rfl) (agree_cons (by kernel_rfl) agree_nil)))))))))))))))))))))))))))))))))))))
                      · exact ⟨(by omega), (step_no hcj (by unfold clash isID isTM; rw [hb22, hb23, hb24]; first | rfl | simp)), hS21.drop⟩
                      · exact (by first | omega | (dsimp only; omega))
                  · skip
                    have hb23p := of_decide_eq_false hb23
                    refine q_seg (S := (fun x_ => St w x_ [Res.box blk20 [Value.int .i64 (za L (j * 6 + 0)), Value.int .i64 (za L (j * 6 + 1)), Value.int .i64 (za L (j * 6 + 2)), Value.int .i64 (za L (j * 6 + 3)), Value.int .i64 (za L (j * 6 + 4)), Value.int .i64 (za L (j * 6 + 5))] 37, Res.box blk6 [Value.int .i64 (za L (k * 6 + 0)), Value.int .i64 (za L (k * 6 + 1)), Value.int .i64 (za L (k * 6 + 2)), Value.int .i64 (za L (k * 6 + 3)), Value.int .i64 (za L (k * 6 + 4)), Value.int .i64 (za L (k * 6 + 5))] 37])) [(65, Value.bool false), (64, Value.bool false), (63, undef), (62, undef), (61, undef), (60, undef), (59, undef)] [.skip, .skip, .skip, .skip, .skip, .v (.bool false), .v (.bool false)] (((decide ((za L (j * 6 + 2)) = (za L (k * 6 + 2)))) = !true) ∧ ((decide ((za L (j * 6 + 2)) = (za L (k * 6 + 2)))) = !true) ∧ ((decide ((za L (j * 6 + 2)) = (za L (k * 6 + 2)))) = !true) ∧ ((decide ((za L (j * 6 + 2)) = (za L (k * 6 + 2)))) = !true) ∧ ((decide ((za L (j * 6 + 2)) = (za L (k * 6 + 2)))) = !true) ∧ ((((za L (j * 6 + 0)) == (za L (k * 6 + 0))) && (((za L (j * 6 + 1)) == (za L (k * 6 + 1))) && true)) = false) ∧ ((decide ((za L (j * 6 + 2)) = (za L (k * 6 + 2)))) = false) ∧ ((((za L (j * 6 + 0)) == (za L (k * 6 + 0))) && (((za L (j * 6 + 1)) == (za L (k * 6 + 1))) && true)) = false)) (by kernel_rfl) ⟨hb23, hb23, hb23, hb23, hb23, hb22, hb23, hb22⟩ hS21 ?_
                    refine l_nil rfl ?_
                    refine then_n ?_
                    refine c_false (b := false) (by kernel_rfl) rfl ?_
                    refine wp_skip ?_
                    refine blk_n ?_
                    refine then_n ?_
                    refine c_reg ?_
                    refine q_seg (S := (fun x_ => St w x_ [Res.box blk20 [Value.int .i64 (za L (j * 6 + 0)), Value.int .i64 (za L (j * 6 + 1)), Value.int .i64 (za L (j * 6 + 2)), Value.int .i64 (za L (j * 6 + 3)), Value.int .i64 (za L (j * 6 + 4)), Value.int .i64 (za L (j * 6 + 5))] 37, Res.box blk6 [Value.int .i64 (za L (k * 6 + 0)), Value.int .i64 (za L (k * 6 + 1)), Value.int .i64 (za L (k * 6 + 2)), Value.int .i64 (za L (k * 6 + 3)), Value.int .i64 (za L (k * 6 + 4)), Value.int .i64 (za L (k * 6 + 5))] 37])) [(43, Value.int .i64 (((j : Nat) : Int) + (1 : Int))), (66, Value.int .i64 (((j : Nat) : Int) + (1 : Int)))] [.no, .no] ((InK .i64 (((j : Nat) : Int) + (1 : Int)))) (by kernel_rfl) (in64 (by omega) (by omega)) hS21 ?_
                    refine l_nil rfl ?_
                    refine then_n ?_
                    refine round_end (j + 1) ?_ ?_ ?_
                    · exact (agree_cons (by kernel_rfl) (agree_cons (by kernel_rfl) (agree_cons (by kernel_rfl) (agree_cons (by kernel_rfl) (agree_cons (by kernel_rfl) (agree_cons (by kernel_rfl) (agree_cons (by kernel_rfl) (agree_cons (by kernel_rfl) (agree_cons (by kernel_rfl) (agree_cons (by kernel_rfl) (agree_cons (by kernel_rfl) (agree_cons (by kernel_rfl) (agree_cons (by kernel_rfl) (agree_cons (by kernel_rfl) (agree_cons (by kernel_rfl) (agree_cons (by kernel_rfl) (agree_cons (by kernel_rfl) (agree_cons (by kernel_rfl) (agree_cons (by kernel_rfl) (agree_cons (by kernel_rfl) (agree_cons (by kernel_rfl) (agree_cons (by kernel_rfl) (agree_cons (by kernel_rfl) (agree_cons (by kernel_rfl) (agree_cons (by kernel_rfl) (agree_cons (by kernel_rfl) (agree_cons (by kernel_rfl) (agree_cons (by kernel_rfl) (agree_cons (by kernel_rfl) (agree_cons (by kernel_rfl) (agree_cons (by kernel_rfl) (agree_cons (by kernel_rfl) (agree_cons (by kernel_rfl) (agree_cons (by kernel_rfl) (agree_cons (by kernel_rfl) (agree_cons (by kernel_rfl) (agree_cons (by kernel_rfl) agree_nil)))))))))))))))))))))))))))))))))))))
                    · exact ⟨(by omega), (step_no hcj (by unfold clash isID isTM; rw [hb22, hb23]; first | rfl | simp)), hS21.drop⟩
                    · exact (by first | omega | (dsimp only; omega))
              · skip
                have hb18p := of_decide_eq_false hb18
                refine c_false (b := (decide (((j : Nat) : Int) < (((k - 0) : Nat) : Int)))) (by kernel_rfl) hb18 ?_
                refine wp_exit ?_
                refine then_x ?_
                refine then_x ?_
                refine blk_hit ?_
                refine blk_n ?_
                refine then_n ?_
                refine c_reg ?_
                refine q_seg (S := (fun x_ => St w x_ [Res.box blk6 [Value.int .i64 (za L (k * 6 + 0)), Value.int .i64 (za L (k * 6 + 1)), Value.int .i64 (za L (k * 6 + 2)), Value.int .i64 (za L (k * 6 + 3)), Value.int .i64 (za L (k * 6 + 4)), Value.int .i64 (za L (k * 6 + 5))] 37])) [(12, Value.int .i64 (((k : Nat) : Int) + (1 : Int))), (67, Value.int .i64 (((k : Nat) : Int) + (1 : Int)))] [.no, .no] ((InK .i64 (((k : Nat) : Int) + (1 : Int)))) (by kernel_rfl) (in64 (by omega) (by omega)) hS16 ?_
                refine l_nil rfl ?_
                refine then_n ?_
                refine round_end (k + 1) ?_ ?_ ?_
                · exact (agree_cons (by kernel_rfl) (agree_cons (by kernel_rfl) (agree_cons (by kernel_rfl) (agree_cons (by kernel_rfl) agree_nil))))
                · exact ⟨(by omega), (step_good hgood ⟨hok, fun j hj => hcj j (by omega)⟩), hS16.drop⟩
                · exact (by first | omega | (dsimp only; omega))
            · skip
              refine c_true (b := (!(vtmp (za L (k * 6 + 4)) (za L (k * 6 + 5))))) (by kernel_rfl) (nb (v := false) hb15) ?_
              refine wp_seq ?_
              refine c_reg ?_
              refine q_seg (S := (fun x_ => St w x_ [Res.box blk6 [Value.int .i64 (za L (k * 6 + 0)), Value.int .i64 (za L (k * 6 + 1)), Value.int .i64 (za L (k * 6 + 2)), Value.int .i64 (za L (k * 6 + 3)), Value.int .i64 (za L (k * 6 + 4)), Value.int .i64 (za L (k * 6 + 5))] 37])) [(2, Value.bool false)] [.no] True (by kernel_rfl) trivial hS14 ?_
              refine l_nil rfl ?_
              refine then_n ?_
              refine wp_ret ?_
              refine then_r ?_
              refine blk_r ?_
              refine then_r ?_
              refine then_r ?_
              refine blk_r ?_
              refine then_r ?_
              exact c_end (S := (fun x_ => St w x_ [Res.box blk6 [Value.int .i64 (za L (k * 6 + 0)), Value.int .i64 (za L (k * 6 + 1)), Value.int .i64 (za L (k * 6 + 2)), Value.int .i64 (za L (k * 6 + 3)), Value.int .i64 (za L (k * 6 + 4)), Value.int .i64 (za L (k * 6 + 5))] 37])) (rs := [.tmp 2]) rfl [] (v := Value.bool false) (C := True) (by kernel_rfl) trivial hS14 ((hS14.rv (congrArg Value.bool (by first | exact okR_n (by omega) | exact okR_e hk_n (by unfold okE; rw [hb9, hb11, hb13, hb15]; first | rfl | simp)))))
          · skip
            have hb13p := inR_neg hb13
            refine q_seg (S := (fun x_ => St w x_ [Res.box blk6 [Value.int .i64 (za L (k * 6 + 0)), Value.int .i64 (za L (k * 6 + 1)), Value.int .i64 (za L (k * 6 + 2)), Value.int .i64 (za L (k * 6 + 3)), Value.int .i64 (za L (k * 6 + 4)), Value.int .i64 (za L (k * 6 + 5))] 37])) [(38, Value.bool true), (37, undef), (36, undef), (35, undef), (34, undef)] [.skip, .skip, .skip, .skip, .v (.bool true)] (((!(inR (za L (k * 6 + 3)) 0 2)) = !false) ∧ ((!(inR (za L (k * 6 + 3)) 0 2)) = !false) ∧ ((!(inR (za L (k * 6 + 3)) 0 2)) = !false) ∧ ((!(inR (za L (k * 6 + 3)) 0 2)) = !false) ∧ ((!(inR (za L (k * 6 + 3)) 0 2)) = true)) (by kernel_rfl) ⟨(nb (v := false) hb13), (nb (v := false) hb13), (nb (v := false) hb13), (nb (v := false) hb13), (nb (v := false) hb13)⟩ hS12 ?_
            refine l_nil rfl ?_
            refine then_n ?_
            refine c_true (b := true) (by kernel_rfl) rfl ?_
            refine wp_seq ?_
            refine c_reg ?_
            refine q_seg (S := (fun x_ => St w x_ [Res.box blk6 [Value.int .i64 (za L (k * 6 + 0)), Value.int .i64 (za L (k * 6 + 1)), Value.int .i64 (za L (k * 6 + 2)), Value.int .i64 (za L (k * 6 + 3)), Value.int .i64 (za L (k * 6 + 4)), Value.int .i64 (za L (k * 6 + 5))] 37])) [(2, Value.bool false)] [.no] True (by kernel_rfl) trivial hS12 ?_
            refine l_nil rfl ?_
            refine then_n ?_
            refine wp_ret ?_
            refine then_r ?_
            refine blk_r ?_
            refine then_r ?_
            refine then_r ?_
            refine blk_r ?_
            refine then_r ?_
            exact c_end (S := (fun x_ => St w x_ [Res.box blk6 [Value.int .i64 (za L (k * 6 + 0)), Value.int .i64 (za L (k * 6 + 1)), Value.int .i64 (za L (k * 6 + 2)), Value.int .i64 (za L (k * 6 + 3)), Value.int .i64 (za L (k * 6 + 4)), Value.int .i64 (za L (k * 6 + 5))] 37])) (rs := [.tmp 2]) rfl [] (v := Value.bool false) (C := True) (by kernel_rfl) trivial hS12 ((hS12.rv (congrArg Value.bool (by first | exact okR_n (by omega) | exact okR_e hk_n (by unfold okE; rw [hb9, hb11, hb13]; first | rfl | simp)))))
        · skip
          have hb11p := inR_neg hb11
          refine q_seg (S := (fun x_ => St w x_ [Res.box blk6 [Value.int .i64 (za L (k * 6 + 0)), Value.int .i64 (za L (k * 6 + 1)), Value.int .i64 (za L (k * 6 + 2)), Value.int .i64 (za L (k * 6 + 3)), Value.int .i64 (za L (k * 6 + 4)), Value.int .i64 (za L (k * 6 + 5))] 37])) [(38, Value.bool true), (37, undef), (36, undef), (35, undef), (34, undef), (33, Value.bool true), (32, Value.bool true), (31, undef), (30, undef), (29, undef), (28, undef)] [.skip, .skip, .skip, .skip, .v (.bool true), .no, .skip, .skip, .skip, .skip, .v (.bool true)] (((!(inR (za L (k * 6 + 2)) 0 3)) = !false) ∧ ((!(inR (za L (k * 6 + 2)) 0 3)) = !false) ∧ ((!(inR (za L (k * 6 + 2)) 0 3)) = !false) ∧ ((!(inR (za L (k * 6 + 2)) 0 3)) = !false) ∧ ((!(inR (za L (k * 6 + 2)) 0 3)) = true) ∧ (true = !false) ∧ (true = !false) ∧ (true = !false) ∧ (true = !false) ∧ (true = true)) (by kernel_rfl) ⟨(nb (v := false) hb11), (nb (v := false) hb11), (nb (v := false) hb11), (nb (v := false) hb11), (nb (v := false) hb11), rfl, rfl, rfl, rfl, rfl⟩ hS10 ?_
          refine l_nil rfl ?_
          refine then_n ?_
          refine c_true (b := true) (by kernel_rfl) rfl ?_
          refine wp_seq ?_
          refine c_reg ?_
          refine q_seg (S := (fun x_ => St w x_ [Res.box blk6 [Value.int .i64 (za L (k * 6 + 0)), Value.int .i64 (za L (k * 6 + 1)), Value.int .i64 (za L (k * 6 + 2)), Value.int .i64 (za L (k * 6 + 3)), Value.int .i64 (za L (k * 6 + 4)), Value.int .i64 (za L (k * 6 + 5))] 37])) [(2, Value.bool false)] [.no] True (by kernel_rfl) trivial hS10 ?_
          refine l_nil rfl ?_
          refine then_n ?_
          refine wp_ret ?_
          refine then_r ?_
          refine blk_r ?_
          refine then_r ?_
          refine then_r ?_
          refine blk_r ?_
          refine then_r ?_
          exact c_end (S := (fun x_ => St w x_ [Res.box blk6 [Value.int .i64 (za L (k * 6 + 0)), Value.int .i64 (za L (k * 6 + 1)), Value.int .i64 (za L (k * 6 + 2)), Value.int .i64 (za L (k * 6 + 3)), Value.int .i64 (za L (k * 6 + 4)), Value.int .i64 (za L (k * 6 + 5))] 37])) (rs := [.tmp 2]) rfl [] (v := Value.bool false) (C := True) (by kernel_rfl) trivial hS10 ((hS10.rv (congrArg Value.bool (by first | exact okR_n (by omega) | exact okR_e hk_n (by unfold okE; rw [hb9, hb11]; first | rfl | simp)))))
      · skip
        refine q_seg (S := (fun x_ => St w x_ [Res.box blk6 [Value.int .i64 (za L (k * 6 + 0)), Value.int .i64 (za L (k * 6 + 1)), Value.int .i64 (za L (k * 6 + 2)), Value.int .i64 (za L (k * 6 + 3)), Value.int .i64 (za L (k * 6 + 4)), Value.int .i64 (za L (k * 6 + 5))] 37])) [(38, Value.bool true), (37, undef), (36, undef), (35, undef), (34, undef), (33, Value.bool true), (32, Value.bool true), (31, undef), (30, undef), (29, undef), (28, undef), (27, Value.bool true), (26, Value.bool true), (25, undef), (24, undef), (23, undef), (22, undef)] [.skip, .skip, .skip, .skip, .v (.bool true), .no, .skip, .skip, .skip, .skip, .v (.bool true), .no, .skip, .skip, .skip, .skip, .v (.bool true)] (((!(vsub (za L (k * 6 + 0)) (za L (k * 6 + 1)))) = !false) ∧ ((!(vsub (za L (k * 6 + 0)) (za L (k * 6 + 1)))) = !false) ∧ ((!(vsub (za L (k * 6 + 0)) (za L (k * 6 + 1)))) = !false) ∧ ((!(vsub (za L (k * 6 + 0)) (za L (k * 6 + 1)))) = !false) ∧ ((!(vsub (za L (k * 6 + 0)) (za L (k * 6 + 1)))) = true) ∧ (true = !false) ∧ (true = !false) ∧ (true = !false) ∧ (true = !false) ∧ (true = true) ∧ (true = !false) ∧ (true = !false) ∧ (true = !false) ∧ (true = !false) ∧ (true = true)) (by kernel_rfl) ⟨(nb (v := false) hb9), (nb (v := false) hb9), (nb (v := false) hb9), (nb (v := false) hb9), (nb (v := false) hb9), rfl, rfl, rfl, rfl, rfl, rfl, rfl, rfl, rfl, rfl⟩ hS8 ?_
        refine l_nil rfl ?_
        refine then_n ?_
        refine c_true (b := true) (by kernel_rfl) rfl ?_
        refine wp_seq ?_
        refine c_reg ?_
        refine q_seg (S := (fun x_ => St w x_ [Res.box blk6 [Value.int .i64 (za L (k * 6 + 0)), Value.int .i64 (za L (k * 6 + 1)), Value.int .i64 (za L (k * 6 + 2)), Value.int .i64 (za L (k * 6 + 3)), Value.int .i64 (za L (k * 6 + 4)), Value.int .i64 (za L (k * 6 + 5))] 37])) [(2, Value.bool false)] [.no] True (by kernel_rfl) trivial hS8 ?_
        refine l_nil rfl ?_
        refine then_n ?_
        refine wp_ret ?_
        refine then_r ?_
        refine blk_r ?_
        refine then_r ?_
        refine then_r ?_
        refine blk_r ?_
        refine then_r ?_
        exact c_end (S := (fun x_ => St w x_ [Res.box blk6 [Value.int .i64 (za L (k * 6 + 0)), Value.int .i64 (za L (k * 6 + 1)), Value.int .i64 (za L (k * 6 + 2)), Value.int .i64 (za L (k * 6 + 3)), Value.int .i64 (za L (k * 6 + 4)), Value.int .i64 (za L (k * 6 + 5))] 37])) (rs := [.tmp 2]) rfl [] (v := Value.bool false) (C := True) (by kernel_rfl) trivial hS8 ((hS8.rv (congrArg Value.bool (by first | exact okR_n (by omega) | exact okR_e hk_n (by unfold okE; rw [hb9]; first | rfl | simp)))))
    · skip
      have hb4p := of_decide_eq_false hb4
      refine c_false (b := (decide (((k : Nat) : Int) < ((n : Nat) : Int)))) (by kernel_rfl) hb4 ?_
      refine wp_exit ?_
      refine then_x ?_
      refine then_x ?_
      refine blk_hit ?_
      refine then_n ?_
      refine wp_seq ?_
      refine c_reg ?_
      refine q_seg (S := (fun x_ => St w x_ [])) [(2, Value.bool true)] [.no] True (by kernel_rfl) trivial hS2 ?_
      refine l_nil rfl ?_
      refine then_n ?_
      refine wp_ret ?_
      exact c_end (S := (fun x_ => St w x_ [])) (rs := [.tmp 2]) rfl [] (v := Value.bool true) (C := True) (by kernel_rfl) trivial hS2 ((hS2.rv (congrArg Value.bool (okR_t (by omega) (fun i hi => hgood i (by omega))))))
theorem ValidS_c (A : Option Addr) (n c N : Nat) (L : List Int) (w : World) (hn : n ≤ 1099511627776) (hN : n ≤ N) (hr : Rd w w.heap.size A (N * 6) (L.map (Value.int .i64))) (hnc : n ≤ c) (hcm : c ≤ maxLen) : Calls Try.prog 22 #[.slice A n c] w (RetV w (.bool (okR L n))) := by
  have hLl := hr.len
  have hLl : L.length = N * 6 := hLl
  unfold maxLen at hcm
  refine calls_FA Try.func22 rfl (n := 60) rfl (l := [(0, Value.slice A n c)]) rfl (by simp) (fun g => ?_)
  have hS := St.init w
  refine wp_seq ?_
  refine c_reg ?_
  refine q_seg (S := (fun x_ => St w x_ [])) [(2, Value.bool false)] [.no] True (by kernel_rfl) trivial hS ?_
  refine l_nil rfl ?_
  refine then_n ?_
  refine wp_seq ?_
  refine wp_seq ?_
  refine c_reg ?_
  refine q_seg (S := (fun x_ => St w x_ [])) [(3, Value.int .i64 0)] [.no] True (by kernel_rfl) trivial hS ?_
  refine l_nil rfl ?_
  refine then_n ?_
  refine wp_block ?_
  refine c_loop (X := Nat) (fun (k : Nat) => [(0, Value.slice A n c), (3, Value.int .i64 ((k : Nat) : Int))]) (fun (k : Nat) (wr : World) => (k ≤ n) ∧ (∀ i, i < k → goodE L i) ∧ St w wr []) (fun (k : Nat) => n - k) 0 ?_ ?_ ?_
  · exact (agree_cons (by kernel_rfl) (agree_cons (by kernel_rfl) agree_nil))
  · exact ⟨Nat.zero_le _, (fun j hj => absurd hj (by omega)), hS⟩
  rintro k g2 w1 ⟨hkn, hgood, hS1⟩
  refine wp_seq ?_
  refine wp_seq ?_
  refine c_reg ?_
  refine q_seg (S := (fun x_ => St w x_ [])) [(8, Value.bool (decide (((k : Nat) : Int) < ((n : Nat) : Int)))), (7, Value.int .i64 ((n : Nat) : Int)), (6, Value.slice A n c), (5, Value.int .i64 ((k : Nat) : Int))] [.no, .no, .no, .no] True (by kernel_rfl) trivial hS1 ?_
  refine l_nil rfl ?_
  refine then_n ?_
  rcases Bool.eq_false_or_eq_true (decide (((k : Nat) : Int) < ((n : Nat) : Int))) with hb3 | hb3
  · skip
    have hb3p := of_decide_eq_true hb3
    have hk_n : k < n := by omega
    obtain ⟨bA, offA, rfl, hbA, hclA⟩ := hr.2 (by omega)
    refine c_true (b := (decide (((k : Nat) : Int) < ((n : Nat) : Int)))) (by kernel_rfl) hb3 ?_
    refine wp_skip ?_
    refine then_n ?_
    refine wp_seq ?_
    refine wp_block ?_
    refine wp_seq ?_
    refine c_reg ?_
    refine q_seg (S := (fun x_ => St w x_ [])) [(14, Value.agg #[Value.int .i64 (za L (k * 6 + 0)), Value.int .i64 (za L (k * 6 + 1)), Value.int .i64 (za L (k * 6 + 2)), Value.int .i64 (za L (k * 6 + 3)), Value.int .i64 (za L (k * 6 + 4)), Value.int .i64 (za L (k * 6 + 5))]), (13, Value.pointer (some ⟨bA, offA + Int.toNat ((k : Nat) : Int) * 6, none⟩)), (12, Value.int .i64 ((k : Nat) : Int)), (11, Value.slice (some ⟨bA, offA, none⟩) n c)] [.no, .no, .no, .v (Value.agg #[Value.int .i64 (za L (k * 6 + 0)), Value.int .i64 (za L (k * 6 + 1)), Value.int .i64 (za L (k * 6 + 2)), Value.int .i64 (za L (k * 6 + 3)), Value.int .i64 (za L (k * 6 + 4)), Value.int .i64 (za L (k * 6 + 5))])] (((0 : Int) ≤ ((k : Nat) : Int)) ∧ (((k : Nat) : Int) < ((n : Nat) : Int)) ∧ (LoadsAt Try.prog (fun x_ => St w x_ []) 37 ⟨bA, offA + Int.toNat ((k : Nat) : Int) * 6, none⟩ (Value.agg #[Value.int .i64 (za L (k * 6 + 0)), Value.int .i64 (za L (k * 6 + 1)), Value.int .i64 (za L (k * 6 + 2)), Value.int .i64 (za L (k * 6 + 3)), Value.int .i64 (za L (k * 6 + 4)), Value.int .i64 (za L (k * 6 + 5))]))) (by kernel_rfl) ⟨(by omega), (by omega), (ld_lowN (k := 6) (vs := [Value.int .i64 (za L (k * 6 + 0)), Value.int .i64 (za L (k * 6 + 1)), Value.int .i64 (za L (k * 6 + 2)), Value.int .i64 (za L (k * 6 + 3)), Value.int .i64 (za L (k * 6 + 4)), Value.int .i64 (za L (k * 6 + 5))]) (by kernel_rfl) rfl (rec_low (p := k * 6) (q := 6) hclA (by omega) (seg6 (by omega))))⟩ hS1 ?_
    refine l_op rfl rfl (fun K hK => op_alloc (d := some 4) rfl rfl [Value.int .i64 0, Value.int .i64 0, Value.int .i64 0, Value.int .i64 0, Value.int .i64 0, Value.int .i64 0] (by kernel_rfl) hS1 (fun blk5 w4 hS4 => hK _ _ ?_))
    clear hK K
    refine l_op rfl rfl (fun K hK => op_store (d := none) rfl rfl (i := 0) (b := blk5) (off := 0) (cs := [Value.int .i64 0, Value.int .i64 0, Value.int .i64 0, Value.int .i64 0, Value.int .i64 0, Value.int .i64 0]) (bt := 37) (by kernel_rfl) (by kernel_rfl) [Value.int .i64 (za L (k * 6 + 0)), Value.int .i64 (za L (k * 6 + 1)), Value.int .i64 (za L (k * 6 + 2)), Value.int .i64 (za L (k * 6 + 3)), Value.int .i64 (za L (k * 6 + 4)), Value.int .i64 (za L (k * 6 + 5))] (by kernel_rfl) (by kernel_rfl) (Nat.le_of_ble_eq_true (by kernel_rfl)) (by kernel_rfl) [Res.box blk5 [Value.int .i64 (za L (k * 6 + 0)), Value.int .i64 (za L (k * 6 + 1)), Value.int .i64 (za L (k * 6 + 2)), Value.int .i64 (za L (k * 6 + 3)), Value.int .i64 (za L (k * 6 + 4)), Value.int .i64 (za L (k * 6 + 5))] 37] (by kernel_rfl) hS4 (fun w6 hS6 => hK _ _ ?_))
    clear hK K
    refine l_nil rfl ?_
    refine then_n ?_
    refine wp_seq ?_
    refine c_drawn [] (by kernel_rfl) hS6 (fun w7 hS7 => ?_)
    refine t_seg (S := (fun x_ => St w x_ [Res.box blk5 [Value.int .i64 (za L (k * 6 + 0)), Value.int .i64 (za L (k * 6 + 1)), Value.int .i64 (za L (k * 6 + 2)), Value.int .i64 (za L (k * 6 + 3)), Value.int .i64 (za L (k * 6 + 4)), Value.int .i64 (za L (k * 6 + 5))] 37])) [(0, .no), (1, .v (Value.agg #[Value.int .i64 (za L (k * 6 + 0)), Value.int .i64 (za L (k * 6 + 1))]))] 40 #[true, true, false, false, false, false, false, false, false, false, false, false, false, false, false, false, false, false, false, false, false, false, false, false, false, false, false, false, false, false, false, false, false, false, false, false, false, false, false, false, false, false] [(16, Value.agg #[Value.int .i64 (za L (k * 6 + 0)), Value.int .i64 (za L (k * 6 + 1))]), (15, Value.pointer (some ⟨blk5, 0 + 0, none⟩))] ((LoadsAt Try.prog (fun x_ => St w x_ [Res.box blk5 [Value.int .i64 (za L (k * 6 + 0)), Value.int .i64 (za L (k * 6 + 1)), Value.int .i64 (za L (k * 6 + 2)), Value.int .i64 (za L (k * 6 + 3)), Value.int .i64 (za L (k * 6 + 4)), Value.int .i64 (za L (k * 6 + 5))] 37]) 34 ⟨blk5, 0 + 0, none⟩ (Value.agg #[Value.int .i64 (za L (k * 6 + 0)), Value.int .i64 (za L (k * 6 + 1))]))) (by kernel_rfl) (Qpanic.then (Qpanic.block (Qpanic.then (Qpanic.then (Qpanic.block (Qpanic.then Qpanic.bp)))))) rfl (by kernel_rfl) (ld_boxN (i := 0) (k := 2) rfl rfl rfl (by kernel_rfl)) hS7 ?_
    refine a_op (i := 2) (fuel := 39) (listed' := #[true, true, true, false, false, false, false, false, false, false, false, false, false, false, false, false, false, false, false, false, false, false, false, false, false, false, false, false, false, false, false, false, false, false, false, false, false, false, false, false, false, false]) rfl rfl (by kernel_rfl) (by kernel_rfl) rfl (fun K hK => op_callv (d := some 17) rfl rfl ⟨_, Try.func36, by kernel_rfl, by kernel_rfl⟩ (vs := [Value.agg #[Value.int .i64 (za L (k * 6 + 0)), Value.int .i64 (za L (k * 6 + 1))]]) (by kernel_rfl) (v := Value.bool (vsub (za L (k * 6 + 0)) (za L (k * 6 + 1)))) (IsValidSubscriberID_s_c (za L (k * 6 + 0)) (za L (k * 6 + 1))  _) hS7 (fun w8 hS8 => hK _ _ (fun _ => hS8) ?_))
    clear hK K
    refine t_seg (S := (fun x_ => St w x_ [Res.box blk5 [Value.int .i64 (za L (k * 6 + 0)), Value.int .i64 (za L (k * 6 + 1)), Value.int .i64 (za L (k * 6 + 2)), Value.int .i64 (za L (k * 6 + 3)), Value.int .i64 (za L (k * 6 + 4)), Value.int .i64 (za L (k * 6 + 5))] 37])) [(3, .no), (4, .no)] 37 #[true, true, true, true, true, false, false, false, false, false, false, false, false, false, false, false, false, false, false, false, false, false, false, false, false, false, false, false, false, false, false, false, false, false, false, false, false, false, false, false, false, false] [(19, Value.bool (!(vsub (za L (k * 6 + 0)) (za L (k * 6 + 1))))), (18, Value.bool (!(vsub (za L (k * 6 + 0)) (za L (k * 6 + 1)))))] True (by kernel_rfl) (Qpanic.then (Qpanic.block (Qpanic.then (Qpanic.then (Qpanic.block (Qpanic.then Qpanic.bp)))))) rfl (by kernel_rfl) trivial hS8 ?_
    rcases Bool.eq_false_or_eq_true (vsub (za L (k * 6 + 0)) (za L (k * 6 + 1))) with hb9 | hb9
    · skip
      refine t_seg (S := (fun x_ => St w x_ [Res.box blk5 [Value.int .i64 (za L (k * 6 + 0)), Value.int .i64 (za L (k * 6 + 1)), Value.int .i64 (za L (k * 6 + 2)), Value.int .i64 (za L (k * 6 + 3)), Value.int .i64 (za L (k * 6 + 4)), Value.int .i64 (za L (k * 6 + 5))] 37])) [(5, .no), (6, .no), (8, .no), (7, .no), (9, .v (Value.agg #[Value.int .i64 (za L (k * 6 + 0)), Value.int .i64 (za L (k * 6 + 1))]))] 32 #[true, true, true, true, true, true, true, true, true, true, false, false, false, false, false, false, false, false, false, false, false, false, false, false, false, false, false, false, false, false, false, false, false, false, false, false, false, false, false, false, false, false] [(24, Value.agg #[Value.int .i64 (za L (k * 6 + 0)), Value.int .i64 (za L (k * 6 + 1))]), (22, Value.slice (cutA (some ⟨bA, offA, none⟩) c 0 6) (k - 0) (c - 0)), (23, Value.pointer (some ⟨blk5, 0 + 0, none⟩)), (21, Value.int .i64 ((k : Nat) : Int)), (20, Value.slice (some ⟨bA, offA, none⟩) n c)] (((!(vsub (za L (k * 6 + 0)) (za L (k * 6 + 1)))) = false) ∧ ((!(vsub (za L (k * 6 + 0)) (za L (k * 6 + 1)))) = false) ∧ ((!(vsub (za L (k * 6 + 0)) (za L (k * 6 + 1)))) = false) ∧ ((!(vsub (za L (k * 6 + 0)) (za L (k * 6 + 1)))) = false) ∧ ((0 : Int) ≤ (0 : Int)) ∧ ((0 : Int) ≤ ((k : Nat) : Int)) ∧ (((k : Nat) : Int) ≤ ((c : Nat) : Int)) ∧ (n ≤ c) ∧ ((!(vsub (za L (k * 6 + 0)) (za L (k * 6 + 1)))) = false) ∧ (LoadsAt Try.prog (fun x_ => St w x_ [Res.box blk5 [Value.int .i64 (za L (k * 6 + 0)), Value.int .i64 (za L (k * 6 + 1)), Value.int .i64 (za L (k * 6 + 2)), Value.int .i64 (za L (k * 6 + 3)), Value.int .i64 (za L (k * 6 + 4)), Value.int .i64 (za L (k * 6 + 5))] 37]) 34 ⟨blk5, 0 + 0, none⟩ (Value.agg #[Value.int .i64 (za L (k * 6 + 0)), Value.int .i64 (za L (k * 6 + 1))]))) (by kernel_rfl) (Qpanic.then (Qpanic.block (Qpanic.then (Qpanic.then (Qpanic.block (Qpanic.then Qpanic.bp)))))) rfl (by kernel_rfl) ⟨(nb (v := true) hb9), (nb (v := true) hb9), (nb (v := true) hb9), (nb (v := true) hb9), (by omega), (by omega), (by omega), (by omega), (nb (v := true) hb9), (ld_boxN (i := 0) (k := 2) rfl rfl rfl (by kernel_rfl))⟩ hS8 ?_
      refine a_opg (i := 10) (fuel := 31) (listed' := #[true, true, true, true, true, true, true, true, true, true, true, false, false, false, false, false, false, false, false, false, false, false, false, false, false, false, false, false, false, false, false, false, false, false, false, false, false, false, false, false, false, false]) rfl rfl (by kernel_rfl) (by kernel_rfl) (b := (!(vsub (za L (k * 6 + 0)) (za L (k * 6 + 1))))) (want := false) (by kernel_rfl) (nb (v := true) hb9) (fun K hK => op_callv (d := some 25) rfl rfl ⟨_, Try.func16, by kernel_rfl, by kernel_rfl⟩ (vs := [Value.slice (cutA (some ⟨bA, offA, none⟩) c 0 6) (k - 0) (c - 0), Value.agg #[Value.int .i64 (za L (k * 6 + 0)), Value.int .i64 (za L (k * 6 + 1))]]) (by kernel_rfl) (v := Value.int .i64 (fnd (isID L (za L (k * 6 + 0)) (za L (k * 6 + 1))) (k - 0))) (FindS_c (cutA (some ⟨bA, offA, none⟩) c 0 6) (k - 0) (c - 0) N L (za L (k * 6 + 0)) (za L (k * 6 + 1)) w8 (by omega) (by omega) (rd_cut0 (hS8.rdlow hr) (by omega))) hS8 (fun w10 hS10 => hK _ _ (fun _ => hS10) ?_))
      clear hK K
      have hfq11 := fnd_bd (isID L (za L (k * 6 + 0)) (za L (k * 6 + 1))) (k - 0)
      refine t_seg (S := (fun x_ => St w x_ [Res.box blk5 [Value.int .i64 (za L (k * 6 + 0)), Value.int .i64 (za L (k * 6 + 1)), Value.int .i64 (za L (k * 6 + 2)), Value.int .i64 (za L (k * 6 + 3)), Value.int .i64 (za L (k * 6 + 4)), Value.int .i64 (za L (k * 6 + 5))] 37])) [(11, .no), (12, .v (.bool false)), (13, .no)] 28 #[true, true, true, true, true, true, true, true, true, true, true, true, true, true, false, false, false, false, false, false, false, false, false, false, false, false, false, false, false, false, false, false, false, false, false, false, false, false, false, false, false, false] [(28, Value.bool (decide ((0 : Int) ≤ (fnd (isID L (za L (k * 6 + 0)) (za L (k * 6 + 1))) (k - 0))))), (27, Value.bool (decide ((0 : Int) ≤ (fnd (isID L (za L (k * 6 + 0)) (za L (k * 6 + 1))) (k - 0))))), (26, Value.bool (decide ((0 : Int) ≤ (fnd (isID L (za L (k * 6 + 0)) (za L (k * 6 + 1))) (k - 0)))))] (((!(vsub (za L (k * 6 + 0)) (za L (k * 6 + 1)))) = false) ∧ ((!(vsub (za L (k * 6 + 0)) (za L (k * 6 + 1)))) = false)) (by kernel_rfl) (Qpanic.then (Qpanic.block (Qpanic.then (Qpanic.then (Qpanic.block (Qpanic.then Qpanic.bp)))))) rfl (by kernel_rfl) ⟨(nb (v := true) hb9), (nb (v := true) hb9)⟩ hS10 ?_
      rcases Bool.eq_false_or_eq_true (decide ((0 : Int) ≤ (fnd (isID L (za L (k * 6 + 0)) (za L (k * 6 + 1))) (k - 0)))) with hb12 | hb12
      · skip
        have hb12p := of_decide_eq_true hb12
        refine t_seg (S := (fun x_ => St w x_ [Res.box blk5 [Value.int .i64 (za L (k * 6 + 0)), Value.int .i64 (za L (k * 6 + 1)), Value.int .i64 (za L (k * 6 + 2)), Value.int .i64 (za L (k * 6 + 3)), Value.int .i64 (za L (k * 6 + 4)), Value.int .i64 (za L (k * 6 + 5))] 37])) [(14, .skip), (15, .skip), (16, .skip), (17, .skip), (18, .v (.bool true)), (19, .no), (20, .skip), (21, .skip), (22, .skip), (23, .skip), (24, .v (.bool true)), (25, .no), (26, .skip), (27, .skip), (28, .skip), (29, .skip), (30, .v (.bool true)), (31, .no), (32, .skip), (33, .skip), (35, .skip), (37, .skip), (34, .skip), (36, .skip), (38, .skip), (39, .skip), (40, .skip), (41, .v (.bool true))] 0 #[true, true, true, true, true, true, true, true, true, true, true, true, true, true, true, true, true, true, true, true, true, true, true, true, true, true, true, true, true, true, true, true, true, true, true, true, true, true, true, true, true, true] [(56, Value.bool true), (55, undef), (54, undef), (53, undef), (51, undef), (49, undef), (52, undef), (50, undef), (48, undef), (47, undef), (46, Value.bool true), (45, Value.bool true), (44, undef), (43, undef), (42, undef), (41, undef), (40, Value.bool true), (39, Value.bool true), (38, undef), (37, undef), (36, undef), (35, undef), (34, Value.bool true), (33, Value.bool true), (32, undef), (31, undef), (30, undef), (29, undef)] (((decide ((0 : Int) ≤ (fnd (isID L (za L (k * 6 + 0)) (za L (k * 6 + 1))) (k - 0)))) = !false) ∧ ((decide ((0 : Int) ≤ (fnd (isID L (za L (k * 6 + 0)) (za L (k * 6 + 1))) (k - 0)))) = !false) ∧ ((decide ((0 : Int) ≤ (fnd (isID L (za L (k * 6 + 0)) (za L (k * 6 + 1))) (k - 0)))) = !false) ∧ ((decide ((0 : Int) ≤ (fnd (isID L (za L (k * 6 + 0)) (za L (k * 6 + 1))) (k - 0)))) = !false) ∧ ((decide ((0 : Int) ≤ (fnd (isID L (za L (k * 6 + 0)) (za L (k * 6 + 1))) (k - 0)))) = true) ∧ (true = !false) ∧ (true = !false) ∧ (true = !false) ∧ (true = !false) ∧ (true = true) ∧ (true = !false) ∧ (true = !false) ∧ (true = !false) ∧ (true = !false) ∧ (true = true) ∧ (true = !false) ∧ (true = !false) ∧ (true = !false) ∧ (true = !false) ∧ (true = !false) ∧ (true = !false) ∧ (true = !false) ∧ (true = !false) ∧ (true = !false) ∧ (true = true)) (by kernel_rfl) (Qpanic.then (Qpanic.block (Qpanic.then (Qpanic.then (Qpanic.block (Qpanic.then Qpanic.bp)))))) rfl (by kernel_rfl) ⟨hb12, hb12, hb12, hb12, hb12, rfl, rfl, rfl, rfl, rfl, rfl, rfl, rfl, rfl, rfl, rfl, rfl, rfl, rfl, rfl, rfl, rfl, rfl, rfl, rfl⟩ hS10 ?_
        refine a_done (by kernel_rfl) ?_
        refine then_n ?_
        refine c_true (b := true) (by kernel_rfl) rfl ?_
        refine wp_seq ?_
        refine c_reg ?_
        refine q_seg (S := (fun x_ => St w x_ [Res.box blk5 [Value.int .i64 (za L (k * 6 + 0)), Value.int .i64 (za L (k * 6 + 1)), Value.int .i64 (za L (k * 6 + 2)), Value.int .i64 (za L (k * 6 + 3)), Value.int .i64 (za L (k * 6 + 4)), Value.int .i64 (za L (k * 6 + 5))] 37])) [(2, Value.bool false)] [.no] True (by kernel_rfl) trivial hS10 ?_
        refine l_nil rfl ?_
        refine then_n ?_
        refine wp_ret ?_
        refine blk_r ?_
        refine then_r ?_
        refine then_r ?_
        refine blk_r ?_
        refine then_r ?_
        obtain ⟨j, hj_k, hclj⟩ := fnd_cl1 hb12p
        exact c_end (S := (fun x_ => St w x_ [Res.box blk5 [Value.int .i64 (za L (k * 6 + 0)), Value.int .i64 (za L (k * 6 + 1)), Value.int .i64 (za L (k * 6 + 2)), Value.int .i64 (za L (k * 6 + 3)), Value.int .i64 (za L (k * 6 + 4)), Value.int .i64 (za L (k * 6 + 5))] 37])) (rs := [.tmp 2]) rfl [] (v := Value.bool false) (C := True) (by kernel_rfl) trivial hS10 ((hS10.rv (congrArg Value.bool (okR_c hk_n hj_k hclj))))
      · skip
        have hb12p := of_decide_eq_false hb12
        refine t_seg (S := (fun x_ => St w x_ [Res.box blk5 [Value.int .i64 (za L (k * 6 + 0)), Value.int .i64 (za L (k * 6 + 1)), Value.int .i64 (za L (k * 6 + 2)), Value.int .i64 (za L (k * 6 + 3)), Value.int .i64 (za L (k * 6 + 4)), Value.int .i64 (za L (k * 6 + 5))] 37])) [(14, .no), (15, .v (Value.int .i64 (za L (k * 6 + 2))))] 26 #[true, true, true, true, true, true, true, true, true, true, true, true, true, true, true, true, false, false, false, false, false, false, false, false, false, false, false, false, false, false, false, false, false, false, false, false, false, false, false, false, false, false] [(30, Value.int .i64 (za L (k * 6 + 2))), (29, Value.pointer (some ⟨blk5, 0 + 2, none⟩))] (((decide ((0 : Int) ≤ (fnd (isID L (za L (k * 6 + 0)) (za L (k * 6 + 1))) (k - 0)))) = false) ∧ ((decide ((0 : Int) ≤ (fnd (isID L (za L (k * 6 + 0)) (za L (k * 6 + 1))) (k - 0)))) = false) ∧ (LoadsAt Try.prog (fun x_ => St w x_ [Res.box blk5 [Value.int .i64 (za L (k * 6 + 0)), Value.int .i64 (za L (k * 6 + 1)), Value.int .i64 (za L (k * 6 + 2)), Value.int .i64 (za L (k * 6 + 3)), Value.int .i64 (za L (k * 6 + 4)), Value.int .i64 (za L (k * 6 + 5))] 37]) 3 ⟨blk5, 0 + 2, none⟩ (Value.int .i64 (za L (k * 6 + 2))))) (by kernel_rfl) (Qpanic.then (Qpanic.block (Qpanic.then (Qpanic.then (Qpanic.block (Qpanic.then Qpanic.bp)))))) rfl (by kernel_rfl) ⟨hb12, hb12, (ld_box (i := 0) rfl rfl (by kernel_rfl))⟩ hS10 ?_
        refine a_opg (i := 16) (fuel := 25) (listed' := #[true, true, true, true, true, true, true, true, true, true, true, true, true, true, true, true, true, false, false, false, false, false, false, false, false, false, false, false, false, false, false, false, false, false, false, false, false, false, false, false, false, false]) rfl rfl (by kernel_rfl) (by kernel_rfl) (b := (decide ((0 : Int) ≤ (fnd (isID L (za L (k * 6 + 0)) (za L (k * 6 + 1))) (k - 0))))) (want := false) (by kernel_rfl) hb12 (fun K hK => op_callv (d := some 31) rfl rfl ⟨_, Try.func37, by kernel_rfl, by kernel_rfl⟩ (vs := [Value.int .i64 (za L (k * 6 + 2)), Value.int .i64 0, Value.int .i64 3]) (by kernel_rfl) (v := Value.bool (inR (za L (k * 6 + 2)) 0 3)) (l1In_c (za L (k * 6 + 2)) 0 3 _) hS10 (fun w13 hS13 => hK _ _ (fun _ => hS13) ?_))
        clear hK K
        refine t_seg (S := (fun x_ => St w x_ [Res.box blk5 [Value.int .i64 (za L (k * 6 + 0)), Value.int .i64 (za L (k * 6 + 1)), Value.int .i64 (za L (k * 6 + 2)), Value.int .i64 (za L (k * 6 + 3)), Value.int .i64 (za L (k * 6 + 4)), Value.int .i64 (za L (k * 6 + 5))] 37])) [(17, .no), (18, .v (.bool false)), (19, .no)] 22 #[true, true, true, true, true, true, true, true, true, true, true, true, true, true, true, true, true, true, true, true, false, false, false, false, false, false, false, false, false, false, false, false, false, false, false, false, false, false, false, false, false, false] [(34, Value.bool (!(inR (za L (k * 6 + 2)) 0 3))), (33, Value.bool (!(inR (za L (k * 6 + 2)) 0 3))), (32, Value.bool (!(inR (za L (k * 6 + 2)) 0 3)))] (((decide ((0 : Int) ≤ (fnd (isID L (za L (k * 6 + 0)) (za L (k * 6 + 1))) (k - 0)))) = false) ∧ ((decide ((0 : Int) ≤ (fnd (isID L (za L (k * 6 + 0)) (za L (k * 6 + 1))) (k - 0)))) = false)) (by kernel_rfl) (Qpanic.then (Qpanic.block (Qpanic.then (Qpanic.then (Qpanic.block (Qpanic.then Qpanic.bp)))))) rfl (by kernel_rfl) ⟨hb12, hb12⟩ hS13 ?_
        rcases Bool.eq_false_or_eq_true (inR (za L (k * 6 + 2)) 0 3) with hb14 | hb14
        · skip
          obtain ⟨hb14p, hb14q⟩ := inR_iff.1 hb14
          refine t_seg (S := (fun x_ => St w x_ [Res.box blk5 [Value.int .i64 (za L (k * 6 + 0)), Value.int .i64 (za L (k * 6 + 1)), Value.int .i64 (za L (k * 6 + 2)), Value.int .i64 (za L (k * 6 + 3)), Value.int .i64 (za L (k * 6 + 4)), Value.int .i64 (za L (k * 6 + 5))] 37])) [(20, .no), (21, .v (Value.int .i64 (za L (k * 6 + 3))))] 20 #[true, true, true, true, true, true, true, true, true, true, true, true, true, true, true, true, true, true, true, true, true, true, false, false, false, false, false, false, false, false, false, false, false, false, false, false, false, false, false, false, false, false] [(36, Value.int .i64 (za L (k * 6 + 3))), (35, Value.pointer (some ⟨blk5, 0 + 3, none⟩))] (((!(inR (za L (k * 6 + 2)) 0 3)) = false) ∧ ((!(inR (za L (k * 6 + 2)) 0 3)) = false) ∧ (LoadsAt Try.prog (fun x_ => St w x_ [Res.box blk5 [Value.int .i64 (za L (k * 6 + 0)), Value.int .i64 (za L (k * 6 + 1)), Value.int .i64 (za L (k * 6 + 2)), Value.int .i64 (za L (k * 6 + 3)), Value.int .i64 (za L (k * 6 + 4)), Value.int .i64 (za L (k * 6 + 5))] 37]) 3 ⟨blk5, 0 + 3, none⟩ (Value.int .i64 (za L (k * 6 + 3))))) (by kernel_rfl) (Qpanic.then (Qpanic.block (Qpanic.then (Qpanic.then (Qpanic.block (Qpanic.then Qpanic.bp)))))) rfl (by kernel_rfl) ⟨(nb (v := true) hb14), (nb (v := true) hb14), (ld_box (i := 0) rfl rfl (by kernel_rfl))⟩ hS13 ?_
          refine a_opg (i := 22) (fuel := 19) (listed' := #[true, true, true, true, true, true, true, true, true, true, true, true, true, true, true, true, true, true, true, true, true, true, true, false, false, false, false, false, false, false, false, false, false, false, false, false, false, false, false, false, false, false]) rfl rfl (by kernel_rfl) (by kernel_rfl) (b := (!(inR (za L (k * 6 + 2)) 0 3))) (want := false) (by kernel_rfl) (nb (v := true) hb14) (fun K hK => op_callv (d := some 37) rfl rfl ⟨_, Try.func37, by kernel_rfl, by kernel_rfl⟩ (vs := [Value.int .i64 (za L (k * 6 + 3)), Value.int .i64 0, Value.int .i64 2]) (by kernel_rfl) (v := Value.bool (inR (za L (k * 6 + 3)) 0 2)) (l1In_c (za L (k * 6 + 3)) 0 2 _) hS13 (fun w15 hS15 => hK _ _ (fun _ => hS15) ?_))
          clear hK K
          refine t_seg (S := (fun x_ => St w x_ [Res.box blk5 [Value.int .i64 (za L (k * 6 + 0)), Value.int .i64 (za L (k * 6 + 1)), Value.int .i64 (za L (k * 6 + 2)), Value.int .i64 (za L (k * 6 + 3)), Value.int .i64 (za L (k * 6 + 4)), Value.int .i64 (za L (k * 6 + 5))] 37])) [(23, .no), (24, .v (.bool false)), (25, .no)] 16 #[true, true, true, true, true, true, true, true, true, true, true, true, true, true, true, true, true, true, true, true, true, true, true, true, true, true, false, false, false, false, false, false, false, false, false, false, false, false, false, false, false, false] [(40, Value.bool (!(inR (za L (k * 6 + 3)) 0 2))), (39, Value.bool (!(inR (za L (k * 6 + 3)) 0 2))), (38, Value.bool (!(inR (za L (k * 6 + 3)) 0 2)))] (((!(inR (za L (k * 6 + 2)) 0 3)) = false) ∧ ((!(inR (za L (k * 6 + 2)) 0 3)) = false)) (by kernel_rfl) (Qpanic.then (Qpanic.block (Qpanic.then (Qpanic.then (Qpanic.block (Qpanic.then Qpanic.bp)))))) rfl (by kernel_rfl) ⟨(nb (v := true) hb14), (nb (v := true) hb14)⟩ hS15 ?_
          rcases Bool.eq_false_or_eq_true (inR (za L (k * 6 + 3)) 0 2) with hb16 | hb16
          · skip
            obtain ⟨hb16p, hb16q⟩ := inR_iff.1 hb16
            refine t_seg (S := (fun x_ => St w x_ [Res.box blk5 [Value.int .i64 (za L (k * 6 + 0)), Value.int .i64 (za L (k * 6 + 1)), Value.int .i64 (za L (k * 6 + 2)), Value.int .i64 (za L (k * 6 + 3)), Value.int .i64 (za L (k * 6 + 4)), Value.int .i64 (za L (k * 6 + 5))] 37])) [(26, .no), (27, .v (Value.agg #[Value.int .i64 (za L (k * 6 + 4)), Value.int .i64 (za L (k * 6 + 5))]))] 14 #[true, true, true, true, true, true, true, true, true, true, true, true, true, true, true, true, true, true, true, true, true, true, true, true, true, true, true, true, false, false, false, false, false, false, false, false, false, false, false, false, false, false] [(42, Value.agg #[Value.int .i64 (za L (k * 6 + 4)), Value.int .i64 (za L (k * 6 + 5))]), (41, Value.pointer (some ⟨blk5, 0 + 4, none⟩))] (((!(inR (za L (k * 6 + 3)) 0 2)) = false) ∧ ((!(inR (za L (k * 6 + 3)) 0 2)) = false) ∧ (LoadsAt Try.prog (fun x_ => St w x_ [Res.box blk5 [Value.int .i64 (za L (k * 6 + 0)), Value.int .i64 (za L (k * 6 + 1)), Value.int .i64 (za L (k * 6 + 2)), Value.int .i64 (za L (k * 6 + 3)), Value.int .i64 (za L (k * 6 + 4)), Value.int .i64 (za L (k * 6 + 5))] 37]) 35 ⟨blk5, 0 + 4, none⟩ (Value.agg #[Value.int .i64 (za L (k * 6 + 4)), Value.int .i64 (za L (k * 6 + 5))]))) (by kernel_rfl) (Qpanic.then (Qpanic.block (Qpanic.then (Qpanic.then (Qpanic.block (Qpanic.then Qpanic.bp)))))) rfl (by kernel_rfl) ⟨(nb (v := true) hb16), (nb (v := true) hb16), (ld_boxN (i := 0) (k := 2) rfl rfl rfl (by kernel_rfl))⟩ hS15 ?_
            refine a_opg (i := 28) (fuel := 13) (listed' := #[true, true, true, true, true, true, true, true, true, true, true, true, true, true, true, true, true, true, true, true, true, true, true, true, true, true, true, true, true, false, false, false, false, false, false, false, false, false, false, false, false, false]) rfl rfl (by kernel_rfl) (by kernel_rfl) (b := (!(inR (za L (k * 6 + 3)) 0 2))) (want := false) (by kernel_rfl) (nb (v := true) hb16) (fun K hK => op_callv (d := some 43) rfl rfl ⟨_, Try.func38, by kernel_rfl, by kernel_rfl⟩ (vs := [Value.agg #[Value.int .i64 (za L (k * 6 + 4)), Value.int .i64 (za L (k * 6 + 5))]]) (by kernel_rfl) (v := Value.bool (vtmp (za L (k * 6 + 4)) (za L (k * 6 + 5)))) (IsValidTempID_s_c (za L (k * 6 + 4)) (za L (k * 6 + 5))  _) hS15 (fun w17 hS17 => hK _ _ (fun _ => hS17) ?_))
            clear hK K
            refine t_seg (S := (fun x_ => St w x_ [Res.box blk5 [Value.int .i64 (za L (k * 6 + 0)), Value.int .i64 (za L (k * 6 + 1)), Value.int .i64 (za L (k * 6 + 2)), Value.int .i64 (za L (k * 6 + 3)), Value.int .i64 (za L (k * 6 + 4)), Value.int .i64 (za L (k * 6 + 5))] 37])) [(29, .no), (30, .v (.bool false)), (31, .no)] 10 #[true, true, true, true, true, true, true, true, true, true, true, true, true, true, true, true, true, true, true, true, true, true, true, true, true, true, true, true, true, true, true, true, false, false, false, false, false, false, false, false, false, false] [(46, Value.bool (!(vtmp (za L (k * 6 + 4)) (za L (k * 6 + 5))))), (45, Value.bool (!(vtmp (za L (k * 6 + 4)) (za L (k * 6 + 5))))), (44, Value.bool (!(vtmp (za L (k * 6 + 4)) (za L (k * 6 + 5)))))] (((!(inR (za L (k * 6 + 3)) 0 2)) = false) ∧ ((!(inR (za L (k * 6 + 3)) 0 2)) = false)) (by kernel_rfl) (Qpanic.then (Qpanic.block (Qpanic.then (Qpanic.then (Qpanic.block (Qpanic.then Qpanic.bp)))))) rfl (by kernel_rfl) ⟨(nb (v := true) hb16), (nb (v := true) hb16)⟩ hS17 ?_
            rcases Bool.eq_false_or_eq_true (vtmp (za L (k * 6 + 4)) (za L (k * 6 + 5))) with hb18 | hb18
            · skip
              refine t_seg (S := (fun x_ => St w x_ [Res.box blk5 [Value.int .i64 (za L (k * 6 + 0)), Value.int .i64 (za L (k * 6 + 1)), Value.int .i64 (za L (k * 6 + 2)), Value.int .i64 (za L (k * 6 + 3)), Value.int .i64 (za L (k * 6 + 4)), Value.int .i64 (za L (k * 6 + 5))] 37])) [(32, .no), (33, .no), (35, .no), (37, .no), (34, .no), (36, .v (Value.int .i64 (za L (k * 6 + 2)))), (38, .v (Value.agg #[Value.int .i64 (za L (k * 6 + 4)), Value.int .i64 (za L (k * 6 + 5))]))] 3 #[true, true, true, true, true, true, true, true, true, true, true, true, true, true, true, true, true, true, true, true, true, true, true, true, true, true, true, true, true, true, true, true, true, true, true, true, true, true, true, false, false, false] [(53, Value.agg #[Value.int .i64 (za L (k * 6 + 4)), Value.int .i64 (za L (k * 6 + 5))]), (51, Value.int .i64 (za L (k * 6 + 2))), (49, Value.slice (cutA (some ⟨bA, offA, none⟩) c 0 6) (k - 0) (c - 0)), (52, Value.pointer (some ⟨blk5, 0 + 4, none⟩)), (50, Value.pointer (some ⟨blk5, 0 + 2, none⟩)), (48, Value.int .i64 ((k : Nat) : Int)), (47, Value.slice (some ⟨bA, offA, none⟩) n c)] (((!(vtmp (za L (k * 6 + 4)) (za L (k * 6 + 5)))) = false) ∧ ((!(vtmp (za L (k * 6 + 4)) (za L (k * 6 + 5)))) = false) ∧ ((!(vtmp (za L (k * 6 + 4)) (za L (k * 6 + 5)))) = false) ∧ ((!(vtmp (za L (k * 6 + 4)) (za L (k * 6 + 5)))) = false) ∧ ((!(vtmp (za L (k * 6 + 4)) (za L (k * 6 + 5)))) = false) ∧ ((0 : Int) ≤ (0 : Int)) ∧ ((0 : Int) ≤ ((k : Nat) : Int)) ∧ (((k : Nat) : Int) ≤ ((c : Nat) : Int)) ∧ (n ≤ c) ∧ ((!(vtmp (za L (k * 6 + 4)) (za L (k * 6 + 5)))) = false) ∧ (LoadsAt Try.prog (fun x_ => St w x_ [Res.box blk5 [Value.int .i64 (za L (k * 6 + 0)), Value.int .i64 (za L (k * 6 + 1)), Value.int .i64 (za L (k * 6 + 2)), Value.int .i64 (za L (k * 6 + 3)), Value.int .i64 (za L (k * 6 + 4)), Value.int .i64 (za L (k * 6 + 5))] 37]) 3 ⟨blk5, 0 + 2, none⟩ (Value.int .i64 (za L (k * 6 + 2)))) ∧ ((!(vtmp (za L (k * 6 + 4)) (za L (k * 6 + 5)))) = false) ∧ (LoadsAt Try.prog (fun x_ => St w x_ [Res.box blk5 [Value.int .i64 (za L (k * 6 + 0)), Value.int .i64 (za L (k * 6 + 1)), Value.int .i64 (za L (k * 6 + 2)), Value.int .i64 (za L (k * 6 + 3)), Value.int .i64 (za L (k * 6 + 4)), Value.int .i64 (za L (k * 6 + 5))] 37]) 35 ⟨blk5, 0 + 4, none⟩ (Value.agg #[Value.int .i64 (za L (k * 6 + 4)), Value.int .i64 (za L (k * 6 + 5))]))) (by kernel_rfl) (Qpanic.then (Qpanic.block (Qpanic.then (Qpanic.then (Qpanic.block (Qpanic.then Qpanic.bp)))))) rfl (by kernel_rfl) ⟨(nb (v := true) hb18), (nb (v := true) hb18), (nb (v := true) hb18), (nb (v := true) hb18), (nb (v := true) hb18), (by omega), (by omega), (by omega), (by omega), (nb (v := true) hb18), (ld_box (i := 0) rfl rfl (by kernel_rfl)), (nb (v := true) hb18), (ld_boxN (i := 0) (k := 2) rfl rfl rfl (by kernel_rfl))⟩ hS17 ?_
              refine a_opg (i := 39) (fuel := 2) (listed' := #[true, true, true, true, true, true, true, true, true, true, true, true, true, true, true, true, true, true, true, true, true, true, true, true, true, true, true, true, true, true, true, true, true, true, true, true, true, true, true, true, false, false]) rfl rfl (by kernel_rfl) (by kernel_rfl) (b := (!(vtmp (za L (k * 6 + 4)) (za L (k * 6 + 5))))) (want := false) (by kernel_rfl) (nb (v := true) hb18) (fun K hK => op_callv (d := some 54) rfl rfl ⟨_, Try.func39, by kernel_rfl, by kernel_rfl⟩ (vs := [Value.slice (cutA (some ⟨bA, offA, none⟩) c 0 6) (k - 0) (c - 0), Value.int .i64 (za L (k * 6 + 2)), Value.agg #[Value.int .i64 (za L (k * 6 + 4)), Value.int .i64 (za L (k * 6 + 5))]]) (by kernel_rfl) (v := Value.int .i64 (fnd (isTM L (za L (k * 6 + 2)) (za L (k * 6 + 4)) (za L (k * 6 + 5))) (k - 0))) (TempS_c (cutA (some ⟨bA, offA, none⟩) c 0 6) (k - 0) (c - 0) N L (za L (k * 6 + 2)) (za L (k * 6 + 4)) (za L (k * 6 + 5)) w17 (by omega) (by omega) (rd_cut0 (hS17.rdlow hr) (by omega))) hS17 (fun w19 hS19 => hK _ _ (fun _ => hS19) ?_))
              clear hK K
              have hfq20 := fnd_bd (isTM L (za L (k * 6 + 2)) (za L (k * 6 + 4)) (za L (k * 6 + 5))) (k - 0)
              refine t_seg (S := (fun x_ => St w x_ [Res.box blk5 [Value.int .i64 (za L (k * 6 + 0)), Value.int .i64 (za L (k * 6 + 1)), Value.int .i64 (za L (k * 6 + 2)), Value.int .i64 (za L (k * 6 + 3)), Value.int .i64 (za L (k * 6 + 4)), Value.int .i64 (za L (k * 6 + 5))] 37])) [(40, .no), (41, .v (.bool false))] 0 #[true, true, true, true, true, true, true, true, true, true, true, true, true, true, true, true, true, true, true, true, true, true, true, true, true, true, true, true, true, true, true, true, true, true, true, true, true, true, true, true, true, true] [(56, Value.bool (decide ((0 : Int) ≤ (fnd (isTM L (za L (k * 6 + 2)) (za L (k * 6 + 4)) (za L (k * 6 + 5))) (k - 0))))), (55, Value.bool (decide ((0 : Int) ≤ (fnd (isTM L (za L (k * 6 + 2)) (za L (k * 6 + 4)) (za L (k * 6 + 5))) (k - 0)))))] (((!(vtmp (za L (k * 6 + 4)) (za L (k * 6 + 5)))) = false) ∧ ((!(vtmp (za L (k * 6 + 4)) (za L (k * 6 + 5)))) = false)) (by kernel_rfl) (Qpanic.then (Qpanic.block (Qpanic.then (Qpanic.then (Qpanic.block (Qpanic.then Qpanic.bp)))))) rfl (by kernel_rfl) ⟨(nb (v := true) hb18), (nb (v := true) hb18)⟩ hS19 ?_
              refine a_done (by kernel_rfl) ?_
              refine then_n ?_
              rcases Bool.eq_false_or_eq_true (decide ((0 : Int) ≤ (fnd (isTM L (za L (k * 6 + 2)) (za L (k * 6 + 4)) (za L (k * 6 + 5))) (k - 0)))) with hb21 | hb21
              · skip
                have hb21p := of_decide_eq_true hb21
                refine c_true (b := (decide ((0 : Int) ≤ (fnd (isTM L (za L (k * 6 + 2)) (za L (k * 6 + 4)) (za L (k * 6 + 5))) (k - 0))))) (by kernel_rfl) hb21 ?_
                refine wp_seq ?_
                refine c_reg ?_
                refine q_seg (S := (fun x_ => St w x_ [Res.box blk5 [Value.int .i64 (za L (k * 6 + 0)), Value.int .i64 (za L (k * 6 + 1)), Value.int .i64 (za L (k * 6 + 2)), Value.int .i64 (za L (k * 6 + 3)), Value.int .i64 (za L (k * 6 + 4)), Value.int .i64 (za L (k * 6 + 5))] 37])) [(2, Value.bool false)] [.no] True (by kernel_rfl) trivial hS19 ?_
                refine l_nil rfl ?_
                refine then_n ?_
                refine wp_ret ?_
                refine blk_r ?_
                refine then_r ?_
                refine then_r ?_
                refine blk_r ?_
                refine then_r ?_
                obtain ⟨j, hj_k, hclj⟩ := fnd_cl2 hb21p
                exact c_end (S := (fun x_ => St w x_ [Res.box blk5 [Value.int .i64 (za L (k * 6 + 0)), Value.int .i64 (za L (k * 6 + 1)), Value.int .i64 (za L (k * 6 + 2)), Value.int .i64 (za L (k * 6 + 3)), Value.int .i64 (za L (k * 6 + 4)), Value.int .i64 (za L (k * 6 + 5))] 37])) (rs := [.tmp 2]) rfl [] (v := Value.bool false) (C := True) (by kernel_rfl) trivial hS19 ((hS19.rv (congrArg Value.bool (okR_c hk_n hj_k hclj))))
              · skip
                have hb21p := of_decide_eq_false hb21
                refine c_false (b := (decide ((0 : Int) ≤ (fnd (isTM L (za L (k * 6 + 2)) (za L (k * 6 + 4)) (za L (k * 6 + 5))) (k - 0))))) (by kernel_rfl) hb21 ?_
                refine wp_skip ?_
                refine blk_n ?_
                refine then_n ?_
                refine c_reg ?_
                refine q_seg (S := (fun x_ => St w x_ [Res.box blk5 [Value.int .i64 (za L (k * 6 + 0)), Value.int .i64 (za L (k * 6 + 1)), Value.int .i64 (za L (k * 6 + 2)), Value.int .i64 (za L (k * 6 + 3)), Value.int .i64 (za L (k * 6 + 4)), Value.int .i64 (za L (k * 6 + 5))] 37])) [(3, Value.int .i64 (((k : Nat) : Int) + (1 : Int))), (10, Value.int .i64 (((k : Nat) : Int) + (1 : Int))), (9, Value.int .i64 ((k : Nat) : Int))] [.no, .no, .no] ((InK .i64 (((k : Nat) : Int) + (1 : Int)))) (by kernel_rfl) (in64 (by omega) (by omega)) hS19 ?_
                refine l_nil rfl ?_
                refine then_n ?_
                refine round_end (k + 1) ?_ ?_ ?_
                · exact (agree_cons (by kernel_rfl) (agree_cons (by kernel_rfl) agree_nil))
                · exact ⟨(by omega), (step_good hgood ⟨(by unfold okE; rw [hb9, hb14, hb16, hb18]; first | rfl | simp), ne_fnd hb12p hb21p⟩), hS19.drop⟩
                · exact (by first | omega | (dsimp only; omega))
            · skip
              refine t_seg (S := (fun x_ => St w x_ [Res.box blk5 [Value.int .i64 (za L (k * 6 + 0)), Value.int .i64 (za L (k * 6 + 1)), Value.int .i64 (za L (k * 6 + 2)), Value.int .i64 (za L (k * 6 + 3)), Value.int .i64 (za L (k * 6 + 4)), Value.int .i64 (za L (k * 6 + 5))] 37])) [(32, .skip), (33, .skip), (35, .skip), (37, .skip), (34, .skip), (36, .skip), (38, .skip), (39, .skip), (40, .skip), (41, .v (.bool true))] 0 #[true, true, true, true, true, true, true, true, true, true, true, true, true, true, true, true, true, true, true, true, true, true, true, true, true, true, true, true, true, true, true, true, true, true, true, true, true, true, true, true, true, true] [(56, Value.bool true), (55, undef), (54, undef), (53, undef), (51, undef), (49, undef), (52, undef), (50, undef), (48, undef), (47, undef)] (((!(vtmp (za L (k * 6 + 4)) (za L (k * 6 + 5)))) = !false) ∧ ((!(vtmp (za L (k * 6 + 4)) (za L (k * 6 + 5)))) = !false) ∧ ((!(vtmp (za L (k * 6 + 4)) (za L (k * 6 + 5)))) = !false) ∧ ((!(vtmp (za L (k * 6 + 4)) (za L (k * 6 + 5)))) = !false) ∧ ((!(vtmp (za L (k * 6 + 4)) (za L (k * 6 + 5)))) = !false) ∧ ((!(vtmp (za L (k * 6 + 4)) (za L (k * 6 + 5)))) = !false) ∧ ((!(vtmp (za L (k * 6 + 4)) (za L (k * 6 + 5)))) = !false) ∧ ((!(vtmp (za L (k * 6 + 4)) (za L (k * 6 + 5)))) = !false) ∧ ((!(vtmp (za L (k * 6 + 4)) (za L (k * 6 + 5)))) = !false) ∧ ((!(vtmp (za L (k * 6 + 4)) (za L (k * 6 + 5)))) = true)) (by kernel_rfl) (Qpanic.then (Qpanic.block (Qpanic.then (Qpanic.then (Qpanic.block (Qpanic.then Qpanic.bp)))))) rfl (by kernel_rfl) ⟨(nb (v := false) hb18), (nb (v := false) hb18), (nb (v := false) hb18), (nb (v := false) hb18), (nb (v := false) hb18), (nb (v := false) hb18), (nb (v := false) hb18), (nb (v := false) hb18), (nb (v := false) hb18), (nb (v := false) hb18)⟩ hS17 ?_
              refine a_done (by kernel_rfl) ?_
              refine then_n ?_
              refine c_true (b := true) (by kernel_rfl) rfl ?_
              refine wp_seq ?_
              refine c_reg ?_
              refine q_seg (S := (fun x_ => St w x_ [Res.box blk5 [Value.int .i64 (za L (k * 6 + 0)), Value.int .i64 (za L (k * 6 + 1)), Value.int .i64 (za L (k * 6 + 2)), Value.int .i64 (za L (k * 6 + 3)), Value.int .i64 (za L (k * 6 + 4)), Value.int .i64 (za L (k * 6 + 5))] 37])) [(2, Value.bool false)] [.no] True (by kernel_rfl) trivial hS17 ?_
              refine l_nil rfl ?_
              refine then_n ?_
              refine wp_ret ?_
              refine blk_r ?_
              refine then_r ?_
              refine then_r ?_
              refine blk_r ?_
              refine then_r ?_
              exact c_end (S := (fun x_ => St w x_ [Res.box blk5 [Value.int .i64 (za L (k * 6 + 0)), Value.int .i64 (za L (k * 6 + 1)), Value.int .i64 (za L (k * 6 + 2)), Value.int .i64 (za L (k * 6 + 3)), Value.int .i64 (za L (k * 6 + 4)), Value.int .i64 (za L (k * 6 + 5))] 37])) (rs := [.tmp 2]) rfl [] (v := Value.bool false) (C := True) (by kernel_rfl) trivial hS17 ((hS17.rv (congrArg Value.bool (okR_e hk_n (by unfold okE; rw [hb9, hb14, hb16, hb18]; first | rfl | simp)))))
          · skip
            have hb16p := inR_neg hb16
            refine t_seg (S := (fun x_ => St w x_ [Res.box blk5 [Value.int .i64 (za L (k * 6 + 0)), Value.int .i64 (za L (k * 6 + 1)), Value.int .i64 (za L (k * 6 + 2)), Value.int .i64 (za L (k * 6 + 3)), Value.int .i64 (za L (k * 6 + 4)), Value.int .i64 (za L (k * 6 + 5))] 37])) [(26, .skip), (27, .skip), (28, .skip), (29, .skip), (30, .v (.bool true)), (31, .no), (32, .skip), (33, .skip), (35, .skip), (37, .skip), (34, .skip), (36, .skip), (38, .skip), (39, .skip), (40, .skip), (41, .v (.bool true))] 0 #[true, true, true, true, true, true, true, true, true, true, true, true, true, true, true, true, true, true, true, true, true, true, true, true, true, true, true, true, true, true, true, true, true, true, true, true, true, true, true, true, true, true] [(56, Value.bool true), (55, undef), (54, undef), (53, undef), (51, undef), (49, undef), (52, undef), (50, undef), (48, undef), (47, undef), (46, Value.bool true), (45, Value.bool true), (44, undef), (43, undef), (42, undef), (41, undef)] (((!(inR (za L (k * 6 + 3)) 0 2)) = !false) ∧ ((!(inR (za L (k * 6 + 3)) 0 2)) = !false) ∧ ((!(inR (za L (k * 6 + 3)) 0 2)) = !false) ∧ ((!(inR (za L (k * 6 + 3)) 0 2)) = !false) ∧ ((!(inR (za L (k * 6 + 3)) 0 2)) = true) ∧ (true = !false) ∧ (true = !false) ∧ (true = !false) ∧ (true = !false) ∧ (true = !false) ∧ (true = !false) ∧ (true = !false) ∧ (true = !false) ∧ (true = !false) ∧ (true = true)) (by kernel_rfl) (Qpanic.then (Qpanic.block (Qpanic.then (Qpanic.then (Qpanic.block (Qpanic.then Qpanic.bp)))))) rfl (by kernel_rfl) ⟨(nb (v := false) hb16), (nb (v := false) hb16), (nb (v := false) hb16), (nb (v := false) hb16), (nb (v := false) hb16), rfl, rfl, rfl, rfl, rfl, rfl, rfl, rfl, rfl, rfl⟩ hS15 ?_
            refine a_done (by kernel_rfl) ?_
            refine then_n ?_
            refine c_true (b := true) (by kernel_rfl) rfl ?_
            refine wp_seq ?_
            refine c_reg ?_
            refine q_seg (S := (fun x_ => St w x_ [Res.box blk5 [Value.int .i64 (za L (k * 6 + 0)), Value.int .i64 (za L (k * 6 + 1)), Value.int .i64 (za L (k * 6 + 2)), Value.int .i64 (za L (k * 6 + 3)), Value.int .i64 (za L (k * 6 + 4)), Value.int .i64 (za L (k * 6 + 5))] 37])) [(2, Value.bool false)] [.no] True (by kernel_rfl) trivial hS15 ?_
            refine l_nil rfl ?_
            refine then_n ?_
            refine wp_ret ?_
            refine blk_r ?_
            refine then_r ?_
            refine then_r ?_
            refine blk_r ?_
            refine then_r ?_
            exact c_end (S := (fun x_ => St w x_ [Res.box blk5 [Value.int .i64 (za L (k * 6 + 0)), Value.int .i64 (za L (k * 6 + 1)), Value.int .i64 (za L (k * 6 + 2)), Value.int .i64 (za L (k * 6 + 3)), Value.int .i64 (za L (k * 6 + 4)), Value.int .i64 (za L (k * 6 + 5))] 37])) (rs := [.tmp 2]) rfl [] (v := Value.bool false) (C := True) (by kernel_rfl) trivial hS15 ((hS15.rv (congrArg Value.bool (okR_e hk_n (by unfold okE; rw [hb9, hb14, hb16]; first | rfl | simp)))))
        · skip
          have hb14p := inR_neg hb14
          refine t_seg (S := (fun x_ => St w x_ [Res.box blk5 [Value.int .i64 (za L (k * 6 + 0)), Value.int .i64 (za L (k * 6 + 1)), Value.int .i64 (za L (k * 6 + 2)), Value.int .i64 (za L (k * 6 + 3)), Value.int .i64 (za L (k * 6 + 4)), Value.int .i64 (za L (k * 6 + 5))] 37])) [(20, .skip), (21, .skip), (22, .skip), (23, .skip), (24, .v (.bool true)), (25, .no), (26, .skip), (27, .skip), (28, .skip), (29, .skip), (30, .v (.bool true)), (31, .no), (32, .skip), (33, .skip), (35, .skip), (37, .skip), (34, .skip), (36, .skip), (38, .skip), (39, .skip), (40, .skip), (41, .v (.bool true))] 0 #[true, true, true, true, true, true, true, true, true, true, true, true, true, true, true, true, true, true, true, true, true, true, true, true, true, true, true, true, true, true, true, true, true, true, true, true, true, true, true, true, true, true] [(56, Value.bool true), (55, undef), (54, undef), (53, undef), (51, undef), (49, undef), (52, undef), (50, undef), (48, undef), (47, undef), (46, Value.bool true), (45, Value.bool true), (44, undef), (43, undef), (42, undef), (41, undef), (40, Value.bool true), (39, Value.bool true), (38, undef), (37, undef), (36, undef), (35, undef)] (((!(inR (za L (k * 6 + 2)) 0 3)) = !false) ∧ ((!(inR (za L (k * 6 + 2)) 0 3)) = !false) ∧ ((!(inR (za L (k * 6 + 2)) 0 3)) = !false) ∧ ((!(inR (za L (k * 6 + 2)) 0 3)) = !false) ∧ ((!(inR (za L (k * 6 + 2)) 0 3)) = true) ∧ (true = !false) ∧ (true = !false) ∧ (true = !false) ∧ (true = !false) ∧ (true = true) ∧ (true = !false) ∧ (true = !false) ∧ (true = !false) ∧ (true = !false) ∧ (true = !false) ∧ (true = !false) ∧ (true = !false) ∧ (true = !false) ∧ (true = !false) ∧ (true = true)) (by kernel_rfl) (Qpanic.then (Qpanic.block (Qpanic.then (Qpanic.then (Qpanic.block (Qpanic.then Qpanic.bp)))))) rfl (by kernel_rfl) ⟨(nb (v := false) hb14), (nb (v := false) hb14), (nb (v := false) hb14), (nb (v := false) hb14), (nb (v := false) hb14), rfl, rfl, rfl, rfl, rfl, rfl, rfl, rfl, rfl, rfl, rfl, rfl, rfl, rfl, rfl⟩ hS13 ?_
          refine a_done (by kernel_rfl) ?_
          refine then_n ?_
          refine c_true (b := true) (by kernel_rfl) rfl ?_
          refine wp_seq ?_
          refine c_reg ?_
          refine q_seg (S := (fun x_ => St w x_ [Res.box blk5 [Value.int .i64 (za L (k * 6 + 0)), Value.int .i64 (za L (k * 6 + 1)), Value.int .i64 (za L (k * 6 + 2)), Value.int .i64 (za L (k * 6 + 3)), Value.int .i64 (za L (k * 6 + 4)), Value.int .i64 (za L (k * 6 + 5))] 37])) [(2, Value.bool false)] [.no] True (by kernel_rfl) trivial hS13 ?_
          refine l_nil rfl ?_
          refine then_n ?_
          refine wp_ret ?_
          refine blk_r ?_
          refine then_r ?_
          refine then_r ?_
          refine blk_r ?_
          refine then_r ?_
          exact c_end (S := (fun x_ => St w x_ [Res.box blk5 [Value.int .i64 (za L (k * 6 + 0)), Value.int .i64 (za L (k * 6 + 1)), Value.int .i64 (za L (k * 6 + 2)), Value.int .i64 (za L (k * 6 + 3)), Value.int .i64 (za L (k * 6 + 4)), Value.int .i64 (za L (k * 6 + 5))] 37])) (rs := [.tmp 2]) rfl [] (v := Value.bool false) (C := True) (by kernel_rfl) trivial hS13 ((hS13.rv (congrArg Value.bool (okR_e hk_n (by unfold okE; rw [hb9, hb14]; first | rfl | simp)))))
    · skip
      refine t_seg (S := (fun x_ => St w x_ [Res.box blk5 [Value.int .i64 (za L (k * 6 + 0)), Value.int .i64 (za L (k * 6 + 1)), Value.int .i64 (za L (k * 6 + 2)), Value.int .i64 (za L (k * 6 + 3)), Value.int .i64 (za L (k * 6 + 4)), Value.int .i64 (za L (k * 6 + 5))] 37])) [(5, .skip), (6, .skip), (8, .skip), (7, .skip), (9, .skip), (10, .skip), (11, .skip), (12, .v (.bool true)), (13, .no), (14, .skip), (15, .skip), (16, .skip), (17, .skip), (18, .v (.bool true)), (19, .no), (20, .skip), (21, .skip), (22, .skip), (23, .skip), (24, .v (.bool true)), (25, .no), (26, .skip), (27, .skip), (28, .skip), (29, .skip), (30, .v (.bool true)), (31, .no), (32, .skip), (33, .skip), (35, .skip), (37, .skip), (34, .skip), (36, .skip), (38, .skip), (39, .skip), (40, .skip), (41, .v (.bool true))] 0 #[true, true, true, true, true, true, true, true, true, true, true, true, true, true, true, true, true, true, true, true, true, true, true, true, true, true, true, true, true, true, true, true, true, true, true, true, true, true, true, true, true, true] [(56, Value.bool true), (55, undef), (54, undef), (53, undef), (51, undef), (49, undef), (52, undef), (50, undef), (48, undef), (47, undef), (46, Value.bool true), (45, Value.bool true), (44, undef), (43, undef), (42, undef), (41, undef), (40, Value.bool true), (39, Value.bool true), (38, undef), (37, undef), (36, undef), (35, undef), (34, Value.bool true), (33, Value.bool true), (32, undef), (31, undef), (30, undef), (29, undef), (28, Value.bool true), (27, Value.bool true), (26, undef), (25, undef), (24, undef), (22, undef), (23, undef), (21, undef), (20, undef)] (((!(vsub (za L (k * 6 + 0)) (za L (k * 6 + 1)))) = !false) ∧ ((!(vsub (za L (k * 6 + 0)) (za L (k * 6 + 1)))) = !false) ∧ ((!(vsub (za L (k * 6 + 0)) (za L (k * 6 + 1)))) = !false) ∧ ((!(vsub (za L (k * 6 + 0)) (za L (k * 6 + 1)))) = !false) ∧ ((!(vsub (za L (k * 6 + 0)) (za L (k * 6 + 1)))) = !false) ∧ ((!(vsub (za L (k * 6 + 0)) (za L (k * 6 + 1)))) = !false) ∧ ((!(vsub (za L (k * 6 + 0)) (za L (k * 6 + 1)))) = !false) ∧ ((!(vsub (za L (k * 6 + 0)) (za L (k * 6 + 1)))) = true) ∧ (true = !false) ∧ (true = !false) ∧ (true = !false) ∧ (true = !false) ∧ (true = true) ∧ (true = !false) ∧ (true = !false) ∧ (true = !false) ∧ (true = !false) ∧ (true = true) ∧ (true = !false) ∧ (true = !false) ∧ (true = !false) ∧ (true = !false) ∧ (true = true) ∧ (true = !false) ∧ (true = !false) ∧ (true = !false) ∧ (true = !false) ∧ (true = !false) ∧ (true = !false) ∧ (true = !false) ∧ (true = !false) ∧ (true = !false) ∧ (true = true)) (by kernel_rfl) (Qpanic.then (Qpanic.block (Qpanic.then (Qpanic.then (Qpanic.block (Qpanic.then Qpanic.bp)))))) rfl (by kernel_rfl) ⟨(nb (v := false) hb9), (nb (v := false) hb9), (nb (v := false) hb9), (nb (v := false) hb9), (nb (v := false) hb9), (nb (v := false) hb9), (nb (v := false) hb9), (nb (v := false) hb9), rfl, rfl, rfl, rfl, rfl, rfl, rfl, rfl, rfl, rfl, rfl, rfl, rfl, rfl, rfl, rfl, rfl, rfl, rfl, rfl, rfl, rfl, rfl, rfl, rfl⟩ hS8 ?_
      refine a_done (by kernel_rfl) ?_
      refine then_n ?_
      refine c_true (b := true) (by kernel_rfl) rfl ?_
      refine wp_seq ?_
      refine c_reg ?_
      refine q_seg (S := (fun x_ => St w x_ [Res.box blk5 [Value.int .i64 (za L (k * 6 + 0)), Value.int .i64 (za L (k * 6 + 1)), Value.int .i64 (za L (k * 6 + 2)), Value.int .i64 (za L (k * 6 + 3)), Value.int .i64 (za L (k * 6 + 4)), Value.int .i64 (za L (k * 6 + 5))] 37])) [(2, Value.bool false)] [.no] True (by kernel_rfl) trivial hS8 ?_
      refine l_nil rfl ?_
      refine then_n ?_
      refine wp_ret ?_
      refine blk_r ?_
      refine then_r ?_
      refine then_r ?_
      refine blk_r ?_
      refine then_r ?_
      exact c_end (S := (fun x_ => St w x_ [Res.box blk5 [Value.int .i64 (za L (k * 6 + 0)), Value.int .i64 (za L (k * 6 + 1)), Value.int .i64 (za L (k * 6 + 2)), Value.int .i64 (za L (k * 6 + 3)), Value.int .i64 (za L (k * 6 + 4)), Value.int .i64 (za L (k * 6 + 5))] 37])) (rs := [.tmp 2]) rfl [] (v := Value.bool false) (C := True) (by kernel_rfl) trivial hS8 ((hS8.rv (congrArg Value.bool (okR_e hk_n (by unfold okE; rw [hb9]; first | rfl | simp)))))
  · skip
    have hb3p := of_decide_eq_false hb3
    refine c_false (b := (decide (((k : Nat) : Int) < ((n : Nat) : Int)))) (by kernel_rfl) hb3 ?_
    refine wp_exit ?_
    refine then_x ?_
    refine then_x ?_
    refine blk_hit ?_
    refine then_n ?_
    refine wp_seq ?_
    refine c_reg ?_
    refine q_seg (S := (fun x_ => St w x_ [])) [(2, Value.bool (decide (((n : Nat) : Int) ≤ (8 : Int)))), (59, Value.bool (decide (((n : Nat) : Int) ≤ (8 : Int)))), (58, Value.int .i64 ((n : Nat) : Int)), (57, Value.slice A n c)] [.no, .no, .no, .no] True (by kernel_rfl) trivial hS1 ?_
    refine l_nil rfl ?_
    refine then_n ?_
    refine wp_ret ?_
    exact c_end (S := (fun x_ => St w x_ [])) (rs := [.tmp 2]) rfl [] (v := Value.bool (decide (((n : Nat) : Int) ≤ (8 : Int)))) (C := True) (by kernel_rfl) trivial hS1 ((hS1.rv (congrArg Value.bool (okR_le (fun i hi => hgood i (by omega))))))
end Go.Proofs.Ytihecjcbgnpakaa
