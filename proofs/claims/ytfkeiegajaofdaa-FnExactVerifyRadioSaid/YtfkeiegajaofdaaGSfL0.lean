/-
  The walk of the law FnExactVerifyRadio: the law returns true.
-/
import Derived.Test.YtfkeiegajaofdaaGSf
import Derived.Test.YtfkeiegajaofdaaTypes
namespace Go.Proofs.Ytfkeiegajaofdaa
open Go.RowKit
set_option maxRecDepth 100000

theorem walkFnExactVerifyRadio (v0 v1 : Value) (w : World) (i0 : InInt3 w w.heap.size v0) (i1 : InRadioPacket26 w w.heap.size v1) : Calls Try.prog 8 #[v0, v1] w (Tr w) := by
  obtain ⟨a0, rfl, ⟨a0h1, a0h2⟩⟩ := i0
  obtain ⟨b0, b1, b2, b3, b4A, b4n, b4c, b4z, b5, rfl, ⟨b0h1, b0h2⟩, ⟨b1h1, b1h2⟩, ⟨b2h1, b2h2⟩, ⟨b3h1, b3h2⟩, ⟨b4k, b4m, b4h, b4o⟩, ⟨b5h1, b5h2⟩⟩ := i1
  have b4o2 : okz .u8 b4z := b4o
  unfold maxLen at b4m
  have b4l := b4h.len
  refine calls_FA Try.func8 rfl (n := 31) rfl (l := [(0, Value.int .i64 a0), (1, Value.agg #[Value.int .i64 b0, Value.int .i64 b1, Value.int .i64 b2, Value.int .i64 b3, Value.slice b4A b4n b4c, Value.int .i64 b5])]) rfl (by simp) (fun g => ?_)
  have hS := St.init w
  refine wp_seq ?_
  refine c_reg ?_
  refine l_op rfl rfl (fun K hK => op_box (d := some 3) rfl rfl [Value.int .i64 b0, Value.int .i64 b1, Value.int .i64 b2, Value.int .i64 b3, Value.slice b4A b4n b4c, Value.int .i64 b5] (by kernel_rfl) hS (fun blk2 w1 hS1 => hK _ _ ?_))
  clear hK K
  refine q_seg (S := (fun x_ => St w x_ [Res.box blk2 [Value.int .i64 b0, Value.int .i64 b1, Value.int .i64 b2, Value.int .i64 b3, Value.slice b4A b4n b4c, Value.int .i64 b5] 26])) [(4, Value.bool false)] [.no] True (by kernel_rfl) trivial hS1 ?_
  refine l_nil rfl ?_
  refine then_n ?_
  refine wp_seq ?_
  refine c_reg ?_
  refine q_seg (S := (fun x_ => St w x_ [Res.box blk2 [Value.int .i64 b0, Value.int .i64 b1, Value.int .i64 b2, Value.int .i64 b3, Value.slice b4A b4n b4c, Value.int .i64 b5] 26])) [(5, Value.int .i64 1048576)] [.no] True (by kernel_rfl) trivial hS1 ?_
  refine l_nil rfl ?_
  refine then_n ?_
  refine wp_seq ?_
  refine c_reg ?_
  refine q_seg (S := (fun x_ => St w x_ [Res.box blk2 [Value.int .i64 b0, Value.int .i64 b1, Value.int .i64 b2, Value.int .i64 b3, Value.slice b4A b4n b4c, Value.int .i64 b5] 26])) [(10, Value.int .i64 1048576), (9, Value.agg #[Value.int .i64 b0, Value.int .i64 b1, Value.int .i64 b2, Value.int .i64 b3, Value.slice b4A b4n b4c, Value.int .i64 b5])] [.v (Value.agg #[Value.int .i64 b0, Value.int .i64 b1, Value.int .i64 b2, Value.int .i64 b3, Value.slice b4A b4n b4c, Value.int .i64 b5]), .no] ((LoadsAt Try.prog (fun x_ => St w x_ [Res.box blk2 [Value.int .i64 b0, Value.int .i64 b1, Value.int .i64 b2, Value.int .i64 b3, Value.slice b4A b4n b4c, Value.int .i64 b5] 26]) 26 ⟨blk2, 0, none⟩ (Value.agg #[Value.int .i64 b0, Value.int .i64 b1, Value.int .i64 b2, Value.int .i64 b3, Value.slice b4A b4n b4c, Value.int .i64 b5]))) (by kernel_rfl) (ld_boxN (i := 0) (k := 6) rfl rfl rfl (by kernel_rfl)) hS1 ?_
  refine l_op rfl rfl (fun K hK => op_callv (d := some 11) rfl rfl ⟨_, Try.func11, by kernel_rfl, by kernel_rfl⟩ (vs := [Value.agg #[Value.int .i64 b0, Value.int .i64 b1, Value.int .i64 b2, Value.int .i64 b3, Value.slice b4A b4n b4c, Value.int .i64 b5], Value.int .i64 1048576]) (by kernel_rfl) (v := Value.int .i64 (szl (1048576 : Int) b4n)) (szRadioPacket_c b0 b1 b2 b3 b4A b4n b4c b5 (1048576 : Int) w1 (by omega) (by omega) (by omega)) hS1 (fun w3 hS3 => hK _ _ ?_))
  clear hK K
  refine q_seg (S := (fun x_ => St w x_ [Res.box blk2 [Value.int .i64 b0, Value.int .i64 b1, Value.int .i64 b2, Value.int .i64 b3, Value.slice b4A b4n b4c, Value.int .i64 b5] 26])) [(5, Value.int .i64 (szl (1048576 : Int) b4n))] [.no] True (by kernel_rfl) trivial hS3 ?_
  refine l_nil rfl ?_
  refine then_n ?_
  refine wp_seq ?_
  refine wp_seq ?_
  refine c_reg ?_
  refine q_seg (S := (fun x_ => St w x_ [Res.box blk2 [Value.int .i64 b0, Value.int .i64 b1, Value.int .i64 b2, Value.int .i64 b3, Value.slice b4A b4n b4c, Value.int .i64 b5] 26])) [(13, Value.bool (decide ((szl (1048576 : Int) b4n) < (0 : Int)))), (12, Value.int .i64 (szl (1048576 : Int) b4n))] [.no, .no] True (by kernel_rfl) trivial hS3 ?_
  refine l_nil rfl ?_
  refine then_n ?_
  rcases Bool.eq_false_or_eq_true (decide ((szl (1048576 : Int) b4n) < (0 : Int))) with hb4 | hb4
  · skip
    have hb4p := of_decide_eq_true hb4
    refine c_true (b := (decide ((szl (1048576 : Int) b4n) < (0 : Int)))) (by kernel_rfl) hb4 ?_
    refine wp_seq ?_
    refine c_reg ?_
    refine q_seg (S := (fun x_ => St w x_ [Res.box blk2 [Value.int .i64 b0, Value.int .i64 b1, Value.int .i64 b2, Value.int .i64 b3, Value.slice b4A b4n b4c, Value.int .i64 b5] 26])) [(4, Value.bool true)] [.no] True (by kernel_rfl) trivial hS3 ?_
    refine l_nil rfl ?_
    refine then_n ?_
    refine wp_ret ?_
    refine then_r ?_
    exact c_end (S := (fun x_ => St w x_ [Res.box blk2 [Value.int .i64 b0, Value.int .i64 b1, Value.int .i64 b2, Value.int .i64 b3, Value.slice b4A b4n b4c, Value.int .i64 b5] 26])) (rs := [.tmp 4]) rfl [] (v := Value.bool true) (C := True) (by kernel_rfl) trivial hS3 ((hS3.rv rfl))
  · skip
    have hb4p := of_decide_eq_false hb4
    have hb4w : szl (1048576 : Int) b4n = (1048576 : Int) - ((b4n : Nat) : Int) := by unfold szl at *; split at hb4p <;> omega
    refine c_false (b := (decide ((szl (1048576 : Int) b4n) < (0 : Int)))) (by kernel_rfl) hb4 ?_
    refine wp_skip ?_
    refine then_n ?_
    refine wp_seq ?_
    refine c_reg ?_
    refine q_seg (S := (fun x_ => St w x_ [Res.box blk2 [Value.int .i64 b0, Value.int .i64 b1, Value.int .i64 b2, Value.int .i64 b3, Value.slice b4A b4n b4c, Value.int .i64 b5] 26])) [(15, Value.agg #[Value.int .i64 b0, Value.int .i64 b1, Value.int .i64 b2, Value.int .i64 b3, Value.slice b4A b4n b4c, Value.int .i64 b5]), (14, Value.int .i64 a0)] [.no, .v (Value.agg #[Value.int .i64 b0, Value.int .i64 b1, Value.int .i64 b2, Value.int .i64 b3, Value.slice b4A b4n b4c, Value.int .i64 b5])] ((LoadsAt Try.prog (fun x_ => St w x_ [Res.box blk2 [Value.int .i64 b0, Value.int .i64 b1, Value.int .i64 b2, Value.int .i64 b3, Value.slice b4A b4n b4c, Value.int .i64 b5] 26]) 26 ⟨blk2, 0, none⟩ (Value.agg #[Value.int .i64 b0, Value.int .i64 b1, Value.int .i64 b2, Value.int .i64 b3, Value.slice b4A b4n b4c, Value.int .i64 b5]))) (by kernel_rfl) (ld_boxN (i := 0) (k := 6) rfl rfl rfl (by kernel_rfl)) hS3 ?_
    refine l_op rfl rfl (fun K hK => op_call (d := some 16) rfl rfl ⟨_, Try.func13, by kernel_rfl, by kernel_rfl⟩ (vs := [Value.agg #[Value.int .i64 b0, Value.int .i64 b1, Value.int .i64 b2, Value.int .i64 b3, Value.slice b4A b4n b4c, Value.int .i64 b5]]) (by kernel_rfl) (toRadioPacket_c b0 b1 b2 b3 b4A b4n b4c b4z b5 w3 (hS3.rdlow b4h) (by omega) b4o2) hS3 (fun v6 new7 w5 Rw5 hS5 => hK _ _ ?_))
    clear hK K
    obtain ⟨Aq8, cq9, rfl, rfl⟩ := Rw5
    refine l_op rfl rfl (fun K hK => op_callv (d := some 17) rfl rfl ⟨_, Try.func38, by kernel_rfl, by kernel_rfl⟩ (vs := [Value.int .i64 a0, Value.agg #[Value.int .i64 b0, Value.int .i64 b1, Value.int .i64 b2, Value.int .i64 b3, Value.slice Aq8 b4n cq9, Value.int .i64 b5]]) (by kernel_rfl) (v := Value.bool (vrad a0 b1 b2 b3 b4z b5)) (VerifyRadio_s_c a0 b0 b1 b2 b3 Aq8 b4n cq9 b4z b5 w5 (i64 (by omega) (by omega)) (i64 (by omega) (by omega)) (i64 (by omega) (by omega)) (i64 (by omega) (by omega)) (i64 (by omega) (by omega)) (hS5.rd (List.mem_of_getElem? (i := 0) rfl)).u1 (by omega) b4o2 (i64 (by omega) (by omega))) hS5 (fun w10 hS10 => hK _ _ ?_))
    clear hK K
    refine q_seg (S := (fun x_ => St w x_ [Res.row (Value.slice Aq8 b4n cq9) 5 1 b4n (b4z.map (Value.int .u8)), Res.box blk2 [Value.int .i64 b0, Value.int .i64 b1, Value.int .i64 b2, Value.int .i64 b3, Value.slice b4A b4n b4c, Value.int .i64 b5] 26])) [(6, Value.bool (vrad a0 b1 b2 b3 b4z b5))] [.no] True (by kernel_rfl) trivial hS10 ?_
    refine l_nil rfl ?_
    refine then_n ?_
    refine wp_seq ?_
    refine c_reg ?_
    refine q_seg (S := (fun x_ => St w x_ [Res.row (Value.slice Aq8 b4n cq9) 5 1 b4n (b4z.map (Value.int .u8)), Res.box blk2 [Value.int .i64 b0, Value.int .i64 b1, Value.int .i64 b2, Value.int .i64 b3, Value.slice b4A b4n b4c, Value.int .i64 b5] 26])) [(18, Value.agg #[Value.int .i64 b0, Value.int .i64 b1, Value.int .i64 b2, Value.int .i64 b3, Value.slice b4A b4n b4c, Value.int .i64 b5])] [.v (Value.agg #[Value.int .i64 b0, Value.int .i64 b1, Value.int .i64 b2, Value.int .i64 b3, Value.slice b4A b4n b4c, Value.int .i64 b5])] ((LoadsAt Try.prog (fun x_ => St w x_ [Res.row (Value.slice Aq8 b4n cq9) 5 1 b4n (b4z.map (Value.int .u8)), Res.box blk2 [Value.int .i64 b0, Value.int .i64 b1, Value.int .i64 b2, Value.int .i64 b3, Value.slice b4A b4n b4c, Value.int .i64 b5] 26]) 26 ⟨blk2, 0, none⟩ (Value.agg #[Value.int .i64 b0, Value.int .i64 b1, Value.int .i64 b2, Value.int .i64 b3, Value.slice b4A b4n b4c, Value.int .i64 b5]))) (by kernel_rfl) (ld_boxN (i := 1) (k := 6) rfl rfl rfl (by kernel_rfl)) hS10 ?_
    refine l_op rfl rfl (fun K hK => op_call (d := some 19) rfl rfl ⟨_, Try.func13, by kernel_rfl, by kernel_rfl⟩ (vs := [Value.agg #[Value.int .i64 b0, Value.int .i64 b1, Value.int .i64 b2, Value.int .i64 b3, Value.slice b4A b4n b4c, Value.int .i64 b5]]) (by kernel_rfl) (toRadioPacket_c b0 b1 b2 b3 b4A b4n b4c b4z b5 w10 (hS10.rdlow b4h) (by omega) b4o2) hS10 (fun v12 new13 w11 Rw11 hS11 => hK _ _ ?_))
    clear hK K
    obtain ⟨Aq14, cq15, rfl, rfl⟩ := Rw11
    refine l_op rfl rfl (fun K hK => op_alloc (d := some 7) rfl rfl [Value.int .i64 0, Value.int .i64 0, Value.int .i64 0, Value.int .i64 0, Value.slice none 0 0, Value.int .i64 0] (by kernel_rfl) hS11 (fun blk17 w16 hS16 => hK _ _ ?_))
    clear hK K
    refine l_op rfl rfl (fun K hK => op_store (d := none) rfl rfl (i := 0) (b := blk17) (off := 0) (cs := [Value.int .i64 0, Value.int .i64 0, Value.int .i64 0, Value.int .i64 0, Value.slice none 0 0, Value.int .i64 0]) (bt := 34) (by kernel_rfl) (by kernel_rfl) [Value.int .i64 b0, Value.int .i64 b1, Value.int .i64 b2, Value.int .i64 b3, Value.slice Aq14 b4n cq15, Value.int .i64 b5] (by kernel_rfl) (by kernel_rfl) (Nat.le_of_ble_eq_true (by kernel_rfl)) (by kernel_rfl) [Res.box blk17 [Value.int .i64 b0, Value.int .i64 b1, Value.int .i64 b2, Value.int .i64 b3, Value.slice Aq14 b4n cq15, Value.int .i64 b5] 34, Res.row (Value.slice Aq14 b4n cq15) 5 1 b4n (b4z.map (Value.int .u8)), Res.row (Value.slice Aq8 b4n cq9) 5 1 b4n (b4z.map (Value.int .u8)), Res.box blk2 [Value.int .i64 b0, Value.int .i64 b1, Value.int .i64 b2, Value.int .i64 b3, Value.slice b4A b4n b4c, Value.int .i64 b5] 26] (by kernel_rfl) hS16 (fun w18 hS18 => hK _ _ ?_))
    clear hK K
    refine l_nil rfl ?_
    refine then_n ?_
    refine wp_seq ?_
    refine c_reg ?_
    refine q_seg (S := (fun x_ => St w x_ [Res.box blk17 [Value.int .i64 b0, Value.int .i64 b1, Value.int .i64 b2, Value.int .i64 b3, Value.slice Aq14 b4n cq15, Value.int .i64 b5] 34, Res.row (Value.slice Aq14 b4n cq15) 5 1 b4n (b4z.map (Value.int .u8)), Res.row (Value.slice Aq8 b4n cq9) 5 1 b4n (b4z.map (Value.int .u8)), Res.box blk2 [Value.int .i64 b0, Value.int .i64 b1, Value.int .i64 b2, Value.int .i64 b3, Value.slice b4A b4n b4c, Value.int .i64 b5] 26])) [(21, Value.agg #[Value.int .i64 b0, Value.int .i64 b1, Value.int .i64 b2, Value.int .i64 b3, Value.slice Aq14 b4n cq15, Value.int .i64 b5]), (20, Value.int .i64 a0)] [.no, .v (Value.agg #[Value.int .i64 b0, Value.int .i64 b1, Value.int .i64 b2, Value.int .i64 b3, Value.slice Aq14 b4n cq15, Value.int .i64 b5])] ((LoadsAt Try.prog (fun x_ => St w x_ [Res.box blk17 [Value.int .i64 b0, Value.int .i64 b1, Value.int .i64 b2, Value.int .i64 b3, Value.slice Aq14 b4n cq15, Value.int .i64 b5] 34, Res.row (Value.slice Aq14 b4n cq15) 5 1 b4n (b4z.map (Value.int .u8)), Res.row (Value.slice Aq8 b4n cq9) 5 1 b4n (b4z.map (Value.int .u8)), Res.box blk2 [Value.int .i64 b0, Value.int .i64 b1, Value.int .i64 b2, Value.int .i64 b3, Value.slice b4A b4n b4c, Value.int .i64 b5] 26]) 34 ⟨blk17, 0, none⟩ (Value.agg #[Value.int .i64 b0, Value.int .i64 b1, Value.int .i64 b2, Value.int .i64 b3, Value.slice Aq14 b4n cq15, Value.int .i64 b5]))) (by kernel_rfl) (ld_boxN (i := 0) (k := 6) rfl rfl rfl (by kernel_rfl)) hS18 ?_
    refine l_op rfl rfl (fun K hK => op_callv (d := some 22) rfl rfl ⟨_, Try.func33, by kernel_rfl, by kernel_rfl⟩ (vs := [Value.int .i64 a0, Value.agg #[Value.int .i64 b0, Value.int .i64 b1, Value.int .i64 b2, Value.int .i64 b3, Value.slice Aq14 b4n cq15, Value.int .i64 b5]]) (by kernel_rfl) (v := Value.bool (vrad a0 b1 b2 b3 b4z b5)) (VerifyRadio_i_c a0 b0 b1 b2 b3 Aq14 b4n cq15 b4z b5 w18 (i64 (by omega) (by omega)) (i64 (by omega) (by omega)) (i64 (by omega) (by omega)) (i64 (by omega) (by omega)) (i64 (by omega) (by omega)) (hS18.rd (List.mem_of_getElem? (i := 1) rfl)).u1 (by omega) b4o2 (i64 (by omega) (by omega))) hS18 (fun w19 hS19 => hK _ _ ?_))
    clear hK K
    refine q_seg (S := (fun x_ => St w x_ [Res.box blk17 [Value.int .i64 b0, Value.int .i64 b1, Value.int .i64 b2, Value.int .i64 b3, Value.slice Aq14 b4n cq15, Value.int .i64 b5] 34, Res.row (Value.slice Aq14 b4n cq15) 5 1 b4n (b4z.map (Value.int .u8)), Res.row (Value.slice Aq8 b4n cq9) 5 1 b4n (b4z.map (Value.int .u8)), Res.box blk2 [Value.int .i64 b0, Value.int .i64 b1, Value.int .i64 b2, Value.int .i64 b3, Value.slice b4A b4n b4c, Value.int .i64 b5] 26])) [(8, Value.bool (vrad a0 b1 b2 b3 b4z b5))] [.no] True (by kernel_rfl) trivial hS19 ?_
    refine l_nil rfl ?_
    refine then_n ?_
    refine wp_seq ?_
    refine wp_seq ?_
    refine c_reg ?_
    refine q_seg (S := (fun x_ => St w x_ [Res.box blk17 [Value.int .i64 b0, Value.int .i64 b1, Value.int .i64 b2, Value.int .i64 b3, Value.slice Aq14 b4n cq15, Value.int .i64 b5] 34, Res.row (Value.slice Aq14 b4n cq15) 5 1 b4n (b4z.map (Value.int .u8)), Res.row (Value.slice Aq8 b4n cq9) 5 1 b4n (b4z.map (Value.int .u8)), Res.box blk2 [Value.int .i64 b0, Value.int .i64 b1, Value.int .i64 b2, Value.int .i64 b3, Value.slice b4A b4n b4c, Value.int .i64 b5] 26])) [(25, Value.bool (!(((vrad a0 b1 b2 b3 b4z b5) == (vrad a0 b1 b2 b3 b4z b5))))), (24, Value.bool (vrad a0 b1 b2 b3 b4z b5)), (23, Value.bool (vrad a0 b1 b2 b3 b4z b5))] [.no, .no, .no] True (by kernel_rfl) trivial hS19 ?_
    refine l_nil rfl ?_
    refine then_n ?_
    refine c_false (b := (!(((vrad a0 b1 b2 b3 b4z b5) == (vrad a0 b1 b2 b3 b4z b5))))) (by kernel_rfl) (nb (v := true) (by simp)) ?_
    refine wp_skip ?_
    refine then_n ?_
    refine wp_seq ?_
    refine wp_seq ?_
    refine c_drawn [] (by kernel_rfl) hS19 (fun w20 hS20 => ?_)
    refine t_seg (S := (fun x_ => St w x_ [Res.box blk17 [Value.int .i64 b0, Value.int .i64 b1, Value.int .i64 b2, Value.int .i64 b3, Value.slice Aq14 b4n cq15, Value.int .i64 b5] 34, Res.row (Value.slice Aq14 b4n cq15) 5 1 b4n (b4z.map (Value.int .u8)), Res.row (Value.slice Aq8 b4n cq9) 5 1 b4n (b4z.map (Value.int .u8)), Res.box blk2 [Value.int .i64 b0, Value.int .i64 b1, Value.int .i64 b2, Value.int .i64 b3, Value.slice b4A b4n b4c, Value.int .i64 b5] 26])) [(0, .v (Value.agg #[Value.int .i64 b0, Value.int .i64 b1, Value.int .i64 b2, Value.int .i64 b3, Value.slice Aq14 b4n cq15, Value.int .i64 b5])), (1, .v (Value.agg #[Value.int .i64 b0, Value.int .i64 b1, Value.int .i64 b2, Value.int .i64 b3, Value.slice b4A b4n b4c, Value.int .i64 b5]))] 3 #[true, true, false, false, false] [(27, Value.agg #[Value.int .i64 b0, Value.int .i64 b1, Value.int .i64 b2, Value.int .i64 b3, Value.slice b4A b4n b4c, Value.int .i64 b5]), (26, Value.agg #[Value.int .i64 b0, Value.int .i64 b1, Value.int .i64 b2, Value.int .i64 b3, Value.slice Aq14 b4n cq15, Value.int .i64 b5])] ((LoadsAt Try.prog (fun x_ => St w x_ [Res.box blk17 [Value.int .i64 b0, Value.int .i64 b1, Value.int .i64 b2, Value.int .i64 b3, Value.slice Aq14 b4n cq15, Value.int .i64 b5] 34, Res.row (Value.slice Aq14 b4n cq15) 5 1 b4n (b4z.map (Value.int .u8)), Res.row (Value.slice Aq8 b4n cq9) 5 1 b4n (b4z.map (Value.int .u8)), Res.box blk2 [Value.int .i64 b0, Value.int .i64 b1, Value.int .i64 b2, Value.int .i64 b3, Value.slice b4A b4n b4c, Value.int .i64 b5] 26]) 34 ⟨blk17, 0, none⟩ (Value.agg #[Value.int .i64 b0, Value.int .i64 b1, Value.int .i64 b2, Value.int .i64 b3, Value.slice Aq14 b4n cq15, Value.int .i64 b5])) ∧ (LoadsAt Try.prog (fun x_ => St w x_ [Res.box blk17 [Value.int .i64 b0, Value.int .i64 b1, Value.int .i64 b2, Value.int .i64 b3, Value.slice Aq14 b4n cq15, Value.int .i64 b5] 34, Res.row (Value.slice Aq14 b4n cq15) 5 1 b4n (b4z.map (Value.int .u8)), Res.row (Value.slice Aq8 b4n cq9) 5 1 b4n (b4z.map (Value.int .u8)), Res.box blk2 [Value.int .i64 b0, Value.int .i64 b1, Value.int .i64 b2, Value.int .i64 b3, Value.slice b4A b4n b4c, Value.int .i64 b5] 26]) 26 ⟨blk2, 0, none⟩ (Value.agg #[Value.int .i64 b0, Value.int .i64 b1, Value.int .i64 b2, Value.int .i64 b3, Value.slice b4A b4n b4c, Value.int .i64 b5]))) (by kernel_rfl) (Qpanic.then (Qpanic.then Qpanic.bp)) rfl (by kernel_rfl) ⟨(ld_boxN (i := 0) (k := 6) rfl rfl rfl (by kernel_rfl)), (ld_boxN (i := 3) (k := 6) rfl rfl rfl (by kernel_rfl))⟩ hS20 ?_
    refine a_op (i := 2) (fuel := 2) (listed' := #[true, true, true, false, false]) rfl rfl (by kernel_rfl) (by kernel_rfl) rfl (fun K hK => op_call (d := some 28) rfl rfl ⟨_, Try.func13, by kernel_rfl, by kernel_rfl⟩ (vs := [Value.agg #[Value.int .i64 b0, Value.int .i64 b1, Value.int .i64 b2, Value.int .i64 b3, Value.slice b4A b4n b4c, Value.int .i64 b5]]) (by kernel_rfl) (toRadioPacket_c b0 b1 b2 b3 b4A b4n b4c b4z b5 w20 (hS20.rdlow b4h) (by omega) b4o2) hS20 (fun v22 new23 w21 Rw21 hS21 => hK _ _ (fun _ => hS21.after) ?_))
    clear hK K
    obtain ⟨Aq24, cq25, rfl, rfl⟩ := Rw21
    refine a_op (i := 3) (fuel := 1) (listed' := #[true, true, true, true, false]) rfl rfl (by kernel_rfl) (by kernel_rfl) rfl (fun K hK => op_callv (d := some 29) rfl rfl ⟨_, Try.func16, by kernel_rfl, by kernel_rfl⟩ (vs := [Value.agg #[Value.int .i64 b0, Value.int .i64 b1, Value.int .i64 b2, Value.int .i64 b3, Value.slice Aq14 b4n cq15, Value.int .i64 b5], Value.agg #[Value.int .i64 b0, Value.int .i64 b1, Value.int .i64 b2, Value.int .i64 b3, Value.slice Aq24 b4n cq25, Value.int .i64 b5]]) (by kernel_rfl) (v := Value.bool true) (eqRadioPacket_c b0 b1 b2 b3 Aq14 b4n cq15 b4z Aq24 cq25 b5 w21 (hS21.rd (List.mem_of_getElem? (i := 2) rfl)).u1 (by omega) (hS21.rd (List.mem_of_getElem? (i := 0) rfl)).u1) hS21 (fun w26 hS26 => hK _ _ (fun _ => hS26.drop) ?_))
    clear hK K
    refine t_seg (S := (fun x_ => St w x_ [Res.box blk17 [Value.int .i64 b0, Value.int .i64 b1, Value.int .i64 b2, Value.int .i64 b3, Value.slice Aq14 b4n cq15, Value.int .i64 b5] 34, Res.row (Value.slice Aq14 b4n cq15) 5 1 b4n (b4z.map (Value.int .u8)), Res.row (Value.slice Aq8 b4n cq9) 5 1 b4n (b4z.map (Value.int .u8)), Res.box blk2 [Value.int .i64 b0, Value.int .i64 b1, Value.int .i64 b2, Value.int .i64 b3, Value.slice b4A b4n b4c, Value.int .i64 b5] 26])) [(4, .no)] 0 #[true, true, true, true, true] [(30, Value.bool false)] True (by kernel_rfl) (Qpanic.then (Qpanic.then Qpanic.bp)) rfl (by kernel_rfl) trivial (hS26.drop) ?_
    refine a_done (by kernel_rfl) ?_
    refine then_n ?_
    refine c_false (b := false) (by kernel_rfl) rfl ?_
    refine wp_skip ?_
    refine then_n ?_
    refine wp_seq ?_
    refine c_reg ?_
    refine q_seg (S := (fun x_ => St w x_ [Res.row (Value.slice Aq24 b4n cq25) 5 1 b4n (b4z.map (Value.int .u8)), Res.box blk17 [Value.int .i64 b0, Value.int .i64 b1, Value.int .i64 b2, Value.int .i64 b3, Value.slice Aq14 b4n cq15, Value.int .i64 b5] 34, Res.row (Value.slice Aq14 b4n cq15) 5 1 b4n (b4z.map (Value.int .u8)), Res.row (Value.slice Aq8 b4n cq9) 5 1 b4n (b4z.map (Value.int .u8)), Res.box blk2 [Value.int .i64 b0, Value.int .i64 b1, Value.int .i64 b2, Value.int .i64 b3, Value.slice b4A b4n b4c, Value.int .i64 b5] 26])) [(4, Value.bool true)] [.no] True (by kernel_rfl) trivial hS26 ?_
    refine l_nil rfl ?_
    refine then_n ?_
    refine wp_ret ?_
    exact c_end (S := (fun x_ => St w x_ [Res.row (Value.slice Aq24 b4n cq25) 5 1 b4n (b4z.map (Value.int .u8)), Res.box blk17 [Value.int .i64 b0, Value.int .i64 b1, Value.int .i64 b2, Value.int .i64 b3, Value.slice Aq14 b4n cq15, Value.int .i64 b5] 34, Res.row (Value.slice Aq14 b4n cq15) 5 1 b4n (b4z.map (Value.int .u8)), Res.row (Value.slice Aq8 b4n cq9) 5 1 b4n (b4z.map (Value.int .u8)), Res.box blk2 [Value.int .i64 b0, Value.int .i64 b1, Value.int .i64 b2, Value.int .i64 b3, Value.slice b4A b4n b4c, Value.int .i64 b5] 26])) (rs := [.tmp 4]) rfl [] (v := Value.bool true) (C := True) (by kernel_rfl) trivial hS26 ((hS26.rv rfl))
end Go.Proofs.Ytfkeiegajaofdaa
