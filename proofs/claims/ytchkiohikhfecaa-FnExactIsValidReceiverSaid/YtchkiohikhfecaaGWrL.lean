/-
  The walk of the law FnExactIsValidReceiver.
-/
import Derived.Test.YtchkiohikhfecaaGWr
import Derived.Test.YtchkiohikhfecaaTypes
namespace Go.Proofs.Ytchkiohikhfecaa
open Go.RowKit
set_option maxRecDepth 100000

theorem walkFnExactIsValidReceiver (v0 : Value) (w : World) (i0 : InReceiveWindow25 w w.heap.size v0) : Calls Try.prog 9 #[v0] w (Tr w) := by
  obtain ⟨a0, a1A, a1n, a1c, a1y, a2A, a2n, a2c, a2y, rfl, ⟨a0h1, a0h2⟩, a1i, a2i⟩ := i0
  obtain ⟨a1k, a1m, _, _⟩ := id a1i
  have a1h := RdL.of_is a1i
  obtain ⟨a1L, a1LE⟩ : ∃ L, L = a1y.map (con true) := ⟨_, rfl⟩
  rw [← a1LE] at a1h
  have a1l := a1h.len
  have a1v := wt_len a1L
  unfold maxLen at a1m
  obtain ⟨a2k, a2m, _, _⟩ := id a2i
  have a2h := RdL.of_is a2i
  obtain ⟨a2L, a2LE⟩ : ∃ L, L = a2y.map (con false) := ⟨_, rfl⟩
  rw [← a2LE] at a2h
  have a2l := a2h.len
  have a2v := wt_len a2L
  unfold maxLen at a2m
  refine calls_FA Try.func9 rfl (n := 27) rfl (l := [(0, Value.agg #[Value.int .i64 a0, Value.slice a1A a1n a1c, Value.slice a2A a2n a2c])]) rfl (by simp) (fun g => ?_)
  have hS := St.init w
  refine wp_seq ?_
  refine c_reg ?_
  refine l_op rfl rfl (fun K hK => op_box (d := some 1) rfl rfl [Value.int .i64 a0, Value.slice a1A a1n a1c, Value.slice a2A a2n a2c] (by kernel_rfl) hS (fun blk2 w1 hS1 => hK _ _ ?_))
  clear hK K
  refine q_seg (S := (fun x_ => St w x_ [Res.box blk2 [Value.int .i64 a0, Value.slice a1A a1n a1c, Value.slice a2A a2n a2c] 25])) [(2, Value.bool false)] [.no] True (by kernel_rfl) trivial hS1 ?_
  refine l_nil rfl ?_
  refine then_n ?_
  refine wp_seq ?_
  refine c_reg ?_
  refine q_seg (S := (fun x_ => St w x_ [Res.box blk2 [Value.int .i64 a0, Value.slice a1A a1n a1c, Value.slice a2A a2n a2c] 25])) [(3, Value.int .i64 1048576)] [.no] True (by kernel_rfl) trivial hS1 ?_
  refine l_nil rfl ?_
  refine then_n ?_
  refine wp_seq ?_
  refine c_reg ?_
  refine q_seg (S := (fun x_ => St w x_ [Res.box blk2 [Value.int .i64 a0, Value.slice a1A a1n a1c, Value.slice a2A a2n a2c] 25])) [(8, Value.int .i64 1048576), (7, Value.agg #[Value.int .i64 a0, Value.slice a1A a1n a1c, Value.slice a2A a2n a2c])] [.v (Value.agg #[Value.int .i64 a0, Value.slice a1A a1n a1c, Value.slice a2A a2n a2c]), .no] ((LoadsAt Try.prog (fun x_ => St w x_ [Res.box blk2 [Value.int .i64 a0, Value.slice a1A a1n a1c, Value.slice a2A a2n a2c] 25]) 25 ⟨blk2, 0, none⟩ (Value.agg #[Value.int .i64 a0, Value.slice a1A a1n a1c, Value.slice a2A a2n a2c]))) (by kernel_rfl) (ld_boxN (i := 0) (k := 3) rfl rfl rfl (by kernel_rfl)) hS1 ?_
  refine l_op rfl rfl (fun K hK => op_callv (d := some 9) rfl rfl ⟨_, Try.func14, by kernel_rfl, by kernel_rfl⟩ (vs := [Value.agg #[Value.int .i64 a0, Value.slice a1A a1n a1c, Value.slice a2A a2n a2c], Value.int .i64 1048576]) (by kernel_rfl) (v := Value.int .i64 (szF (1048576 : Int) [a1L, a2L])) (szReceiveWindow_c a0 a1A a1n a1c a1L a2A a2n a2c a2L (1048576 : Int) w1 (by omega) (by omega) (hS1.rdllow a1h) (by omega) (hS1.rdllow a2h) (by omega)) hS1 (fun w3 hS3 => hK _ _ ?_))
  clear hK K
  have hsz4 := szF_le [a1L, a2L] (1048576 : Int) (by omega)
  refine q_seg (S := (fun x_ => St w x_ [Res.box blk2 [Value.int .i64 a0, Value.slice a1A a1n a1c, Value.slice a2A a2n a2c] 25])) [(3, Value.int .i64 (szF (1048576 : Int) [a1L, a2L]))] [.no] True (by kernel_rfl) trivial hS3 ?_
  refine l_nil rfl ?_
  refine then_n ?_
  refine wp_seq ?_
  refine wp_seq ?_
  refine c_reg ?_
  refine q_seg (S := (fun x_ => St w x_ [Res.box blk2 [Value.int .i64 a0, Value.slice a1A a1n a1c, Value.slice a2A a2n a2c] 25])) [(11, Value.bool (decide ((szF (1048576 : Int) [a1L, a2L]) < (0 : Int)))), (10, Value.int .i64 (szF (1048576 : Int) [a1L, a2L]))] [.no, .no] True (by kernel_rfl) trivial hS3 ?_
  refine l_nil rfl ?_
  refine then_n ?_
  rcases Bool.eq_false_or_eq_true (decide ((szF (1048576 : Int) [a1L, a2L]) < (0 : Int))) with hb5 | hb5
  · skip
    have hb5p := of_decide_eq_true hb5
    refine c_true (b := (decide ((szF (1048576 : Int) [a1L, a2L]) < (0 : Int)))) (by kernel_rfl) hb5 ?_
    refine wp_seq ?_
    refine c_reg ?_
    refine q_seg (S := (fun x_ => St w x_ [Res.box blk2 [Value.int .i64 a0, Value.slice a1A a1n a1c, Value.slice a2A a2n a2c] 25])) [(2, Value.bool true)] [.no] True (by kernel_rfl) trivial hS3 ?_
    refine l_nil rfl ?_
    refine then_n ?_
    refine wp_ret ?_
    refine then_r ?_
    exact c_end (S := (fun x_ => St w x_ [Res.box blk2 [Value.int .i64 a0, Value.slice a1A a1n a1c, Value.slice a2A a2n a2c] 25])) (rs := [.tmp 2]) rfl [] (v := Value.bool true) (C := True) (by kernel_rfl) trivial hS3 ((hS3.rv rfl))
  · skip
    have hb5p := of_decide_eq_false hb5
    have hb5w := szF_bd _ _ hb5p (by omega)
    simp only [List.map_cons, List.map_nil, List.sum_cons, List.sum_nil] at hb5w
    refine c_false (b := (decide ((szF (1048576 : Int) [a1L, a2L]) < (0 : Int)))) (by kernel_rfl) hb5 ?_
    refine wp_skip ?_
    refine then_n ?_
    refine wp_seq ?_
    refine c_reg ?_
    refine q_seg (S := (fun x_ => St w x_ [Res.box blk2 [Value.int .i64 a0, Value.slice a1A a1n a1c, Value.slice a2A a2n a2c] 25])) [(12, Value.agg #[Value.int .i64 a0, Value.slice a1A a1n a1c, Value.slice a2A a2n a2c])] [.v (Value.agg #[Value.int .i64 a0, Value.slice a1A a1n a1c, Value.slice a2A a2n a2c])] ((LoadsAt Try.prog (fun x_ => St w x_ [Res.box blk2 [Value.int .i64 a0, Value.slice a1A a1n a1c, Value.slice a2A a2n a2c] 25]) 25 ⟨blk2, 0, none⟩ (Value.agg #[Value.int .i64 a0, Value.slice a1A a1n a1c, Value.slice a2A a2n a2c]))) (by kernel_rfl) (ld_boxN (i := 0) (k := 3) rfl rfl rfl (by kernel_rfl)) hS3 ?_
    refine l_op rfl rfl (fun K hK => op_call (d := some 13) rfl rfl ⟨_, Try.func17, by kernel_rfl, by kernel_rfl⟩ (vs := [Value.agg #[Value.int .i64 a0, Value.slice a1A a1n a1c, Value.slice a2A a2n a2c]]) (by kernel_rfl) (toReceiveWindow_c a0 a1A a1n a1c a1L a2A a2n a2c a2L w3 (hS3.rdllow a1h) (by omega) (hS3.rdllow a2h) (by omega)) hS3 (fun v7 new8 w6 Rw6 hS6 => hK _ _ ?_))
    clear hK K
    obtain ⟨Aq9, cq10, yq11, Aq13, cq14, yq15, rfl, rfl, hcq12, hcq16⟩ := Rw6
    have hS6r : St w w6 (Res.row (Value.slice Aq9 a1n cq10) 37 2 a1n (flat true yq11) :: Res.row (Value.slice Aq13 a2n cq14) 49 1 a2n (flat false yq15) :: Res.box blk2 [Value.int .i64 a0, Value.slice a1A a1n a1c, Value.slice a2A a2n a2c] 25 :: ((yq11.map (It.row .u8 5)) ++ ((yq15.map (It.row .u8 5)) ++ []))) := St.rot_2 [Res.row (Value.slice Aq9 a1n cq10) 37 2 a1n (flat true yq11), Res.row (Value.slice Aq13 a2n cq14) 49 1 a2n (flat false yq15)] [Res.box blk2 [Value.int .i64 a0, Value.slice a1A a1n a1c, Value.slice a2A a2n a2c] 25] [] (yq11.map (It.row .u8 5)) (yq15.map (It.row .u8 5)) hS6
    refine l_op rfl rfl (fun K hK => op_callv (d := some 14) rfl rfl ⟨_, Try.func47, by kernel_rfl, by kernel_rfl⟩ (vs := [Value.agg #[Value.int .i64 a0, Value.slice Aq9 a1n cq10, Value.slice Aq13 a2n cq14]]) (by kernel_rfl) (v := Value.bool (vrecv a0 a1L a2L)) (IsValidReceiver_s_c a0 Aq9 a1n cq10 a1L Aq13 a2n cq14 a2L w6 (i64 (by omega) (by omega)) (hS6r.rdl (κ := .u8) (p := true) (tb := 5) (ys := yq11) (List.mem_of_getElem? (i := 0) rfl) (fun y_ hy_ => (List.mem_cons_of_mem _ (List.mem_cons_of_mem _ (List.mem_cons_of_mem _ (List.mem_append_left _ (List.mem_map_of_mem hy_)))))) hcq12 a1h.ok a1h.len) (by omega) (hS6r.rdl (κ := .u8) (p := false) (tb := 5) (ys := yq15) (List.mem_of_getElem? (i := 1) rfl) (fun y_ hy_ => (List.mem_cons_of_mem _ (List.mem_cons_of_mem _ (List.mem_cons_of_mem _ (List.mem_append_right _ (List.mem_append_left _ (List.mem_map_of_mem hy_))))))) hcq16 a2h.ok a2h.len) (by omega)) hS6r (fun w17 hS17 => hK _ _ ?_))
    clear hK K
    refine q_seg (S := (fun x_ => St w x_ (Res.row (Value.slice Aq9 a1n cq10) 37 2 a1n (flat true yq11) :: Res.row (Value.slice Aq13 a2n cq14) 49 1 a2n (flat false yq15) :: Res.box blk2 [Value.int .i64 a0, Value.slice a1A a1n a1c, Value.slice a2A a2n a2c] 25 :: ((yq11.map (It.row .u8 5)) ++ ((yq15.map (It.row .u8 5)) ++ []))))) [(4, Value.bool (vrecv a0 a1L a2L))] [.no] True (by kernel_rfl) trivial hS17 ?_
    refine l_nil rfl ?_
    refine then_n ?_
    refine wp_seq ?_
    refine c_reg ?_
    refine q_seg (S := (fun x_ => St w x_ (Res.row (Value.slice Aq9 a1n cq10) 37 2 a1n (flat true yq11) :: Res.row (Value.slice Aq13 a2n cq14) 49 1 a2n (flat false yq15) :: Res.box blk2 [Value.int .i64 a0, Value.slice a1A a1n a1c, Value.slice a2A a2n a2c] 25 :: ((yq11.map (It.row .u8 5)) ++ ((yq15.map (It.row .u8 5)) ++ []))))) [(15, Value.agg #[Value.int .i64 a0, Value.slice a1A a1n a1c, Value.slice a2A a2n a2c])] [.v (Value.agg #[Value.int .i64 a0, Value.slice a1A a1n a1c, Value.slice a2A a2n a2c])] ((LoadsAt Try.prog (fun x_ => St w x_ (Res.row (Value.slice Aq9 a1n cq10) 37 2 a1n (flat true yq11) :: Res.row (Value.slice Aq13 a2n cq14) 49 1 a2n (flat false yq15) :: Res.box blk2 [Value.int .i64 a0, Value.slice a1A a1n a1c, Value.slice a2A a2n a2c] 25 :: ((yq11.map (It.row .u8 5)) ++ ((yq15.map (It.row .u8 5)) ++ [])))) 25 ⟨blk2, 0, none⟩ (Value.agg #[Value.int .i64 a0, Value.slice a1A a1n a1c, Value.slice a2A a2n a2c]))) (by kernel_rfl) (ld_boxN (i := 2) (k := 3) rfl rfl rfl (by kernel_rfl)) hS17 ?_
    refine l_op rfl rfl (fun K hK => op_call (d := some 16) rfl rfl ⟨_, Try.func17, by kernel_rfl, by kernel_rfl⟩ (vs := [Value.agg #[Value.int .i64 a0, Value.slice a1A a1n a1c, Value.slice a2A a2n a2c]]) (by kernel_rfl) (toReceiveWindow_c a0 a1A a1n a1c a1L a2A a2n a2c a2L w17 (hS17.rdllow a1h) (by omega) (hS17.rdllow a2h) (by omega)) hS17 (fun v19 new20 w18 Rw18 hS18 => hK _ _ ?_))
    clear hK K
    obtain ⟨Aq21, cq22, yq23, Aq25, cq26, yq27, rfl, rfl, hcq24, hcq28⟩ := Rw18
    have hS18r : St w w18 (Res.row (Value.slice Aq21 a1n cq22) 37 2 a1n (flat true yq23) :: Res.row (Value.slice Aq25 a2n cq26) 49 1 a2n (flat false yq27) :: Res.row (Value.slice Aq9 a1n cq10) 37 2 a1n (flat true yq11) :: Res.row (Value.slice Aq13 a2n cq14) 49 1 a2n (flat false yq15) :: Res.box blk2 [Value.int .i64 a0, Value.slice a1A a1n a1c, Value.slice a2A a2n a2c] 25 :: ((yq23.map (It.row .u8 5)) ++ ((yq27.map (It.row .u8 5)) ++ ((yq11.map (It.row .u8 5)) ++ ((yq15.map (It.row .u8 5)) ++ []))))) := St.rot_2 [Res.row (Value.slice Aq21 a1n cq22) 37 2 a1n (flat true yq23), Res.row (Value.slice Aq25 a2n cq26) 49 1 a2n (flat false yq27)] [Res.row (Value.slice Aq9 a1n cq10) 37 2 a1n (flat true yq11), Res.row (Value.slice Aq13 a2n cq14) 49 1 a2n (flat false yq15), Res.box blk2 [Value.int .i64 a0, Value.slice a1A a1n a1c, Value.slice a2A a2n a2c] 25] ((yq11.map (It.row .u8 5)) ++ ((yq15.map (It.row .u8 5)) ++ [])) (yq23.map (It.row .u8 5)) (yq27.map (It.row .u8 5)) hS18
    refine l_op rfl rfl (fun K hK => op_alloc (d := some 5) rfl rfl [Value.int .i64 0, Value.slice none 0 0, Value.slice none 0 0] (by kernel_rfl) hS18r (fun blk30 w29 hS29 => hK _ _ ?_))
    clear hK K
    refine l_op rfl rfl (fun K hK => op_store (d := none) rfl rfl (i := 0) (b := blk30) (off := 0) (cs := [Value.int .i64 0, Value.slice none 0 0, Value.slice none 0 0]) (bt := 34) (by kernel_rfl) (by kernel_rfl) [Value.int .i64 a0, Value.slice Aq21 a1n cq22, Value.slice Aq25 a2n cq26] (by kernel_rfl) (by kernel_rfl) (Nat.le_of_ble_eq_true (by kernel_rfl)) (by kernel_rfl) (Res.box blk30 [Value.int .i64 a0, Value.slice Aq21 a1n cq22, Value.slice Aq25 a2n cq26] 34 :: Res.row (Value.slice Aq21 a1n cq22) 37 2 a1n (flat true yq23) :: Res.row (Value.slice Aq25 a2n cq26) 49 1 a2n (flat false yq27) :: Res.row (Value.slice Aq9 a1n cq10) 37 2 a1n (flat true yq11) :: Res.row (Value.slice Aq13 a2n cq14) 49 1 a2n (flat false yq15) :: Res.box blk2 [Value.int .i64 a0, Value.slice a1A a1n a1c, Value.slice a2A a2n a2c] 25 :: ((yq23.map (It.row .u8 5)) ++ ((yq27.map (It.row .u8 5)) ++ ((yq11.map (It.row .u8 5)) ++ ((yq15.map (It.row .u8 5)) ++ []))))) (by kernel_rfl) hS29 (fun w31 hS31 => hK _ _ ?_))
    clear hK K
    refine l_nil rfl ?_
    refine then_n ?_
    refine wp_seq ?_
    refine c_reg ?_
    refine q_seg (S := (fun x_ => St w x_ (Res.box blk30 [Value.int .i64 a0, Value.slice Aq21 a1n cq22, Value.slice Aq25 a2n cq26] 34 :: Res.row (Value.slice Aq21 a1n cq22) 37 2 a1n (flat true yq23) :: Res.row (Value.slice Aq25 a2n cq26) 49 1 a2n (flat false yq27) :: Res.row (Value.slice Aq9 a1n cq10) 37 2 a1n (flat true yq11) :: Res.row (Value.slice Aq13 a2n cq14) 49 1 a2n (flat false yq15) :: Res.box blk2 [Value.int .i64 a0, Value.slice a1A a1n a1c, Value.slice a2A a2n a2c] 25 :: ((yq23.map (It.row .u8 5)) ++ ((yq27.map (It.row .u8 5)) ++ ((yq11.map (It.row .u8 5)) ++ ((yq15.map (It.row .u8 5)) ++ []))))))) [(17, Value.agg #[Value.int .i64 a0, Value.slice Aq21 a1n cq22, Value.slice Aq25 a2n cq26])] [.v (Value.agg #[Value.int .i64 a0, Value.slice Aq21 a1n cq22, Value.slice Aq25 a2n cq26])] ((LoadsAt Try.prog (fun x_ => St w x_ (Res.box blk30 [Value.int .i64 a0, Value.slice Aq21 a1n cq22, Value.slice Aq25 a2n cq26] 34 :: Res.row (Value.slice Aq21 a1n cq22) 37 2 a1n (flat true yq23) :: Res.row (Value.slice Aq25 a2n cq26) 49 1 a2n (flat false yq27) :: Res.row (Value.slice Aq9 a1n cq10) 37 2 a1n (flat true yq11) :: Res.row (Value.slice Aq13 a2n cq14) 49 1 a2n (flat false yq15) :: Res.box blk2 [Value.int .i64 a0, Value.slice a1A a1n a1c, Value.slice a2A a2n a2c] 25 :: ((yq23.map (It.row .u8 5)) ++ ((yq27.map (It.row .u8 5)) ++ ((yq11.map (It.row .u8 5)) ++ ((yq15.map (It.row .u8 5)) ++ [])))))) 34 ⟨blk30, 0, none⟩ (Value.agg #[Value.int .i64 a0, Value.slice Aq21 a1n cq22, Value.slice Aq25 a2n cq26]))) (by kernel_rfl) (ld_boxN (i := 0) (k := 3) rfl rfl rfl (by kernel_rfl)) hS31 ?_
    refine l_op rfl rfl (fun K hK => op_callv (d := some 18) rfl rfl ⟨_, Try.func27, by kernel_rfl, by kernel_rfl⟩ (vs := [Value.agg #[Value.int .i64 a0, Value.slice Aq21 a1n cq22, Value.slice Aq25 a2n cq26]]) (by kernel_rfl) (v := Value.bool (vrecv a0 a1L a2L)) (IsValidReceiver_i_c a0 Aq21 a1n cq22 a1L Aq25 a2n cq26 a2L w31 (i64 (by omega) (by omega)) (hS31.rdl (κ := .u8) (p := true) (tb := 5) (ys := yq23) (List.mem_of_getElem? (i := 1) rfl) (fun y_ hy_ => (List.mem_cons_of_mem _ (List.mem_cons_of_mem _ (List.mem_cons_of_mem _ (List.mem_cons_of_mem _ (List.mem_cons_of_mem _ (List.mem_cons_of_mem _ (List.mem_append_left _ (List.mem_map_of_mem hy_))))))))) hcq24 a1h.ok a1h.len) (by omega) (hS31.rdl (κ := .u8) (p := false) (tb := 5) (ys := yq27) (List.mem_of_getElem? (i := 2) rfl) (fun y_ hy_ => (List.mem_cons_of_mem _ (List.mem_cons_of_mem _ (List.mem_cons_of_mem _ (List.mem_cons_of_mem _ (List.mem_cons_of_mem _ (List.mem_cons_of_mem _ (List.mem_append_right _ (List.mem_append_left _ (List.mem_map_of_mem hy_)))))))))) hcq28 a2h.ok a2h.len) (by omega)) hS31 (fun w32 hS32 => hK _ _ ?_))
    clear hK K
    refine q_seg (S := (fun x_ => St w x_ (Res.box blk30 [Value.int .i64 a0, Value.slice Aq21 a1n cq22, Value.slice Aq25 a2n cq26] 34 :: Res.row (Value.slice Aq21 a1n cq22) 37 2 a1n (flat true yq23) :: Res.row (Value.slice Aq25 a2n cq26) 49 1 a2n (flat false yq27) :: Res.row (Value.slice Aq9 a1n cq10) 37 2 a1n (flat true yq11) :: Res.row (Value.slice Aq13 a2n cq14) 49 1 a2n (flat false yq15) :: Res.box blk2 [Value.int .i64 a0, Value.slice a1A a1n a1c, Value.slice a2A a2n a2c] 25 :: ((yq23.map (It.row .u8 5)) ++ ((yq27.map (It.row .u8 5)) ++ ((yq11.map (It.row .u8 5)) ++ ((yq15.map (It.row .u8 5)) ++ []))))))) [(6, Value.bool (vrecv a0 a1L a2L))] [.no] True (by kernel_rfl) trivial hS32 ?_
    refine l_nil rfl ?_
    refine then_n ?_
    refine wp_seq ?_
    refine wp_seq ?_
    refine c_reg ?_
    refine q_seg (S := (fun x_ => St w x_ (Res.box blk30 [Value.int .i64 a0, Value.slice Aq21 a1n cq22, Value.slice Aq25 a2n cq26] 34 :: Res.row (Value.slice Aq21 a1n cq22) 37 2 a1n (flat true yq23) :: Res.row (Value.slice Aq25 a2n cq26) 49 1 a2n (flat false yq27) :: Res.row (Value.slice Aq9 a1n cq10) 37 2 a1n (flat true yq11) :: Res.row (Value.slice Aq13 a2n cq14) 49 1 a2n (flat false yq15) :: Res.box blk2 [Value.int .i64 a0, Value.slice a1A a1n a1c, Value.slice a2A a2n a2c] 25 :: ((yq23.map (It.row .u8 5)) ++ ((yq27.map (It.row .u8 5)) ++ ((yq11.map (It.row .u8 5)) ++ ((yq15.map (It.row .u8 5)) ++ []))))))) [(21, Value.bool (!(((vrecv a0 a1L a2L) == (vrecv a0 a1L a2L))))), (20, Value.bool (vrecv a0 a1L a2L)), (19, Value.bool (vrecv a0 a1L a2L))] [.no, .no, .no] True (by kernel_rfl) trivial hS32 ?_
    refine l_nil rfl ?_
    refine then_n ?_
    refine c_false (b := (!(((vrecv a0 a1L a2L) == (vrecv a0 a1L a2L))))) (by kernel_rfl) (nb (v := true) (by simp)) ?_
    refine wp_skip ?_
    refine then_n ?_
    refine wp_seq ?_
    refine wp_seq ?_
    refine c_drawn [] (by kernel_rfl) hS32 (fun w33 hS33 => ?_)
    refine t_seg (S := (fun x_ => St w x_ (Res.box blk30 [Value.int .i64 a0, Value.slice Aq21 a1n cq22, Value.slice Aq25 a2n cq26] 34 :: Res.row (Value.slice Aq21 a1n cq22) 37 2 a1n (flat true yq23) :: Res.row (Value.slice Aq25 a2n cq26) 49 1 a2n (flat false yq27) :: Res.row (Value.slice Aq9 a1n cq10) 37 2 a1n (flat true yq11) :: Res.row (Value.slice Aq13 a2n cq14) 49 1 a2n (flat false yq15) :: Res.box blk2 [Value.int .i64 a0, Value.slice a1A a1n a1c, Value.slice a2A a2n a2c] 25 :: ((yq23.map (It.row .u8 5)) ++ ((yq27.map (It.row .u8 5)) ++ ((yq11.map (It.row .u8 5)) ++ ((yq15.map (It.row .u8 5)) ++ []))))))) [(0, .v (Value.agg #[Value.int .i64 a0, Value.slice Aq21 a1n cq22, Value.slice Aq25 a2n cq26])), (1, .v (Value.agg #[Value.int .i64 a0, Value.slice a1A a1n a1c, Value.slice a2A a2n a2c]))] 3 #[true, true, false, false, false] [(23, Value.agg #[Value.int .i64 a0, Value.slice a1A a1n a1c, Value.slice a2A a2n a2c]), (22, Value.agg #[Value.int .i64 a0, Value.slice Aq21 a1n cq22, Value.slice Aq25 a2n cq26])] ((LoadsAt Try.prog (fun x_ => St w x_ (Res.box blk30 [Value.int .i64 a0, Value.slice Aq21 a1n cq22, Value.slice Aq25 a2n cq26] 34 :: Res.row (Value.slice Aq21 a1n cq22) 37 2 a1n (flat true yq23) :: Res.row (Value.slice Aq25 a2n cq26) 49 1 a2n (flat false yq27) :: Res.row (Value.slice Aq9 a1n cq10) 37 2 a1n (flat true yq11) :: Res.row (Value.slice Aq13 a2n cq14) 49 1 a2n (flat false yq15) :: Res.box blk2 [Value.int .i64 a0, Value.slice a1A a1n a1c, Value.slice a2A a2n a2c] 25 :: ((yq23.map (It.row .u8 5)) ++ ((yq27.map (It.row .u8 5)) ++ ((yq11.map (It.row .u8 5)) ++ ((yq15.map (It.row .u8 5)) ++ [])))))) 34 ⟨blk30, 0, none⟩ (Value.agg #[Value.int .i64 a0, Value.slice Aq21 a1n cq22, Value.slice Aq25 a2n cq26])) ∧ (LoadsAt Try.prog (fun x_ => St w x_ (Res.box blk30 [Value.int .i64 a0, Value.slice Aq21 a1n cq22, Value.slice Aq25 a2n cq26] 34 :: Res.row (Value.slice Aq21 a1n cq22) 37 2 a1n (flat true yq23) :: Res.row (Value.slice Aq25 a2n cq26) 49 1 a2n (flat false yq27) :: Res.row (Value.slice Aq9 a1n cq10) 37 2 a1n (flat true yq11) :: Res.row (Value.slice Aq13 a2n cq14) 49 1 a2n (flat false yq15) :: Res.box blk2 [Value.int .i64 a0, Value.slice a1A a1n a1c, Value.slice a2A a2n a2c] 25 :: ((yq23.map (It.row .u8 5)) ++ ((yq27.map (It.row .u8 5)) ++ ((yq11.map (It.row .u8 5)) ++ ((yq15.map (It.row .u8 5)) ++ [])))))) 25 ⟨blk2, 0, none⟩ (Value.agg #[Value.int .i64 a0, Value.slice a1A a1n a1c, Value.slice a2A a2n a2c]))) (by kernel_rfl) (Qpanic.then (Qpanic.then Qpanic.bp)) rfl (by kernel_rfl) ⟨(ld_boxN (i := 0) (k := 3) rfl rfl rfl (by kernel_rfl)), (ld_boxN (i := 5) (k := 3) rfl rfl rfl (by kernel_rfl))⟩ hS33 ?_
    refine a_op (i := 2) (fuel := 2) (listed' := #[true, true, true, false, false]) rfl rfl (by kernel_rfl) (by kernel_rfl) rfl (fun K hK => op_call (d := some 24) rfl rfl ⟨_, Try.func17, by kernel_rfl, by kernel_rfl⟩ (vs := [Value.agg #[Value.int .i64 a0, Value.slice a1A a1n a1c, Value.slice a2A a2n a2c]]) (by kernel_rfl) (toReceiveWindow_c a0 a1A a1n a1c a1L a2A a2n a2c a2L w33 (hS33.rdllow a1h) (by omega) (hS33.rdllow a2h) (by omega)) hS33 (fun v35 new36 w34 Rw34 hS34 => hK _ _ (fun _ => hS34.after) ?_))
    clear hK K
    obtain ⟨Aq37, cq38, yq39, Aq41, cq42, yq43, rfl, rfl, hcq40, hcq44⟩ := Rw34
    have hS34r : St w w34 (Res.row (Value.slice Aq37 a1n cq38) 37 2 a1n (flat true yq39) :: Res.row (Value.slice Aq41 a2n cq42) 49 1 a2n (flat false yq43) :: Res.box blk30 [Value.int .i64 a0, Value.slice Aq21 a1n cq22, Value.slice Aq25 a2n cq26] 34 :: Res.row (Value.slice Aq21 a1n cq22) 37 2 a1n (flat true yq23) :: Res.row (Value.slice Aq25 a2n cq26) 49 1 a2n (flat false yq27) :: Res.row (Value.slice Aq9 a1n cq10) 37 2 a1n (flat true yq11) :: Res.row (Value.slice Aq13 a2n cq14) 49 1 a2n (flat false yq15) :: Res.box blk2 [Value.int .i64 a0, Value.slice a1A a1n a1c, Value.slice a2A a2n a2c] 25 :: ((yq39.map (It.row .u8 5)) ++ ((yq43.map (It.row .u8 5)) ++ ((yq23.map (It.row .u8 5)) ++ ((yq27.map (It.row .u8 5)) ++ ((yq11.map (It.row .u8 5)) ++ ((yq15.map (It.row .u8 5)) ++ []))))))) := St.rot_2 [Res.row (Value.slice Aq37 a1n cq38) 37 2 a1n (flat true yq39), Res.row (Value.slice Aq41 a2n cq42) 49 1 a2n (flat false yq43)] [Res.box blk30 [Value.int .i64 a0, Value.slice Aq21 a1n cq22, Value.slice Aq25 a2n cq26] 34, Res.row (Value.slice Aq21 a1n cq22) 37 2 a1n (flat true yq23), Res.row (Value.slice Aq25 a2n cq26) 49 1 a2n (flat false yq27), Res.row (Value.slice Aq9 a1n cq10) 37 2 a1n (flat true yq11), Res.row (Value.slice Aq13 a2n cq14) 49 1 a2n (flat false yq15), Res.box blk2 [Value.int .i64 a0, Value.slice a1A a1n a1c, Value.slice a2A a2n a2c] 25] ((yq23.map (It.row .u8 5)) ++ ((yq27.map (It.row .u8 5)) ++ ((yq11.map (It.row .u8 5)) ++ ((yq15.map (It.row .u8 5)) ++ [])))) (yq39.map (It.row .u8 5)) (yq43.map (It.row .u8 5)) hS34
    refine a_op (i := 3) (fuel := 1) (listed' := #[true, true, true, true, false]) rfl rfl (by kernel_rfl) (by kernel_rfl) rfl (fun K hK => op_callv (d := some 25) rfl rfl ⟨_, Try.func20, by kernel_rfl, by kernel_rfl⟩ (vs := [Value.agg #[Value.int .i64 a0, Value.slice Aq21 a1n cq22, Value.slice Aq25 a2n cq26], Value.agg #[Value.int .i64 a0, Value.slice Aq37 a1n cq38, Value.slice Aq41 a2n cq42]]) (by kernel_rfl) (v := Value.bool true) (eqReceiveWindow_c a0 Aq21 a1n cq22 a1L Aq37 cq38 Aq25 a2n cq26 a2L Aq41 cq42 w34 (hS34r.rdl (κ := .u8) (p := true) (tb := 5) (ys := yq23) (List.mem_of_getElem? (i := 3) rfl) (fun y_ hy_ => (List.mem_cons_of_mem _ (List.mem_cons_of_mem _ (List.mem_cons_of_mem _ (List.mem_cons_of_mem _ (List.mem_cons_of_mem _ (List.mem_cons_of_mem _ (List.mem_cons_of_mem _ (List.mem_cons_of_mem _ (List.mem_append_right _ (List.mem_append_right _ (List.mem_append_left _ (List.mem_map_of_mem hy_))))))))))))) hcq24 a1h.ok a1h.len) (by omega) (hS34r.rdl (κ := .u8) (p := true) (tb := 5) (ys := yq39) (List.mem_of_getElem? (i := 0) rfl) (fun y_ hy_ => (List.mem_cons_of_mem _ (List.mem_cons_of_mem _ (List.mem_cons_of_mem _ (List.mem_cons_of_mem _ (List.mem_cons_of_mem _ (List.mem_cons_of_mem _ (List.mem_cons_of_mem _ (List.mem_cons_of_mem _ (List.mem_append_left _ (List.mem_map_of_mem hy_))))))))))) hcq40 a1h.ok a1h.len) (hS34r.rdl (κ := .u8) (p := false) (tb := 5) (ys := yq27) (List.mem_of_getElem? (i := 4) rfl) (fun y_ hy_ => (List.mem_cons_of_mem _ (List.mem_cons_of_mem _ (List.mem_cons_of_mem _ (List.mem_cons_of_mem _ (List.mem_cons_of_mem _ (List.mem_cons_of_mem _ (List.mem_cons_of_mem _ (List.mem_cons_of_mem _ (List.mem_append_right _ (List.mem_append_right _ (List.mem_append_right _ (List.mem_append_left _ (List.mem_map_of_mem hy_)))))))))))))) hcq28 a2h.ok a2h.len) (by omega) (hS34r.rdl (κ := .u8) (p := false) (tb := 5) (ys := yq43) (List.mem_of_getElem? (i := 1) rfl) (fun y_ hy_ => (List.mem_cons_of_mem _ (List.mem_cons_of_mem _ (List.mem_cons_of_mem _ (List.mem_cons_of_mem _ (List.mem_cons_of_mem _ (List.mem_cons_of_mem _ (List.mem_cons_of_mem _ (List.mem_cons_of_mem _ (List.mem_append_right _ (List.mem_append_left _ (List.mem_map_of_mem hy_)))))))))))) hcq44 a2h.ok a2h.len)) hS34r (fun w45 hS45 => hK _ _ (fun _ => (hS45.sub (List.Sublist.cons _ (List.Sublist.cons _ (List.Sublist.cons_cons _ (List.Sublist.cons_cons _ (List.Sublist.cons_cons _ (List.Sublist.cons_cons _ (List.Sublist.cons_cons _ (List.Sublist.cons_cons _ (List.Sublist.trans (List.Sublist.trans (List.Sublist.append (List.Sublist.refl _) (List.Sublist.append (List.Sublist.refl _) (List.Sublist.append (List.Sublist.refl _) (List.Sublist.append (List.Sublist.refl _) List.Sublist.slnil)))) (List.sublist_append_right _ _)) (List.sublist_append_right _ _)))))))))))) ?_))
    clear hK K
    refine t_seg (S := (fun x_ => St w x_ (Res.box blk30 [Value.int .i64 a0, Value.slice Aq21 a1n cq22, Value.slice Aq25 a2n cq26] 34 :: Res.row (Value.slice Aq21 a1n cq22) 37 2 a1n (flat true yq23) :: Res.row (Value.slice Aq25 a2n cq26) 49 1 a2n (flat false yq27) :: Res.row (Value.slice Aq9 a1n cq10) 37 2 a1n (flat true yq11) :: Res.row (Value.slice Aq13 a2n cq14) 49 1 a2n (flat false yq15) :: Res.box blk2 [Value.int .i64 a0, Value.slice a1A a1n a1c, Value.slice a2A a2n a2c] 25 :: ((yq23.map (It.row .u8 5)) ++ ((yq27.map (It.row .u8 5)) ++ ((yq11.map (It.row .u8 5)) ++ ((yq15.map (It.row .u8 5)) ++ []))))))) [(4, .no)] 0 #[true, true, true, true, true] [(26, Value.bool false)] True (by kernel_rfl) (Qpanic.then (Qpanic.then Qpanic.bp)) rfl (by kernel_rfl) trivial (hS45.sub (List.Sublist.cons _ (List.Sublist.cons _ (List.Sublist.cons_cons _ (List.Sublist.cons_cons _ (List.Sublist.cons_cons _ (List.Sublist.cons_cons _ (List.Sublist.cons_cons _ (List.Sublist.cons_cons _ (List.Sublist.trans (List.Sublist.trans (List.Sublist.append (List.Sublist.refl _) (List.Sublist.append (List.Sublist.refl _) (List.Sublist.append (List.Sublist.refl _) (List.Sublist.append (List.Sublist.refl _) List.Sublist.slnil)))) (List.sublist_append_right _ _)) (List.sublist_append_right _ _))))))))))) ?_
    refine a_done (by kernel_rfl) ?_
    refine then_n ?_
    refine c_false (b := false) (by kernel_rfl) rfl ?_
    refine wp_skip ?_
    refine then_n ?_
    refine wp_seq ?_
    refine c_reg ?_
    refine q_seg (S := (fun x_ => St w x_ (Res.row (Value.slice Aq37 a1n cq38) 37 2 a1n (flat true yq39) :: Res.row (Value.slice Aq41 a2n cq42) 49 1 a2n (flat false yq43) :: Res.box blk30 [Value.int .i64 a0, Value.slice Aq21 a1n cq22, Value.slice Aq25 a2n cq26] 34 :: Res.row (Value.slice Aq21 a1n cq22) 37 2 a1n (flat true yq23) :: Res.row (Value.slice Aq25 a2n cq26) 49 1 a2n (flat false yq27) :: Res.row (Value.slice Aq9 a1n cq10) 37 2 a1n (flat true yq11) :: Res.row (Value.slice Aq13 a2n cq14) 49 1 a2n (flat false yq15) :: Res.box blk2 [Value.int .i64 a0, Value.slice a1A a1n a1c, Value.slice a2A a2n a2c] 25 :: ((yq39.map (It.row .u8 5)) ++ ((yq43.map (It.row .u8 5)) ++ ((yq23.map (It.row .u8 5)) ++ ((yq27.map (It.row .u8 5)) ++ ((yq11.map (It.row .u8 5)) ++ ((yq15.map (It.row .u8 5)) ++ []))))))))) [(2, Value.bool true)] [.no] True (by kernel_rfl) trivial hS45 ?_
    refine l_nil rfl ?_
    refine then_n ?_
    refine wp_ret ?_
    exact c_end (S := (fun x_ => St w x_ (Res.row (Value.slice Aq37 a1n cq38) 37 2 a1n (flat true yq39) :: Res.row (Value.slice Aq41 a2n cq42) 49 1 a2n (flat false yq43) :: Res.box blk30 [Value.int .i64 a0, Value.slice Aq21 a1n cq22, Value.slice Aq25 a2n cq26] 34 :: Res.row (Value.slice Aq21 a1n cq22) 37 2 a1n (flat true yq23) :: Res.row (Value.slice Aq25 a2n cq26) 49 1 a2n (flat false yq27) :: Res.row (Value.slice Aq9 a1n cq10) 37 2 a1n (flat true yq11) :: Res.row (Value.slice Aq13 a2n cq14) 49 1 a2n (flat false yq15) :: Res.box blk2 [Value.int .i64 a0, Value.slice a1A a1n a1c, Value.slice a2A a2n a2c] 25 :: ((yq39.map (It.row .u8 5)) ++ ((yq43.map (It.row .u8 5)) ++ ((yq23.map (It.row .u8 5)) ++ ((yq27.map (It.row .u8 5)) ++ ((yq11.map (It.row .u8 5)) ++ ((yq15.map (It.row .u8 5)) ++ []))))))))) (rs := [.tmp 2]) rfl [] (v := Value.bool true) (C := True) (by kernel_rfl) trivial hS45 ((hS45.rv rfl))
end Go.Proofs.Ytchkiohikhfecaa
