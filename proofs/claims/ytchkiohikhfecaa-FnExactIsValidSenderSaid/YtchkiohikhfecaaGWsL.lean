/-
  The walk of the law FnExactIsValidSender.
-/
import Derived.Test.YtchkiohikhfecaaGWs
import Derived.Test.YtchkiohikhfecaaTypes
namespace Go.Proofs.Ytchkiohikhfecaa
open Go.RowKit
set_option maxRecDepth 100000

theorem walkFnExactIsValidSender (v0 : Value) (w : World) (i0 : InSendWindow51 w w.heap.size v0) : Calls Try.prog 5 #[v0] w (Tr w) := by
  obtain ⟨a0, a1A, a1n, a1c, a1y, rfl, ⟨a0h1, a0h2⟩, a1i⟩ := i0
  obtain ⟨a1k, a1m, _, _⟩ := id a1i
  have a1h := RdL.of_is a1i
  obtain ⟨a1L, a1LE⟩ : ∃ L, L = a1y.map (con true) := ⟨_, rfl⟩
  rw [← a1LE] at a1h
  have a1l := a1h.len
  have a1v := wt_len a1L
  unfold maxLen at a1m
  refine calls_FA Try.func5 rfl (n := 27) rfl (l := [(0, Value.agg #[Value.int .i64 a0, Value.slice a1A a1n a1c])]) rfl (by simp) (fun g => ?_)
  have hS := St.init w
  refine wp_seq ?_
  refine c_reg ?_
  refine l_op rfl rfl (fun K hK => op_box (d := some 1) rfl rfl [Value.int .i64 a0, Value.slice a1A a1n a1c] (by kernel_rfl) hS (fun blk2 w1 hS1 => hK _ _ ?_))
  clear hK K
  refine q_seg (S := (fun x_ => St w x_ [Res.box blk2 [Value.int .i64 a0, Value.slice a1A a1n a1c] 51])) [(2, Value.bool false)] [.no] True (by kernel_rfl) trivial hS1 ?_
  refine l_nil rfl ?_
  refine then_n ?_
  refine wp_seq ?_
  refine c_reg ?_
  refine q_seg (S := (fun x_ => St w x_ [Res.box blk2 [Value.int .i64 a0, Value.slice a1A a1n a1c] 51])) [(3, Value.int .i64 1048576)] [.no] True (by kernel_rfl) trivial hS1 ?_
  refine l_nil rfl ?_
  refine then_n ?_
  refine wp_seq ?_
  refine c_reg ?_
  refine q_seg (S := (fun x_ => St w x_ [Res.box blk2 [Value.int .i64 a0, Value.slice a1A a1n a1c] 51])) [(8, Value.int .i64 1048576), (7, Value.agg #[Value.int .i64 a0, Value.slice a1A a1n a1c])] [.v (Value.agg #[Value.int .i64 a0, Value.slice a1A a1n a1c]), .no] ((LoadsAt Try.prog (fun x_ => St w x_ [Res.box blk2 [Value.int .i64 a0, Value.slice a1A a1n a1c] 51]) 51 ⟨blk2, 0, none⟩ (Value.agg #[Value.int .i64 a0, Value.slice a1A a1n a1c]))) (by kernel_rfl) (ld_boxN (i := 0) (k := 2) rfl rfl rfl (by kernel_rfl)) hS1 ?_
  refine l_op rfl rfl (fun K hK => op_callv (d := some 9) rfl rfl ⟨_, Try.func29, by kernel_rfl, by kernel_rfl⟩ (vs := [Value.agg #[Value.int .i64 a0, Value.slice a1A a1n a1c], Value.int .i64 1048576]) (by kernel_rfl) (v := Value.int .i64 (szF (1048576 : Int) [a1L])) (szSendWindow_c a0 a1A a1n a1c a1L (1048576 : Int) w1 (by omega) (by omega) (hS1.rdllow a1h) (by omega)) hS1 (fun w3 hS3 => hK _ _ ?_))
  clear hK K
  have hsz4 := szF_le [a1L] (1048576 : Int) (by omega)
  refine q_seg (S := (fun x_ => St w x_ [Res.box blk2 [Value.int .i64 a0, Value.slice a1A a1n a1c] 51])) [(3, Value.int .i64 (szF (1048576 : Int) [a1L]))] [.no] True (by kernel_rfl) trivial hS3 ?_
  refine l_nil rfl ?_
  refine then_n ?_
  refine wp_seq ?_
  refine wp_seq ?_
  refine c_reg ?_
  refine q_seg (S := (fun x_ => St w x_ [Res.box blk2 [Value.int .i64 a0, Value.slice a1A a1n a1c] 51])) [(11, Value.bool (decide ((szF (1048576 : Int) [a1L]) < (0 : Int)))), (10, Value.int .i64 (szF (1048576 : Int) [a1L]))] [.no, .no] True (by kernel_rfl) trivial hS3 ?_
  refine l_nil rfl ?_
  refine then_n ?_
  rcases Bool.eq_false_or_eq_true (decide ((szF (1048576 : Int) [a1L]) < (0 : Int))) with hb5 | hb5
  · skip
    have hb5p := of_decide_eq_true hb5
    refine c_true (b := (decide ((szF (1048576 : Int) [a1L]) < (0 : Int)))) (by kernel_rfl) hb5 ?_
    refine wp_seq ?_
    refine c_reg ?_
    refine q_seg (S := (fun x_ => St w x_ [Res.box blk2 [Value.int .i64 a0, Value.slice a1A a1n a1c] 51])) [(2, Value.bool true)] [.no] True (by kernel_rfl) trivial hS3 ?_
    refine l_nil rfl ?_
    refine then_n ?_
    refine wp_ret ?_
    refine then_r ?_
    exact c_end (S := (fun x_ => St w x_ [Res.box blk2 [Value.int .i64 a0, Value.slice a1A a1n a1c] 51])) (rs := [.tmp 2]) rfl [] (v := Value.bool true) (C := True) (by kernel_rfl) trivial hS3 ((hS3.rv rfl))
  · skip
    have hb5p := of_decide_eq_false hb5
    have hb5w := szF_bd _ _ hb5p (by omega)
    simp only [List.map_cons, List.map_nil, List.sum_cons, List.sum_nil] at hb5w
    refine c_false (b := (decide ((szF (1048576 : Int) [a1L]) < (0 : Int)))) (by kernel_rfl) hb5 ?_
    refine wp_skip ?_
    refine then_n ?_
    refine wp_seq ?_
    refine c_reg ?_
    refine q_seg (S := (fun x_ => St w x_ [Res.box blk2 [Value.int .i64 a0, Value.slice a1A a1n a1c] 51])) [(12, Value.agg #[Value.int .i64 a0, Value.slice a1A a1n a1c])] [.v (Value.agg #[Value.int .i64 a0, Value.slice a1A a1n a1c])] ((LoadsAt Try.prog (fun x_ => St w x_ [Res.box blk2 [Value.int .i64 a0, Value.slice a1A a1n a1c] 51]) 51 ⟨blk2, 0, none⟩ (Value.agg #[Value.int .i64 a0, Value.slice a1A a1n a1c]))) (by kernel_rfl) (ld_boxN (i := 0) (k := 2) rfl rfl rfl (by kernel_rfl)) hS3 ?_
    refine l_op rfl rfl (fun K hK => op_call (d := some 13) rfl rfl ⟨_, Try.func31, by kernel_rfl, by kernel_rfl⟩ (vs := [Value.agg #[Value.int .i64 a0, Value.slice a1A a1n a1c]]) (by kernel_rfl) (toSendWindow_c a0 a1A a1n a1c a1L w3 (hS3.rdllow a1h) (by omega)) hS3 (fun v7 new8 w6 Rw6 hS6 => hK _ _ ?_))
    clear hK K
    obtain ⟨Aq9, cq10, yq11, rfl, rfl, hcq12⟩ := Rw6
    have hS6r : St w w6 (Res.row (Value.slice Aq9 a1n cq10) 37 2 a1n (flat true yq11) :: Res.box blk2 [Value.int .i64 a0, Value.slice a1A a1n a1c] 51 :: ((yq11.map (It.row .u8 5)) ++ [])) := St.rot_1 [Res.row (Value.slice Aq9 a1n cq10) 37 2 a1n (flat true yq11)] [Res.box blk2 [Value.int .i64 a0, Value.slice a1A a1n a1c] 51] [] (yq11.map (It.row .u8 5)) hS6
    refine l_op rfl rfl (fun K hK => op_callv (d := some 14) rfl rfl ⟨_, Try.func30, by kernel_rfl, by kernel_rfl⟩ (vs := [Value.agg #[Value.int .i64 a0, Value.slice Aq9 a1n cq10]]) (by kernel_rfl) (v := Value.bool (vsend a0 a1L)) (IsValidSender_s_c a0 Aq9 a1n cq10 a1L w6 (i64 (by omega) (by omega)) (hS6r.rdl (κ := .u8) (p := true) (tb := 5) (ys := yq11) (List.mem_of_getElem? (i := 0) rfl) (fun y_ hy_ => (List.mem_cons_of_mem _ (List.mem_cons_of_mem _ (List.mem_append_left _ (List.mem_map_of_mem hy_))))) hcq12 a1h.ok a1h.len) (by omega)) hS6r (fun w13 hS13 => hK _ _ ?_))
    clear hK K
    refine q_seg (S := (fun x_ => St w x_ (Res.row (Value.slice Aq9 a1n cq10) 37 2 a1n (flat true yq11) :: Res.box blk2 [Value.int .i64 a0, Value.slice a1A a1n a1c] 51 :: ((yq11.map (It.row .u8 5)) ++ [])))) [(4, Value.bool (vsend a0 a1L))] [.no] True (by kernel_rfl) trivial hS13 ?_
    refine l_nil rfl ?_
    refine then_n ?_
    refine wp_seq ?_
    refine c_reg ?_
    refine q_seg (S := (fun x_ => St w x_ (Res.row (Value.slice Aq9 a1n cq10) 37 2 a1n (flat true yq11) :: Res.box blk2 [Value.int .i64 a0, Value.slice a1A a1n a1c] 51 :: ((yq11.map (It.row .u8 5)) ++ [])))) [(15, Value.agg #[Value.int .i64 a0, Value.slice a1A a1n a1c])] [.v (Value.agg #[Value.int .i64 a0, Value.slice a1A a1n a1c])] ((LoadsAt Try.prog (fun x_ => St w x_ (Res.row (Value.slice Aq9 a1n cq10) 37 2 a1n (flat true yq11) :: Res.box blk2 [Value.int .i64 a0, Value.slice a1A a1n a1c] 51 :: ((yq11.map (It.row .u8 5)) ++ []))) 51 ⟨blk2, 0, none⟩ (Value.agg #[Value.int .i64 a0, Value.slice a1A a1n a1c]))) (by kernel_rfl) (ld_boxN (i := 1) (k := 2) rfl rfl rfl (by kernel_rfl)) hS13 ?_
    refine l_op rfl rfl (fun K hK => op_call (d := some 16) rfl rfl ⟨_, Try.func31, by kernel_rfl, by kernel_rfl⟩ (vs := [Value.agg #[Value.int .i64 a0, Value.slice a1A a1n a1c]]) (by kernel_rfl) (toSendWindow_c a0 a1A a1n a1c a1L w13 (hS13.rdllow a1h) (by omega)) hS13 (fun v15 new16 w14 Rw14 hS14 => hK _ _ ?_))
    clear hK K
    obtain ⟨Aq17, cq18, yq19, rfl, rfl, hcq20⟩ := Rw14
    have hS14r : St w w14 (Res.row (Value.slice Aq17 a1n cq18) 37 2 a1n (flat true yq19) :: Res.row (Value.slice Aq9 a1n cq10) 37 2 a1n (flat true yq11) :: Res.box blk2 [Value.int .i64 a0, Value.slice a1A a1n a1c] 51 :: ((yq19.map (It.row .u8 5)) ++ ((yq11.map (It.row .u8 5)) ++ []))) := St.rot_1 [Res.row (Value.slice Aq17 a1n cq18) 37 2 a1n (flat true yq19)] [Res.row (Value.slice Aq9 a1n cq10) 37 2 a1n (flat true yq11), Res.box blk2 [Value.int .i64 a0, Value.slice a1A a1n a1c] 51] ((yq11.map (It.row .u8 5)) ++ []) (yq19.map (It.row .u8 5)) hS14
    refine l_op rfl rfl (fun K hK => op_alloc (d := some 5) rfl rfl [Value.int .i64 0, Value.slice none 0 0] (by kernel_rfl) hS14r (fun blk22 w21 hS21 => hK _ _ ?_))
    clear hK K
    refine l_op rfl rfl (fun K hK => op_store (d := none) rfl rfl (i := 0) (b := blk22) (off := 0) (cs := [Value.int .i64 0, Value.slice none 0 0]) (bt := 55) (by kernel_rfl) (by kernel_rfl) [Value.int .i64 a0, Value.slice Aq17 a1n cq18] (by kernel_rfl) (by kernel_rfl) (Nat.le_of_ble_eq_true (by kernel_rfl)) (by kernel_rfl) (Res.box blk22 [Value.int .i64 a0, Value.slice Aq17 a1n cq18] 55 :: Res.row (Value.slice Aq17 a1n cq18) 37 2 a1n (flat true yq19) :: Res.row (Value.slice Aq9 a1n cq10) 37 2 a1n (flat true yq11) :: Res.box blk2 [Value.int .i64 a0, Value.slice a1A a1n a1c] 51 :: ((yq19.map (It.row .u8 5)) ++ ((yq11.map (It.row .u8 5)) ++ []))) (by kernel_rfl) hS21 (fun w23 hS23 => hK _ _ ?_))
    clear hK K
    refine l_nil rfl ?_
    refine then_n ?_
    refine wp_seq ?_
    refine c_reg ?_
    refine q_seg (S := (fun x_ => St w x_ (Res.box blk22 [Value.int .i64 a0, Value.slice Aq17 a1n cq18] 55 :: Res.row (Value.slice Aq17 a1n cq18) 37 2 a1n (flat true yq19) :: Res.row (Value.slice Aq9 a1n cq10) 37 2 a1n (flat true yq11) :: Res.box blk2 [Value.int .i64 a0, Value.slice a1A a1n a1c] 51 :: ((yq19.map (It.row .u8 5)) ++ ((yq11.map (It.row .u8 5)) ++ []))))) [(17, Value.agg #[Value.int .i64 a0, Value.slice Aq17 a1n cq18])] [.v (Value.agg #[Value.int .i64 a0, Value.slice Aq17 a1n cq18])] ((LoadsAt Try.prog (fun x_ => St w x_ (Res.box blk22 [Value.int .i64 a0, Value.slice Aq17 a1n cq18] 55 :: Res.row (Value.slice Aq17 a1n cq18) 37 2 a1n (flat true yq19) :: Res.row (Value.slice Aq9 a1n cq10) 37 2 a1n (flat true yq11) :: Res.box blk2 [Value.int .i64 a0, Value.slice a1A a1n a1c] 51 :: ((yq19.map (It.row .u8 5)) ++ ((yq11.map (It.row .u8 5)) ++ [])))) 55 ⟨blk22, 0, none⟩ (Value.agg #[Value.int .i64 a0, Value.slice Aq17 a1n cq18]))) (by kernel_rfl) (ld_boxN (i := 0) (k := 2) rfl rfl rfl (by kernel_rfl)) hS23 ?_
    refine l_op rfl rfl (fun K hK => op_callv (d := some 18) rfl rfl ⟨_, Try.func32, by kernel_rfl, by kernel_rfl⟩ (vs := [Value.agg #[Value.int .i64 a0, Value.slice Aq17 a1n cq18]]) (by kernel_rfl) (v := Value.bool (vsend a0 a1L)) (IsValidSender_i_c a0 Aq17 a1n cq18 a1L w23 (i64 (by omega) (by omega)) (hS23.rdl (κ := .u8) (p := true) (tb := 5) (ys := yq19) (List.mem_of_getElem? (i := 1) rfl) (fun y_ hy_ => (List.mem_cons_of_mem _ (List.mem_cons_of_mem _ (List.mem_cons_of_mem _ (List.mem_cons_of_mem _ (List.mem_append_left _ (List.mem_map_of_mem hy_))))))) hcq20 a1h.ok a1h.len) (by omega)) hS23 (fun w24 hS24 => hK _ _ ?_))
    clear hK K
    refine q_seg (S := (fun x_ => St w x_ (Res.box blk22 [Value.int .i64 a0, Value.slice Aq17 a1n cq18] 55 :: Res.row (Value.slice Aq17 a1n cq18) 37 2 a1n (flat true yq19) :: Res.row (Value.slice Aq9 a1n cq10) 37 2 a1n (flat true yq11) :: Res.box blk2 [Value.int .i64 a0, Value.slice a1A a1n a1c] 51 :: ((yq19.map (It.row .u8 5)) ++ ((yq11.map (It.row .u8 5)) ++ []))))) [(6, Value.bool (vsend a0 a1L))] [.no] True (by kernel_rfl) trivial hS24 ?_
    refine l_nil rfl ?_
    refine then_n ?_
    refine wp_seq ?_
    refine wp_seq ?_
    refine c_reg ?_
    refine q_seg (S := (fun x_ => St w x_ (Res.box blk22 [Value.int .i64 a0, Value.slice Aq17 a1n cq18] 55 :: Res.row (Value.slice Aq17 a1n cq18) 37 2 a1n (flat true yq19) :: Res.row (Value.slice Aq9 a1n cq10) 37 2 a1n (flat true yq11) :: Res.box blk2 [Value.int .i64 a0, Value.slice a1A a1n a1c] 51 :: ((yq19.map (It.row .u8 5)) ++ ((yq11.map (It.row .u8 5)) ++ []))))) [(21, Value.bool (!(((vsend a0 a1L) == (vsend a0 a1L))))), (20, Value.bool (vsend a0 a1L)), (19, Value.bool (vsend a0 a1L))] [.no, .no, .no] True (by kernel_rfl) trivial hS24 ?_
    refine l_nil rfl ?_
    refine then_n ?_
    refine c_false (b := (!(((vsend a0 a1L) == (vsend a0 a1L))))) (by kernel_rfl) (nb (v := true) (by simp)) ?_
    refine wp_skip ?_
    refine then_n ?_
    refine wp_seq ?_
    refine wp_seq ?_
    refine c_drawn [] (by kernel_rfl) hS24 (fun w25 hS25 => ?_)
    refine t_seg (S := (fun x_ => St w x_ (Res.box blk22 [Value.int .i64 a0, Value.slice Aq17 a1n cq18] 55 :: Res.row (Value.slice Aq17 a1n cq18) 37 2 a1n (flat true yq19) :: Res.row (Value.slice Aq9 a1n cq10) 37 2 a1n (flat true yq11) :: Res.box blk2 [Value.int .i64 a0, Value.slice a1A a1n a1c] 51 :: ((yq19.map (It.row .u8 5)) ++ ((yq11.map (It.row .u8 5)) ++ []))))) [(0, .v (Value.agg #[Value.int .i64 a0, Value.slice Aq17 a1n cq18])), (1, .v (Value.agg #[Value.int .i64 a0, Value.slice a1A a1n a1c]))] 3 #[true, true, false, false, false] [(23, Value.agg #[Value.int .i64 a0, Value.slice a1A a1n a1c]), (22, Value.agg #[Value.int .i64 a0, Value.slice Aq17 a1n cq18])] ((LoadsAt Try.prog (fun x_ => St w x_ (Res.box blk22 [Value.int .i64 a0, Value.slice Aq17 a1n cq18] 55 :: Res.row (Value.slice Aq17 a1n cq18) 37 2 a1n (flat true yq19) :: Res.row (Value.slice Aq9 a1n cq10) 37 2 a1n (flat true yq11) :: Res.box blk2 [Value.int .i64 a0, Value.slice a1A a1n a1c] 51 :: ((yq19.map (It.row .u8 5)) ++ ((yq11.map (It.row .u8 5)) ++ [])))) 55 ⟨blk22, 0, none⟩ (Value.agg #[Value.int .i64 a0, Value.slice Aq17 a1n cq18])) ∧ (LoadsAt Try.prog (fun x_ => St w x_ (Res.box blk22 [Value.int .i64 a0, Value.slice Aq17 a1n cq18] 55 :: Res.row (Value.slice Aq17 a1n cq18) 37 2 a1n (flat true yq19) :: Res.row (Value.slice Aq9 a1n cq10) 37 2 a1n (flat true yq11) :: Res.box blk2 [Value.int .i64 a0, Value.slice a1A a1n a1c] 51 :: ((yq19.map (It.row .u8 5)) ++ ((yq11.map (It.row .u8 5)) ++ [])))) 51 ⟨blk2, 0, none⟩ (Value.agg #[Value.int .i64 a0, Value.slice a1A a1n a1c]))) (by kernel_rfl) (Qpanic.then (Qpanic.then Qpanic.bp)) rfl (by kernel_rfl) ⟨(ld_boxN (i := 0) (k := 2) rfl rfl rfl (by kernel_rfl)), (ld_boxN (i := 3) (k := 2) rfl rfl rfl (by kernel_rfl))⟩ hS25 ?_
    refine a_op (i := 2) (fuel := 2) (listed' := #[true, true, true, false, false]) rfl rfl (by kernel_rfl) (by kernel_rfl) rfl (fun K hK => op_call (d := some 24) rfl rfl ⟨_, Try.func31, by kernel_rfl, by kernel_rfl⟩ (vs := [Value.agg #[Value.int .i64 a0, Value.slice a1A a1n a1c]]) (by kernel_rfl) (toSendWindow_c a0 a1A a1n a1c a1L w25 (hS25.rdllow a1h) (by omega)) hS25 (fun v27 new28 w26 Rw26 hS26 => hK _ _ (fun _ => hS26.after) ?_))
    clear hK K
    obtain ⟨Aq29, cq30, yq31, rfl, rfl, hcq32⟩ := Rw26
    have hS26r : St w w26 (Res.row (Value.slice Aq29 a1n cq30) 37 2 a1n (flat true yq31) :: Res.box blk22 [Value.int .i64 a0, Value.slice Aq17 a1n cq18] 55 :: Res.row (Value.slice Aq17 a1n cq18) 37 2 a1n (flat true yq19) :: Res.row (Value.slice Aq9 a1n cq10) 37 2 a1n (flat true yq11) :: Res.box blk2 [Value.int .i64 a0, Value.slice a1A a1n a1c] 51 :: ((yq31.map (It.row .u8 5)) ++ ((yq19.map (It.row .u8 5)) ++ ((yq11.map (It.row .u8 5)) ++ [])))) := St.rot_1 [Res.row (Value.slice Aq29 a1n cq30) 37 2 a1n (flat true yq31)] [Res.box blk22 [Value.int .i64 a0, Value.slice Aq17 a1n cq18] 55, Res.row (Value.slice Aq17 a1n cq18) 37 2 a1n (flat true yq19), Res.row (Value.slice Aq9 a1n cq10) 37 2 a1n (flat true yq11), Res.box blk2 [Value.int .i64 a0, Value.slice a1A a1n a1c] 51] ((yq19.map (It.row .u8 5)) ++ ((yq11.map (It.row .u8 5)) ++ [])) (yq31.map (It.row .u8 5)) hS26
    refine a_op (i := 3) (fuel := 1) (listed' := #[true, true, true, true, false]) rfl rfl (by kernel_rfl) (by kernel_rfl) rfl (fun K hK => op_callv (d := some 25) rfl rfl ⟨_, Try.func33, by kernel_rfl, by kernel_rfl⟩ (vs := [Value.agg #[Value.int .i64 a0, Value.slice Aq17 a1n cq18], Value.agg #[Value.int .i64 a0, Value.slice Aq29 a1n cq30]]) (by kernel_rfl) (v := Value.bool true) (eqSendWindow_c a0 Aq17 a1n cq18 a1L Aq29 cq30 w26 (hS26r.rdl (κ := .u8) (p := true) (tb := 5) (ys := yq19) (List.mem_of_getElem? (i := 2) rfl) (fun y_ hy_ => (List.mem_cons_of_mem _ (List.mem_cons_of_mem _ (List.mem_cons_of_mem _ (List.mem_cons_of_mem _ (List.mem_cons_of_mem _ (List.mem_append_right _ (List.mem_append_left _ (List.mem_map_of_mem hy_))))))))) hcq20 a1h.ok a1h.len) (by omega) (hS26r.rdl (κ := .u8) (p := true) (tb := 5) (ys := yq31) (List.mem_of_getElem? (i := 0) rfl) (fun y_ hy_ => (List.mem_cons_of_mem _ (List.mem_cons_of_mem _ (List.mem_cons_of_mem _ (List.mem_cons_of_mem _ (List.mem_cons_of_mem _ (List.mem_append_left _ (List.mem_map_of_mem hy_)))))))) hcq32 a1h.ok a1h.len)) hS26r (fun w33 hS33 => hK _ _ (fun _ => (hS33.sub (List.Sublist.cons _ (List.Sublist.cons_cons _ (List.Sublist.cons_cons _ (List.Sublist.cons_cons _ (List.Sublist.cons_cons _ (List.Sublist.trans (List.Sublist.append (List.Sublist.refl _) (List.Sublist.append (List.Sublist.refl _) List.Sublist.slnil)) (List.sublist_append_right _ _))))))))) ?_))
    clear hK K
    refine t_seg (S := (fun x_ => St w x_ (Res.box blk22 [Value.int .i64 a0, Value.slice Aq17 a1n cq18] 55 :: Res.row (Value.slice Aq17 a1n cq18) 37 2 a1n (flat true yq19) :: Res.row (Value.slice Aq9 a1n cq10) 37 2 a1n (flat true yq11) :: Res.box blk2 [Value.int .i64 a0, Value.slice a1A a1n a1c] 51 :: ((yq19.map (It.row .u8 5)) ++ ((yq11.map (It.row .u8 5)) ++ []))))) [(4, .no)] 0 #[true, true, true, true, true] [(26, Value.bool false)] True (by kernel_rfl) (Qpanic.then (Qpanic.then Qpanic.bp)) rfl (by kernel_rfl) trivial (hS33.sub (List.Sublist.cons _ (List.Sublist.cons_cons _ (List.Sublist.cons_cons _ (List.Sublist.cons_cons _ (List.Sublist.cons_cons _ (List.Sublist.trans (List.Sublist.append (List.Sublist.refl _) (List.Sublist.append (List.Sublist.refl _) List.Sublist.slnil)) (List.sublist_append_right _ _)))))))) ?_
    refine a_done (by kernel_rfl) ?_
    refine then_n ?_
    refine c_false (b := false) (by kernel_rfl) rfl ?_
    refine wp_skip ?_
    refine then_n ?_
    refine wp_seq ?_
    refine c_reg ?_
    refine q_seg (S := (fun x_ => St w x_ (Res.row (Value.slice Aq29 a1n cq30) 37 2 a1n (flat true yq31) :: Res.box blk22 [Value.int .i64 a0, Value.slice Aq17 a1n cq18] 55 :: Res.row (Value.slice Aq17 a1n cq18) 37 2 a1n (flat true yq19) :: Res.row (Value.slice Aq9 a1n cq10) 37 2 a1n (flat true yq11) :: Res.box blk2 [Value.int .i64 a0, Value.slice a1A a1n a1c] 51 :: ((yq31.map (It.row .u8 5)) ++ ((yq19.map (It.row .u8 5)) ++ ((yq11.map (It.row .u8 5)) ++ [])))))) [(2, Value.bool true)] [.no] True (by kernel_rfl) trivial hS33 ?_
    refine l_nil rfl ?_
    refine then_n ?_
    refine wp_ret ?_
    exact c_end (S := (fun x_ => St w x_ (Res.row (Value.slice Aq29 a1n cq30) 37 2 a1n (flat true yq31) :: Res.box blk22 [Value.int .i64 a0, Value.slice Aq17 a1n cq18] 55 :: Res.row (Value.slice Aq17 a1n cq18) 37 2 a1n (flat true yq19) :: Res.row (Value.slice Aq9 a1n cq10) 37 2 a1n (flat true yq11) :: Res.box blk2 [Value.int .i64 a0, Value.slice a1A a1n a1c] 51 :: ((yq31.map (It.row .u8 5)) ++ ((yq19.map (It.row .u8 5)) ++ ((yq11.map (It.row .u8 5)) ++ [])))))) (rs := [.tmp 2]) rfl [] (v := Value.bool true) (C := True) (by kernel_rfl) trivial hS33 ((hS33.rv rfl))
end Go.Proofs.Ytchkiohikhfecaa
