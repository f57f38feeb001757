/-
  The walk of the law FnExactTicksUntilPaged.
-/
import Derived.Test.YtkcedoehehjceaaGTu
import Derived.Test.YtkcedoehehjceaaTypes
namespace Go.Proofs.Ytkcedoehehjceaa
open Go.RowKit
set_option maxRecDepth 100000

theorem walkFnExactTicksUntilPaged (v0 v1 v2 : Value) (w : World) (i0 : InCellMap49 w w.heap.size v0) (i1 : InInt3 w w.heap.size v1) (i2 : InInt3 w w.heap.size v2) : Calls Try.prog 7 #[v0, v1, v2] w (Tr w) := by
  obtain ⟨a0A, a0n, a0c, a0y, rfl, a0i⟩ := i0
  obtain ⟨a0k, a0m, _, _⟩ := id a0i
  have a0h := RdL.of_is a0i
  obtain ⟨a0L, a0LE⟩ : ∃ L, L = a0y.map (con true) := ⟨_, rfl⟩
  rw [← a0LE] at a0h
  have a0l := a0h.len
  have a0v := wt_len a0L
  unfold maxLen at a0m
  obtain ⟨b0, rfl, ⟨b0h1, b0h2⟩⟩ := i1
  obtain ⟨c0, rfl, ⟨c0h1, c0h2⟩⟩ := i2
  refine calls_FA Try.func7 rfl (n := 35) rfl (l := [(0, Value.agg #[Value.slice a0A a0n a0c]), (1, Value.int .i64 b0), (2, Value.int .i64 c0)]) rfl (by simp) (fun g => ?_)
  have hS := St.init w
  refine wp_seq ?_
  refine c_reg ?_
  refine l_op rfl rfl (fun K hK => op_box (d := some 3) rfl rfl [Value.slice a0A a0n a0c] (by kernel_rfl) hS (fun blk2 w1 hS1 => hK _ _ ?_))
  clear hK K
  refine q_seg (S := (fun x_ => St w x_ [Res.box blk2 [Value.slice a0A a0n a0c] 49])) [(6, Value.bool false)] [.no] True (by kernel_rfl) trivial hS1 ?_
  refine l_nil rfl ?_
  refine then_n ?_
  refine wp_seq ?_
  refine c_reg ?_
  refine q_seg (S := (fun x_ => St w x_ [Res.box blk2 [Value.slice a0A a0n a0c] 49])) [(7, Value.int .i64 1048576)] [.no] True (by kernel_rfl) trivial hS1 ?_
  refine l_nil rfl ?_
  refine then_n ?_
  refine wp_seq ?_
  refine c_reg ?_
  refine q_seg (S := (fun x_ => St w x_ [Res.box blk2 [Value.slice a0A a0n a0c] 49])) [(12, Value.int .i64 1048576), (11, Value.agg #[Value.slice a0A a0n a0c])] [.v (Value.agg #[Value.slice a0A a0n a0c]), .no] ((LoadsAt Try.prog (fun x_ => St w x_ [Res.box blk2 [Value.slice a0A a0n a0c] 49]) 49 ⟨blk2, 0, none⟩ (Value.agg #[Value.slice a0A a0n a0c]))) (by kernel_rfl) (ld_boxN (i := 0) (k := 1) rfl rfl rfl (by kernel_rfl)) hS1 ?_
  refine l_op rfl rfl (fun K hK => op_callv (d := some 13) rfl rfl ⟨_, Try.func21, by kernel_rfl, by kernel_rfl⟩ (vs := [Value.agg #[Value.slice a0A a0n a0c], Value.int .i64 1048576]) (by kernel_rfl) (v := Value.int .i64 (szF (1048576 : Int) [a0L])) (szCellMap_c a0A a0n a0c a0L (1048576 : Int) w1 (by omega) (by omega) (hS1.rdllow a0h) (by omega)) hS1 (fun w3 hS3 => hK _ _ ?_))
  clear hK K
  have hsz4 := szF_le [a0L] (1048576 : Int) (by omega)
  refine q_seg (S := (fun x_ => St w x_ [Res.box blk2 [Value.slice a0A a0n a0c] 49])) [(7, Value.int .i64 (szF (1048576 : Int) [a0L]))] [.no] True (by kernel_rfl) trivial hS3 ?_
  refine l_nil rfl ?_
  refine then_n ?_
  refine wp_seq ?_
  refine wp_seq ?_
  refine c_reg ?_
  refine q_seg (S := (fun x_ => St w x_ [Res.box blk2 [Value.slice a0A a0n a0c] 49])) [(15, Value.bool (decide ((szF (1048576 : Int) [a0L]) < (0 : Int)))), (14, Value.int .i64 (szF (1048576 : Int) [a0L]))] [.no, .no] True (by kernel_rfl) trivial hS3 ?_
  refine l_nil rfl ?_
  refine then_n ?_
  rcases Bool.eq_false_or_eq_true (decide ((szF (1048576 : Int) [a0L]) < (0 : Int))) with hb5 | hb5
  · skip
    have hb5p := of_decide_eq_true hb5
    refine c_true (b := (decide ((szF (1048576 : Int) [a0L]) < (0 : Int)))) (by kernel_rfl) hb5 ?_
    refine wp_seq ?_
    refine c_reg ?_
    refine q_seg (S := (fun x_ => St w x_ [Res.box blk2 [Value.slice a0A a0n a0c] 49])) [(6, Value.bool true)] [.no] True (by kernel_rfl) trivial hS3 ?_
    refine l_nil rfl ?_
    refine then_n ?_
    refine wp_ret ?_
    refine then_r ?_
    exact c_end (S := (fun x_ => St w x_ [Res.box blk2 [Value.slice a0A a0n a0c] 49])) (rs := [.tmp 6]) rfl [] (v := Value.bool true) (C := True) (by kernel_rfl) trivial hS3 ((hS3.rv rfl))
  · skip
    have hb5p := of_decide_eq_false hb5
    have hb5w := szF_bd _ _ hb5p (by omega)
    simp only [List.map_cons, List.map_nil, List.sum_cons, List.sum_nil] at hb5w
    refine c_false (b := (decide ((szF (1048576 : Int) [a0L]) < (0 : Int)))) (by kernel_rfl) hb5 ?_
    refine wp_skip ?_
    refine then_n ?_
    refine wp_seq ?_
    refine c_reg ?_
    refine q_seg (S := (fun x_ => St w x_ [Res.box blk2 [Value.slice a0A a0n a0c] 49])) [(16, Value.agg #[Value.slice a0A a0n a0c])] [.v (Value.agg #[Value.slice a0A a0n a0c])] ((LoadsAt Try.prog (fun x_ => St w x_ [Res.box blk2 [Value.slice a0A a0n a0c] 49]) 49 ⟨blk2, 0, none⟩ (Value.agg #[Value.slice a0A a0n a0c]))) (by kernel_rfl) (ld_boxN (i := 0) (k := 1) rfl rfl rfl (by kernel_rfl)) hS3 ?_
    refine l_op rfl rfl (fun K hK => op_call (d := some 17) rfl rfl ⟨_, Try.func23, by kernel_rfl, by kernel_rfl⟩ (vs := [Value.agg #[Value.slice a0A a0n a0c]]) (by kernel_rfl) (toCellMap_c a0A a0n a0c a0L w3 (hS3.rdllow a0h) (by omega)) hS3 (fun v7 new8 w6 Rw6 hS6 => hK _ _ ?_))
    clear hK K
    obtain ⟨Aq9, cq10, yq11, rfl, rfl, hcq12⟩ := Rw6
    have hS6r : St w w6 (Res.row (Value.slice Aq9 a0n cq10) 44 2 a0n (flat true yq11) :: Res.box blk2 [Value.slice a0A a0n a0c] 49 :: ((yq11.map (It.row .i64 3)) ++ [])) := St.rot_1 [Res.row (Value.slice Aq9 a0n cq10) 44 2 a0n (flat true yq11)] [Res.box blk2 [Value.slice a0A a0n a0c] 49] [] (yq11.map (It.row .i64 3)) hS6
    refine q_seg (S := (fun x_ => St w x_ (Res.row (Value.slice Aq9 a0n cq10) 44 2 a0n (flat true yq11) :: Res.box blk2 [Value.slice a0A a0n a0c] 49 :: ((yq11.map (It.row .i64 3)) ++ [])))) [(19, Value.int .i64 c0), (18, Value.int .i64 b0)] [.no, .no] True (by kernel_rfl) trivial hS6r ?_
    refine l_op rfl rfl (fun K hK => op_callv (d := some 20) rfl rfl ⟨_, Try.func29, by kernel_rfl, by kernel_rfl⟩ (vs := [Value.agg #[Value.slice Aq9 a0n cq10], Value.int .i64 b0, Value.int .i64 c0]) (by kernel_rfl) (v := Value.int .i64 (tup a0n a0L b0 c0)) (TicksUntilPaged_s_c Aq9 a0n cq10 a0L b0 c0 w6 (hS6r.rdl (κ := .i64) (p := true) (tb := 3) (ys := yq11) (List.mem_of_getElem? (i := 0) rfl) (fun y_ hy_ => (List.mem_cons_of_mem _ (List.mem_cons_of_mem _ (List.mem_append_left _ (List.mem_map_of_mem hy_))))) hcq12 a0h.ok a0h.len) (by omega) (i64 (by omega) (by omega))) hS6r (fun w13 hS13 => hK _ _ ?_))
    clear hK K
    refine q_seg (S := (fun x_ => St w x_ (Res.row (Value.slice Aq9 a0n cq10) 44 2 a0n (flat true yq11) :: Res.box blk2 [Value.slice a0A a0n a0c] 49 :: ((yq11.map (It.row .i64 3)) ++ [])))) [(8, Value.int .i64 (tup a0n a0L b0 c0))] [.no] True (by kernel_rfl) trivial hS13 ?_
    refine l_nil rfl ?_
    refine then_n ?_
    refine wp_seq ?_
    refine c_reg ?_
    refine q_seg (S := (fun x_ => St w x_ (Res.row (Value.slice Aq9 a0n cq10) 44 2 a0n (flat true yq11) :: Res.box blk2 [Value.slice a0A a0n a0c] 49 :: ((yq11.map (It.row .i64 3)) ++ [])))) [(21, Value.agg #[Value.slice a0A a0n a0c])] [.v (Value.agg #[Value.slice a0A a0n a0c])] ((LoadsAt Try.prog (fun x_ => St w x_ (Res.row (Value.slice Aq9 a0n cq10) 44 2 a0n (flat true yq11) :: Res.box blk2 [Value.slice a0A a0n a0c] 49 :: ((yq11.map (It.row .i64 3)) ++ []))) 49 ⟨blk2, 0, none⟩ (Value.agg #[Value.slice a0A a0n a0c]))) (by kernel_rfl) (ld_boxN (i := 1) (k := 1) rfl rfl rfl (by kernel_rfl)) hS13 ?_
    refine l_op rfl rfl (fun K hK => op_call (d := some 22) rfl rfl ⟨_, Try.func23, by kernel_rfl, by kernel_rfl⟩ (vs := [Value.agg #[Value.slice a0A a0n a0c]]) (by kernel_rfl) (toCellMap_c a0A a0n a0c a0L w13 (hS13.rdllow a0h) (by omega)) hS13 (fun v15 new16 w14 Rw14 hS14 => hK _ _ ?_))
    clear hK K
    obtain ⟨Aq17, cq18, yq19, rfl, rfl, hcq20⟩ := Rw14
    have hS14r : St w w14 (Res.row (Value.slice Aq17 a0n cq18) 44 2 a0n (flat true yq19) :: Res.row (Value.slice Aq9 a0n cq10) 44 2 a0n (flat true yq11) :: Res.box blk2 [Value.slice a0A a0n a0c] 49 :: ((yq19.map (It.row .i64 3)) ++ ((yq11.map (It.row .i64 3)) ++ []))) := St.rot_1 [Res.row (Value.slice Aq17 a0n cq18) 44 2 a0n (flat true yq19)] [Res.row (Value.slice Aq9 a0n cq10) 44 2 a0n (flat true yq11), Res.box blk2 [Value.slice a0A a0n a0c] 49] ((yq11.map (It.row .i64 3)) ++ []) (yq19.map (It.row .i64 3)) hS14
    refine l_op rfl rfl (fun K hK => op_alloc (d := some 9) rfl rfl [Value.slice none 0 0] (by kernel_rfl) hS14r (fun blk22 w21 hS21 => hK _ _ ?_))
    clear hK K
    refine l_op rfl rfl (fun K hK => op_store (d := none) rfl rfl (i := 0) (b := blk22) (off := 0) (cs := [Value.slice none 0 0]) (bt := 32) (by kernel_rfl) (by kernel_rfl) [Value.slice Aq17 a0n cq18] (by kernel_rfl) (by kernel_rfl) (Nat.le_of_ble_eq_true (by kernel_rfl)) (by kernel_rfl) (Res.box blk22 [Value.slice Aq17 a0n cq18] 32 :: Res.row (Value.slice Aq17 a0n cq18) 44 2 a0n (flat true yq19) :: Res.row (Value.slice Aq9 a0n cq10) 44 2 a0n (flat true yq11) :: Res.box blk2 [Value.slice a0A a0n a0c] 49 :: ((yq19.map (It.row .i64 3)) ++ ((yq11.map (It.row .i64 3)) ++ []))) (by kernel_rfl) hS21 (fun w23 hS23 => hK _ _ ?_))
    clear hK K
    refine l_nil rfl ?_
    refine then_n ?_
    refine wp_seq ?_
    refine c_reg ?_
    refine q_seg (S := (fun x_ => St w x_ (Res.box blk22 [Value.slice Aq17 a0n cq18] 32 :: Res.row (Value.slice Aq17 a0n cq18) 44 2 a0n (flat true yq19) :: Res.row (Value.slice Aq9 a0n cq10) 44 2 a0n (flat true yq11) :: Res.box blk2 [Value.slice a0A a0n a0c] 49 :: ((yq19.map (It.row .i64 3)) ++ ((yq11.map (It.row .i64 3)) ++ []))))) [(25, Value.int .i64 c0), (24, Value.int .i64 b0), (23, Value.agg #[Value.slice Aq17 a0n cq18])] [.v (Value.agg #[Value.slice Aq17 a0n cq18]), .no, .no] ((LoadsAt Try.prog (fun x_ => St w x_ (Res.box blk22 [Value.slice Aq17 a0n cq18] 32 :: Res.row (Value.slice Aq17 a0n cq18) 44 2 a0n (flat true yq19) :: Res.row (Value.slice Aq9 a0n cq10) 44 2 a0n (flat true yq11) :: Res.box blk2 [Value.slice a0A a0n a0c] 49 :: ((yq19.map (It.row .i64 3)) ++ ((yq11.map (It.row .i64 3)) ++ [])))) 32 ⟨blk22, 0, none⟩ (Value.agg #[Value.slice Aq17 a0n cq18]))) (by kernel_rfl) (ld_boxN (i := 0) (k := 1) rfl rfl rfl (by kernel_rfl)) hS23 ?_
    refine l_op rfl rfl (fun K hK => op_callv (d := some 26) rfl rfl ⟨_, Try.func18, by kernel_rfl, by kernel_rfl⟩ (vs := [Value.agg #[Value.slice Aq17 a0n cq18], Value.int .i64 b0, Value.int .i64 c0]) (by kernel_rfl) (v := Value.int .i64 (tup a0n a0L b0 c0)) (TicksUntilPaged_i_c Aq17 a0n cq18 a0L b0 c0 w23 (hS23.rdl (κ := .i64) (p := true) (tb := 3) (ys := yq19) (List.mem_of_getElem? (i := 1) rfl) (fun y_ hy_ => (List.mem_cons_of_mem _ (List.mem_cons_of_mem _ (List.mem_cons_of_mem _ (List.mem_cons_of_mem _ (List.mem_append_left _ (List.mem_map_of_mem hy_))))))) hcq20 a0h.ok a0h.len) (by omega) (i64 (by omega) (by omega))) hS23 (fun w24 hS24 => hK _ _ ?_))
    clear hK K
    refine q_seg (S := (fun x_ => St w x_ (Res.box blk22 [Value.slice Aq17 a0n cq18] 32 :: Res.row (Value.slice Aq17 a0n cq18) 44 2 a0n (flat true yq19) :: Res.row (Value.slice Aq9 a0n cq10) 44 2 a0n (flat true yq11) :: Res.box blk2 [Value.slice a0A a0n a0c] 49 :: ((yq19.map (It.row .i64 3)) ++ ((yq11.map (It.row .i64 3)) ++ []))))) [(10, Value.int .i64 (tup a0n a0L b0 c0))] [.no] True (by kernel_rfl) trivial hS24 ?_
    refine l_nil rfl ?_
    refine then_n ?_
    refine wp_seq ?_
    refine wp_seq ?_
    refine c_reg ?_
    refine q_seg (S := (fun x_ => St w x_ (Res.box blk22 [Value.slice Aq17 a0n cq18] 32 :: Res.row (Value.slice Aq17 a0n cq18) 44 2 a0n (flat true yq19) :: Res.row (Value.slice Aq9 a0n cq10) 44 2 a0n (flat true yq11) :: Res.box blk2 [Value.slice a0A a0n a0c] 49 :: ((yq19.map (It.row .i64 3)) ++ ((yq11.map (It.row .i64 3)) ++ []))))) [(29, Value.bool (!(decide ((tup a0n a0L b0 c0) = (tup a0n a0L b0 c0))))), (28, Value.int .i64 (tup a0n a0L b0 c0)), (27, Value.int .i64 (tup a0n a0L b0 c0))] [.no, .no, .no] True (by kernel_rfl) trivial hS24 ?_
    refine l_nil rfl ?_
    refine then_n ?_
    refine c_false (b := (!(decide ((tup a0n a0L b0 c0) = (tup a0n a0L b0 c0))))) (by kernel_rfl) (nb (v := true) (decide_eq_true rfl)) ?_
    refine wp_skip ?_
    refine then_n ?_
    refine wp_seq ?_
    refine wp_seq ?_
    refine c_drawn [] (by kernel_rfl) hS24 (fun w25 hS25 => ?_)
    refine t_seg (S := (fun x_ => St w x_ (Res.box blk22 [Value.slice Aq17 a0n cq18] 32 :: Res.row (Value.slice Aq17 a0n cq18) 44 2 a0n (flat true yq19) :: Res.row (Value.slice Aq9 a0n cq10) 44 2 a0n (flat true yq11) :: Res.box blk2 [Value.slice a0A a0n a0c] 49 :: ((yq19.map (It.row .i64 3)) ++ ((yq11.map (It.row .i64 3)) ++ []))))) [(0, .v (Value.agg #[Value.slice Aq17 a0n cq18])), (1, .v (Value.agg #[Value.slice a0A a0n a0c]))] 3 #[true, true, false, false, false] [(31, Value.agg #[Value.slice a0A a0n a0c]), (30, Value.agg #[Value.slice Aq17 a0n cq18])] ((LoadsAt Try.prog (fun x_ => St w x_ (Res.box blk22 [Value.slice Aq17 a0n cq18] 32 :: Res.row (Value.slice Aq17 a0n cq18) 44 2 a0n (flat true yq19) :: Res.row (Value.slice Aq9 a0n cq10) 44 2 a0n (flat true yq11) :: Res.box blk2 [Value.slice a0A a0n a0c] 49 :: ((yq19.map (It.row .i64 3)) ++ ((yq11.map (It.row .i64 3)) ++ [])))) 32 ⟨blk22, 0, none⟩ (Value.agg #[Value.slice Aq17 a0n cq18])) ∧ (LoadsAt Try.prog (fun x_ => St w x_ (Res.box blk22 [Value.slice Aq17 a0n cq18] 32 :: Res.row (Value.slice Aq17 a0n cq18) 44 2 a0n (flat true yq19) :: Res.row (Value.slice Aq9 a0n cq10) 44 2 a0n (flat true yq11) :: Res.box blk2 [Value.slice a0A a0n a0c] 49 :: ((yq19.map (It.row .i64 3)) ++ ((yq11.map (It.row .i64 3)) ++ [])))) 49 ⟨blk2, 0, none⟩ (Value.agg #[Value.slice a0A a0n a0c]))) (by kernel_rfl) (Qpanic.then (Qpanic.then Qpanic.bp)) rfl (by kernel_rfl) ⟨(ld_boxN (i := 0) (k := 1) rfl rfl rfl (by kernel_rfl)), (ld_boxN (i := 3) (k := 1) rfl rfl rfl (by kernel_rfl))⟩ hS25 ?_
    refine a_op (i := 2) (fuel := 2) (listed' := #[true, true, true, false, false]) rfl rfl (by kernel_rfl) (by kernel_rfl) rfl (fun K hK => op_call (d := some 32) rfl rfl ⟨_, Try.func23, by kernel_rfl, by kernel_rfl⟩ (vs := [Value.agg #[Value.slice a0A a0n a0c]]) (by kernel_rfl) (toCellMap_c a0A a0n a0c a0L w25 (hS25.rdllow a0h) (by omega)) hS25 (fun v27 new28 w26 Rw26 hS26 => hK _ _ (fun _ => hS26.after) ?_))
    clear hK K
    obtain ⟨Aq29, cq30, yq31, rfl, rfl, hcq32⟩ := Rw26
    have hS26r : St w w26 (Res.row (Value.slice Aq29 a0n cq30) 44 2 a0n (flat true yq31) :: Res.box blk22 [Value.slice Aq17 a0n cq18] 32 :: Res.row (Value.slice Aq17 a0n cq18) 44 2 a0n (flat true yq19) :: Res.row (Value.slice Aq9 a0n cq10) 44 2 a0n (flat true yq11) :: Res.box blk2 [Value.slice a0A a0n a0c] 49 :: ((yq31.map (It.row .i64 3)) ++ ((yq19.map (It.row .i64 3)) ++ ((yq11.map (It.row .i64 3)) ++ [])))) := St.rot_1 [Res.row (Value.slice Aq29 a0n cq30) 44 2 a0n (flat true yq31)] [Res.box blk22 [Value.slice Aq17 a0n cq18] 32, Res.row (Value.slice Aq17 a0n cq18) 44 2 a0n (flat true yq19), Res.row (Value.slice Aq9 a0n cq10) 44 2 a0n (flat true yq11), Res.box blk2 [Value.slice a0A a0n a0c] 49] ((yq19.map (It.row .i64 3)) ++ ((yq11.map (It.row .i64 3)) ++ [])) (yq31.map (It.row .i64 3)) hS26
    refine a_op (i := 3) (fuel := 1) (listed' := #[true, true, true, true, false]) rfl rfl (by kernel_rfl) (by kernel_rfl) rfl (fun K hK => op_callv (d := some 33) rfl rfl ⟨_, Try.func25, by kernel_rfl, by kernel_rfl⟩ (vs := [Value.agg #[Value.slice Aq17 a0n cq18], Value.agg #[Value.slice Aq29 a0n cq30]]) (by kernel_rfl) (v := Value.bool true) (eqCellMap_c Aq17 a0n cq18 a0L Aq29 cq30 w26 (hS26r.rdl (κ := .i64) (p := true) (tb := 3) (ys := yq19) (List.mem_of_getElem? (i := 2) rfl) (fun y_ hy_ => (List.mem_cons_of_mem _ (List.mem_cons_of_mem _ (List.mem_cons_of_mem _ (List.mem_cons_of_mem _ (List.mem_cons_of_mem _ (List.mem_append_right _ (List.mem_append_left _ (List.mem_map_of_mem hy_))))))))) hcq20 a0h.ok a0h.len) (by omega) (hS26r.rdl (κ := .i64) (p := true) (tb := 3) (ys := yq31) (List.mem_of_getElem? (i := 0) rfl) (fun y_ hy_ => (List.mem_cons_of_mem _ (List.mem_cons_of_mem _ (List.mem_cons_of_mem _ (List.mem_cons_of_mem _ (List.mem_cons_of_mem _ (List.mem_append_left _ (List.mem_map_of_mem hy_)))))))) hcq32 a0h.ok a0h.len)) hS26r (fun w33 hS33 => hK _ _ (fun _ => (hS33.sub (List.Sublist.cons _ (List.Sublist.cons_cons _ (List.Sublist.cons_cons _ (List.Sublist.cons_cons _ (List.Sublist.cons_cons _ (List.Sublist.trans (List.Sublist.append (List.Sublist.refl _) (List.Sublist.append (List.Sublist.refl _) List.Sublist.slnil)) (List.sublist_append_right _ _))))))))) ?_))
    clear hK K
    refine t_seg (S := (fun x_ => St w x_ (Res.box blk22 [Value.slice Aq17 a0n cq18] 32 :: Res.row (Value.slice Aq17 a0n cq18) 44 2 a0n (flat true yq19) :: Res.row (Value.slice Aq9 a0n cq10) 44 2 a0n (flat true yq11) :: Res.box blk2 [Value.slice a0A a0n a0c] 49 :: ((yq19.map (It.row .i64 3)) ++ ((yq11.map (It.row .i64 3)) ++ []))))) [(4, .no)] 0 #[true, true, true, true, true] [(34, Value.bool false)] True (by kernel_rfl) (Qpanic.then (Qpanic.then Qpanic.bp)) rfl (by kernel_rfl) trivial (hS33.sub (List.Sublist.cons _ (List.Sublist.cons_cons _ (List.Sublist.cons_cons _ (List.Sublist.cons_cons _ (List.Sublist.cons_cons _ (List.Sublist.trans (List.Sublist.append (List.Sublist.refl _) (List.Sublist.append (List.Sublist.refl _) List.Sublist.slnil)) (List.sublist_append_right _ _)))))))) ?_
    refine a_done (by kernel_rfl) ?_
    refine then_n ?_
    refine c_false (b := false) (by kernel_rfl) rfl ?_
    refine wp_skip ?_
    refine then_n ?_
    refine wp_seq ?_
    refine c_reg ?_
    refine q_seg (S := (fun x_ => St w x_ (Res.row (Value.slice Aq29 a0n cq30) 44 2 a0n (flat true yq31) :: Res.box blk22 [Value.slice Aq17 a0n cq18] 32 :: Res.row (Value.slice Aq17 a0n cq18) 44 2 a0n (flat true yq19) :: Res.row (Value.slice Aq9 a0n cq10) 44 2 a0n (flat true yq11) :: Res.box blk2 [Value.slice a0A a0n a0c] 49 :: ((yq31.map (It.row .i64 3)) ++ ((yq19.map (It.row .i64 3)) ++ ((yq11.map (It.row .i64 3)) ++ [])))))) [(6, Value.bool true)] [.no] True (by kernel_rfl) trivial hS33 ?_
    refine l_nil rfl ?_
    refine then_n ?_
    refine wp_ret ?_
    exact c_end (S := (fun x_ => St w x_ (Res.row (Value.slice Aq29 a0n cq30) 44 2 a0n (flat true yq31) :: Res.box blk22 [Value.slice Aq17 a0n cq18] 32 :: Res.row (Value.slice Aq17 a0n cq18) 44 2 a0n (flat true yq19) :: Res.row (Value.slice Aq9 a0n cq10) 44 2 a0n (flat true yq11) :: Res.box blk2 [Value.slice a0A a0n a0c] 49 :: ((yq31.map (It.row .i64 3)) ++ ((yq19.map (It.row .i64 3)) ++ ((yq11.map (It.row .i64 3)) ++ [])))))) (rs := [.tmp 6]) rfl [] (v := Value.bool true) (C := True) (by kernel_rfl) trivial hS33 ((hS33.rv rfl))
end Go.Proofs.Ytkcedoehehjceaa
