/-
  The walks of the laws FnExactAdmitBatch and FnExactRejectedRequests: the law returns true.
-/
import Derived.Test.YtdbbaiflhofkaaaGOv
namespace Go.Proofs.Ytdbbaiflhofkaaa
open Go.RowKit
set_option maxRecDepth 100000

theorem walkFnExactAdmitBatch (v0 v1 v2 : Value) (w : World) (i0 : InOverloadControl23 w w.heap.size v0) (i1 : InInts42 w w.heap.size v1) (i2 : InInt3 w w.heap.size v2) : Calls Try.prog 10 #[v0, v1, v2] w (Tr w) := by
  obtain ⟨a0, a1, a2, rfl, ⟨ha01, ha02⟩, ⟨ha11, ha12⟩, ⟨ha21, ha22⟩⟩ := i0
  obtain ⟨A1, n1, c1, z1, rfl, hnc1, hcm1, hr1, hwf1⟩ := i1
  unfold maxLen at hcm1
  have hz1 : ∀ z ∈ z1, I64 z := fun z h => by have := bounds_i64 (hwf1 z h); unfold I64; omega
  obtain ⟨c, rfl, ⟨hc1, hc2⟩⟩ := i2
  refine calls_FA Try.func10 rfl (n := 48) rfl (l := [(0, Value.agg #[Value.int .i64 a0, Value.int .i64 a1, Value.int .i64 a2]), (1, Value.slice A1 n1 c1), (2, Value.int .i64 c)]) rfl (by simp) (fun g => ?_)
  have hS := St.init w
  refine wp_seq ?_
  refine c_reg ?_
  refine l_op rfl rfl (fun K hK => op_box (d := some 3) rfl rfl [Value.int .i64 a0, Value.int .i64 a1, Value.int .i64 a2] (by kernel_rfl) hS (fun blk2 w1 hS1 => hK _ _ ?_))
  clear hK K
  refine q_seg (S := (fun x_ => St w x_ [Res.box blk2 [Value.int .i64 a0, Value.int .i64 a1, Value.int .i64 a2] 23])) [(6, Value.bool false)] [.no] True (by kernel_rfl) trivial hS1 ?_
  refine l_nil rfl ?_
  refine then_n ?_
  refine wp_seq ?_
  refine wp_seq ?_
  refine c_reg ?_
  refine q_seg (S := (fun x_ => St w x_ [Res.box blk2 [Value.int .i64 a0, Value.int .i64 a1, Value.int .i64 a2] 23])) [(14, Value.bool (decide ((1048576 : Int) < ((n1 : Nat) : Int)))), (13, Value.int .i64 ((n1 : Nat) : Int)), (12, Value.slice A1 n1 c1)] [.no, .no, .no] True (by kernel_rfl) trivial hS1 ?_
  refine l_nil rfl ?_
  refine then_n ?_
  rcases Bool.eq_false_or_eq_true (decide ((1048576 : Int) < ((n1 : Nat) : Int))) with hb3 | hb3
  · skip
    have hb3p := of_decide_eq_true hb3
    refine c_true (b := (decide ((1048576 : Int) < ((n1 : Nat) : Int)))) (by kernel_rfl) hb3 ?_
    refine wp_seq ?_
    refine c_reg ?_
    refine q_seg (S := (fun x_ => St w x_ [Res.box blk2 [Value.int .i64 a0, Value.int .i64 a1, Value.int .i64 a2] 23])) [(6, Value.bool true)] [.no] True (by kernel_rfl) trivial hS1 ?_
    refine l_nil rfl ?_
    refine then_n ?_
    refine wp_ret ?_
    refine then_r ?_
    exact c_end (S := (fun x_ => St w x_ [Res.box blk2 [Value.int .i64 a0, Value.int .i64 a1, Value.int .i64 a2] 23])) (rs := [.tmp 6]) rfl [] (v := Value.bool true) (C := True) (by kernel_rfl) trivial hS1 ((hS1.rv rfl))
  · skip
    have hb3p := of_decide_eq_false hb3
    refine c_false (b := (decide ((1048576 : Int) < ((n1 : Nat) : Int)))) (by kernel_rfl) hb3 ?_
    refine wp_skip ?_
    refine then_n ?_
    refine wp_seq ?_
    refine c_reg ?_
    refine q_seg (S := (fun x_ => St w x_ [Res.box blk2 [Value.int .i64 a0, Value.int .i64 a1, Value.int .i64 a2] 23])) [(16, Value.agg #[Value.int .i64 a0, Value.int .i64 a1, Value.int .i64 a2])] [.v (Value.agg #[Value.int .i64 a0, Value.int .i64 a1, Value.int .i64 a2])] ((LoadsAt Try.prog (fun x_ => St w x_ [Res.box blk2 [Value.int .i64 a0, Value.int .i64 a1, Value.int .i64 a2] 23]) 23 ⟨blk2, 0, none⟩ (Value.agg #[Value.int .i64 a0, Value.int .i64 a1, Value.int .i64 a2]))) (by kernel_rfl) (ld_boxN (i := 0) (k := 3) rfl rfl rfl (by kernel_rfl)) hS1 ?_
    refine l_op rfl rfl (fun K hK => op_callv (d := some 17) rfl rfl ⟨_, Try.func13, by kernel_rfl, by kernel_rfl⟩ (vs := [Value.agg #[Value.int .i64 a0, Value.int .i64 a1, Value.int .i64 a2]]) (by kernel_rfl) (v := Value.agg #[Value.int .i64 a0, Value.int .i64 a1, Value.int .i64 a2]) (toOverloadControl_c a0 a1 a2  _) hS1 (fun w4 hS4 => hK _ _ ?_))
    clear hK K
    refine q_seg (S := (fun x_ => St w x_ [Res.box blk2 [Value.int .i64 a0, Value.int .i64 a1, Value.int .i64 a2] 23])) [(18, Value.slice A1 n1 c1)] [.no] True (by kernel_rfl) trivial hS4 ?_
    refine l_op rfl rfl (fun K hK => op_call (d := some 19) rfl rfl ⟨_, Try.func30, by kernel_rfl, by kernel_rfl⟩ (vs := [Value.slice A1 n1 c1]) (by kernel_rfl) (toIntS_c A1 n1 c1 z1 w4 (by omega) (hS4.rdlow hr1)) hS4 (fun v6 new7 w5 Rw5 hS5 => hK _ _ ?_))
    clear hK K
    obtain ⟨blk8, rfl, rfl⟩ := Rw5
    refine q_seg (S := (fun x_ => St w x_ [Res.row (Value.slice (some ⟨blk8, 0, none⟩) n1 n1) 3 1 n1 (z1.map (Value.int .i64)), Res.box blk2 [Value.int .i64 a0, Value.int .i64 a1, Value.int .i64 a2] 23])) [(20, Value.int .i64 c)] [.no] True (by kernel_rfl) trivial hS5 ?_
    refine l_op rfl rfl (fun K hK => op_callv (d := some 21) rfl rfl ⟨_, Try.func29, by kernel_rfl, by kernel_rfl⟩ (vs := [Value.agg #[Value.int .i64 a0, Value.int .i64 a1, Value.int .i64 a2], Value.slice (some ⟨blk8, 0, none⟩) n1 n1, Value.int .i64 c]) (by kernel_rfl) (v := Value.tuple #[Value.agg #[Value.int .i64 a0, Value.int .i64 ((batch a0 c z1 (a1, a2)).1), Value.int .i64 ((batch a0 c z1 (a1, a2)).2)], Value.int .i64 ((batchN a0 c z1 (a1, a2) : Nat) : Int)]) (AdmitBatch_s_c a0 a1 a2 c (some ⟨blk8, 0, none⟩) n1 n1 z1 w5 (i64 (by omega) (by omega)) (i64 (by omega) (by omega)) (i64 (by omega) (by omega)) (i64 (by omega) (by omega)) hz1 (by omega) (hS5.rd (List.mem_of_getElem? (i := 0) rfl)).u1) hS5 (fun w9 hS9 => hK _ _ ?_))
    clear hK K
    refine q_seg (S := (fun x_ => St w x_ [Res.row (Value.slice (some ⟨blk8, 0, none⟩) n1 n1) 3 1 n1 (z1.map (Value.int .i64)), Res.box blk2 [Value.int .i64 a0, Value.int .i64 a1, Value.int .i64 a2] 23])) [(23, Value.int .i64 ((batchN a0 c z1 (a1, a2) : Nat) : Int)), (22, Value.agg #[Value.int .i64 a0, Value.int .i64 ((batch a0 c z1 (a1, a2)).1), Value.int .i64 ((batch a0 c z1 (a1, a2)).2)]), (15, Value.tuple #[Value.agg #[Value.int .i64 a0, Value.int .i64 ((batch a0 c z1 (a1, a2)).1), Value.int .i64 ((batch a0 c z1 (a1, a2)).2)], Value.int .i64 ((batchN a0 c z1 (a1, a2) : Nat) : Int)])] [.no, .no, .no] True (by kernel_rfl) trivial hS9 ?_
    refine l_op rfl rfl (fun K hK => op_alloc (d := some 7) rfl rfl [Value.int .i64 0, Value.int .i64 0, Value.int .i64 0] (by kernel_rfl) hS9 (fun blk11 w10 hS10 => hK _ _ ?_))
    clear hK K
    refine l_op rfl rfl (fun K hK => op_store (d := none) rfl rfl (i := 0) (b := blk11) (off := 0) (cs := [Value.int .i64 0, Value.int .i64 0, Value.int .i64 0]) (bt := 25) (by kernel_rfl) (by kernel_rfl) [Value.int .i64 a0, Value.int .i64 ((batch a0 c z1 (a1, a2)).1), Value.int .i64 ((batch a0 c z1 (a1, a2)).2)] (by kernel_rfl) (by kernel_rfl) (Nat.le_of_ble_eq_true (by kernel_rfl)) (by kernel_rfl) [Res.box blk11 [Value.int .i64 a0, Value.int .i64 ((batch a0 c z1 (a1, a2)).1), Value.int .i64 ((batch a0 c z1 (a1, a2)).2)] 25, Res.row (Value.slice (some ⟨blk8, 0, none⟩) n1 n1) 3 1 n1 (z1.map (Value.int .i64)), Res.box blk2 [Value.int .i64 a0, Value.int .i64 a1, Value.int .i64 a2] 23] (by kernel_rfl) hS10 (fun w12 hS12 => hK _ _ ?_))
    clear hK K
    refine q_seg (S := (fun x_ => St w x_ [Res.box blk11 [Value.int .i64 a0, Value.int .i64 ((batch a0 c z1 (a1, a2)).1), Value.int .i64 ((batch a0 c z1 (a1, a2)).2)] 25, Res.row (Value.slice (some ⟨blk8, 0, none⟩) n1 n1) 3 1 n1 (z1.map (Value.int .i64)), Res.box blk2 [Value.int .i64 a0, Value.int .i64 a1, Value.int .i64 a2] 23])) [(8, Value.int .i64 ((batchN a0 c z1 (a1, a2) : Nat) : Int))] [.no] True (by kernel_rfl) trivial hS12 ?_
    refine l_nil rfl ?_
    refine then_n ?_
    refine wp_seq ?_
    refine c_reg ?_
    refine q_seg (S := (fun x_ => St w x_ [Res.box blk11 [Value.int .i64 a0, Value.int .i64 ((batch a0 c z1 (a1, a2)).1), Value.int .i64 ((batch a0 c z1 (a1, a2)).2)] 25, Res.row (Value.slice (some ⟨blk8, 0, none⟩) n1 n1) 3 1 n1 (z1.map (Value.int .i64)), Res.box blk2 [Value.int .i64 a0, Value.int .i64 a1, Value.int .i64 a2] 23])) [(24, Value.slice A1 n1 c1)] [.no] True (by kernel_rfl) trivial hS12 ?_
    refine l_op rfl rfl (fun K hK => op_call (d := some 25) rfl rfl ⟨_, Try.func30, by kernel_rfl, by kernel_rfl⟩ (vs := [Value.slice A1 n1 c1]) (by kernel_rfl) (toIntS_c A1 n1 c1 z1 w12 (by omega) (hS12.rdlow hr1)) hS12 (fun v14 new15 w13 Rw13 hS13 => hK _ _ ?_))
    clear hK K
    obtain ⟨blk16, rfl, rfl⟩ := Rw13
    refine q_seg (S := (fun x_ => St w x_ [Res.row (Value.slice (some ⟨blk16, 0, none⟩) n1 n1) 3 1 n1 (z1.map (Value.int .i64)), Res.box blk11 [Value.int .i64 a0, Value.int .i64 ((batch a0 c z1 (a1, a2)).1), Value.int .i64 ((batch a0 c z1 (a1, a2)).2)] 25, Res.row (Value.slice (some ⟨blk8, 0, none⟩) n1 n1) 3 1 n1 (z1.map (Value.int .i64)), Res.box blk2 [Value.int .i64 a0, Value.int .i64 a1, Value.int .i64 a2] 23])) [(9, Value.slice (some ⟨blk16, 0, none⟩) n1 n1)] [.no] True (by kernel_rfl) trivial hS13 ?_
    refine l_nil rfl ?_
    refine then_n ?_
    refine wp_seq ?_
    refine c_reg ?_
    refine q_seg (S := (fun x_ => St w x_ [Res.row (Value.slice (some ⟨blk16, 0, none⟩) n1 n1) 3 1 n1 (z1.map (Value.int .i64)), Res.box blk11 [Value.int .i64 a0, Value.int .i64 ((batch a0 c z1 (a1, a2)).1), Value.int .i64 ((batch a0 c z1 (a1, a2)).2)] 25, Res.row (Value.slice (some ⟨blk8, 0, none⟩) n1 n1) 3 1 n1 (z1.map (Value.int .i64)), Res.box blk2 [Value.int .i64 a0, Value.int .i64 a1, Value.int .i64 a2] 23])) [(27, Value.agg #[Value.int .i64 a0, Value.int .i64 a1, Value.int .i64 a2])] [.v (Value.agg #[Value.int .i64 a0, Value.int .i64 a1, Value.int .i64 a2])] ((LoadsAt Try.prog (fun x_ => St w x_ [Res.row (Value.slice (some ⟨blk16, 0, none⟩) n1 n1) 3 1 n1 (z1.map (Value.int .i64)), Res.box blk11 [Value.int .i64 a0, Value.int .i64 ((batch a0 c z1 (a1, a2)).1), Value.int .i64 ((batch a0 c z1 (a1, a2)).2)] 25, Res.row (Value.slice (some ⟨blk8, 0, none⟩) n1 n1) 3 1 n1 (z1.map (Value.int .i64)), Res.box blk2 [Value.int .i64 a0, Value.int .i64 a1, Value.int .i64 a2] 23]) 23 ⟨blk2, 0, none⟩ (Value.agg #[Value.int .i64 a0, Value.int .i64 a1, Value.int .i64 a2]))) (by kernel_rfl) (ld_boxN (i := 3) (k := 3) rfl rfl rfl (by kernel_rfl)) hS13 ?_
    refine l_op rfl rfl (fun K hK => op_callv (d := some 28) rfl rfl ⟨_, Try.func13, by kernel_rfl, by kernel_rfl⟩ (vs := [Value.agg #[Value.int .i64 a0, Value.int .i64 a1, Value.int .i64 a2]]) (by kernel_rfl) (v := Value.agg #[Value.int .i64 a0, Value.int .i64 a1, Value.int .i64 a2]) (toOverloadControl_c a0 a1 a2  _) hS13 (fun w17 hS17 => hK _ _ ?_))
    clear hK K
    refine q_seg (S := (fun x_ => St w x_ [Res.row (Value.slice (some ⟨blk16, 0, none⟩) n1 n1) 3 1 n1 (z1.map (Value.int .i64)), Res.box blk11 [Value.int .i64 a0, Value.int .i64 ((batch a0 c z1 (a1, a2)).1), Value.int .i64 ((batch a0 c z1 (a1, a2)).2)] 25, Res.row (Value.slice (some ⟨blk8, 0, none⟩) n1 n1) 3 1 n1 (z1.map (Value.int .i64)), Res.box blk2 [Value.int .i64 a0, Value.int .i64 a1, Value.int .i64 a2] 23])) [(30, Value.int .i64 c), (29, Value.slice (some ⟨blk16, 0, none⟩) n1 n1)] [.no, .no] True (by kernel_rfl) trivial hS17 ?_
    refine l_op rfl rfl (fun K hK => op_callv (d := some 31) rfl rfl ⟨_, Try.func27, by kernel_rfl, by kernel_rfl⟩ (vs := [Value.agg #[Value.int .i64 a0, Value.int .i64 a1, Value.int .i64 a2], Value.slice (some ⟨blk16, 0, none⟩) n1 n1, Value.int .i64 c]) (by kernel_rfl) (v := Value.tuple #[Value.agg #[Value.int .i64 a0, Value.int .i64 ((batch a0 c z1 (a1, a2)).1), Value.int .i64 ((batch a0 c z1 (a1, a2)).2)], Value.int .i64 ((batchN a0 c z1 (a1, a2) : Nat) : Int)]) (AdmitBatch_i_c a0 a1 a2 c (some ⟨blk16, 0, none⟩) n1 n1 z1 w17 (i64 (by omega) (by omega)) (i64 (by omega) (by omega)) (i64 (by omega) (by omega)) (i64 (by omega) (by omega)) hz1 (by omega) (hS17.rd (List.mem_of_getElem? (i := 0) rfl)).u1) hS17 (fun w18 hS18 => hK _ _ ?_))
    clear hK K
    refine q_seg (S := (fun x_ => St w x_ [Res.row (Value.slice (some ⟨blk16, 0, none⟩) n1 n1) 3 1 n1 (z1.map (Value.int .i64)), Res.box blk11 [Value.int .i64 a0, Value.int .i64 ((batch a0 c z1 (a1, a2)).1), Value.int .i64 ((batch a0 c z1 (a1, a2)).2)] 25, Res.row (Value.slice (some ⟨blk8, 0, none⟩) n1 n1) 3 1 n1 (z1.map (Value.int .i64)), Res.box blk2 [Value.int .i64 a0, Value.int .i64 a1, Value.int .i64 a2] 23])) [(33, Value.int .i64 ((batchN a0 c z1 (a1, a2) : Nat) : Int)), (32, Value.agg #[Value.int .i64 a0, Value.int .i64 ((batch a0 c z1 (a1, a2)).1), Value.int .i64 ((batch a0 c z1 (a1, a2)).2)]), (26, Value.tuple #[Value.agg #[Value.int .i64 a0, Value.int .i64 ((batch a0 c z1 (a1, a2)).1), Value.int .i64 ((batch a0 c z1 (a1, a2)).2)], Value.int .i64 ((batchN a0 c z1 (a1, a2) : Nat) : Int)])] [.no, .no, .no] True (by kernel_rfl) trivial hS18 ?_
    refine l_op rfl rfl (fun K hK => op_alloc (d := some 10) rfl rfl [Value.int .i64 0, Value.int .i64 0, Value.int .i64 0] (by kernel_rfl) hS18 (fun blk20 w19 hS19 => hK _ _ ?_))
    clear hK K
    refine l_op rfl rfl (fun K hK => op_store (d := none) rfl rfl (i := 0) (b := blk20) (off := 0) (cs := [Value.int .i64 0, Value.int .i64 0, Value.int .i64 0]) (bt := 25) (by kernel_rfl) (by kernel_rfl) [Value.int .i64 a0, Value.int .i64 ((batch a0 c z1 (a1, a2)).1), Value.int .i64 ((batch a0 c z1 (a1, a2)).2)] (by kernel_rfl) (by kernel_rfl) (Nat.le_of_ble_eq_true (by kernel_rfl)) (by kernel_rfl) [Res.box blk20 [Value.int .i64 a0, Value.int .i64 ((batch a0 c z1 (a1, a2)).1), Value.int .i64 ((batch a0 c z1 (a1, a2)).2)] 25, Res.row (Value.slice (some ⟨blk16, 0, none⟩) n1 n1) 3 1 n1 (z1.map (Value.int .i64)), Res.box blk11 [Value.int .i64 a0, Value.int .i64 ((batch a0 c z1 (a1, a2)).1), Value.int .i64 ((batch a0 c z1 (a1, a2)).2)] 25, Res.row (Value.slice (some ⟨blk8, 0, none⟩) n1 n1) 3 1 n1 (z1.map (Value.int .i64)), Res.box blk2 [Value.int .i64 a0, Value.int .i64 a1, Value.int .i64 a2] 23] (by kernel_rfl) hS19 (fun w21 hS21 => hK _ _ ?_))
    clear hK K
    refine q_seg (S := (fun x_ => St w x_ [Res.box blk20 [Value.int .i64 a0, Value.int .i64 ((batch a0 c z1 (a1, a2)).1), Value.int .i64 ((batch a0 c z1 (a1, a2)).2)] 25, Res.row (Value.slice (some ⟨blk16, 0, none⟩) n1 n1) 3 1 n1 (z1.map (Value.int .i64)), Res.box blk11 [Value.int .i64 a0, Value.int .i64 ((batch a0 c z1 (a1, a2)).1), Value.int .i64 ((batch a0 c z1 (a1, a2)).2)] 25, Res.row (Value.slice (some ⟨blk8, 0, none⟩) n1 n1) 3 1 n1 (z1.map (Value.int .i64)), Res.box blk2 [Value.int .i64 a0, Value.int .i64 a1, Value.int .i64 a2] 23])) [(11, Value.int .i64 ((batchN a0 c z1 (a1, a2) : Nat) : Int))] [.no] True (by kernel_rfl) trivial hS21 ?_
    refine l_nil rfl ?_
    refine then_n ?_
    refine wp_seq ?_
    refine wp_seq ?_
    refine c_reg ?_
    refine q_seg (S := (fun x_ => St w x_ [Res.box blk20 [Value.int .i64 a0, Value.int .i64 ((batch a0 c z1 (a1, a2)).1), Value.int .i64 ((batch a0 c z1 (a1, a2)).2)] 25, Res.row (Value.slice (some ⟨blk16, 0, none⟩) n1 n1) 3 1 n1 (z1.map (Value.int .i64)), Res.box blk11 [Value.int .i64 a0, Value.int .i64 ((batch a0 c z1 (a1, a2)).1), Value.int .i64 ((batch a0 c z1 (a1, a2)).2)] 25, Res.row (Value.slice (some ⟨blk8, 0, none⟩) n1 n1) 3 1 n1 (z1.map (Value.int .i64)), Res.box blk2 [Value.int .i64 a0, Value.int .i64 a1, Value.int .i64 a2] 23])) [(35, Value.agg #[Value.int .i64 a0, Value.int .i64 ((batch a0 c z1 (a1, a2)).1), Value.int .i64 ((batch a0 c z1 (a1, a2)).2)]), (34, Value.agg #[Value.int .i64 a0, Value.int .i64 ((batch a0 c z1 (a1, a2)).1), Value.int .i64 ((batch a0 c z1 (a1, a2)).2)])] [.v (Value.agg #[Value.int .i64 a0, Value.int .i64 ((batch a0 c z1 (a1, a2)).1), Value.int .i64 ((batch a0 c z1 (a1, a2)).2)]), .v (Value.agg #[Value.int .i64 a0, Value.int .i64 ((batch a0 c z1 (a1, a2)).1), Value.int .i64 ((batch a0 c z1 (a1, a2)).2)])] ((LoadsAt Try.prog (fun x_ => St w x_ [Res.box blk20 [Value.int .i64 a0, Value.int .i64 ((batch a0 c z1 (a1, a2)).1), Value.int .i64 ((batch a0 c z1 (a1, a2)).2)] 25, Res.row (Value.slice (some ⟨blk16, 0, none⟩) n1 n1) 3 1 n1 (z1.map (Value.int .i64)), Res.box blk11 [Value.int .i64 a0, Value.int .i64 ((batch a0 c z1 (a1, a2)).1), Value.int .i64 ((batch a0 c z1 (a1, a2)).2)] 25, Res.row (Value.slice (some ⟨blk8, 0, none⟩) n1 n1) 3 1 n1 (z1.map (Value.int .i64)), Res.box blk2 [Value.int .i64 a0, Value.int .i64 a1, Value.int .i64 a2] 23]) 25 ⟨blk20, 0, none⟩ (Value.agg #[Value.int .i64 a0, Value.int .i64 ((batch a0 c z1 (a1, a2)).1), Value.int .i64 ((batch a0 c z1 (a1, a2)).2)])) ∧ (LoadsAt Try.prog (fun x_ => St w x_ [Res.box blk20 [Value.int .i64 a0, Value.int .i64 ((batch a0 c z1 (a1, a2)).1), Value.int .i64 ((batch a0 c z1 (a1, a2)).2)] 25, Res.row (Value.slice (some ⟨blk16, 0, none⟩) n1 n1) 3 1 n1 (z1.map (Value.int .i64)), Res.box blk11 [Value.int .i64 a0, Value.int .i64 ((batch a0 c z1 (a1, a2)).1), Value.int .i64 ((batch a0 c z1 (a1, a2)).2)] 25, Res.row (Value.slice (some ⟨blk8, 0, none⟩) n1 n1) 3 1 n1 (z1.map (Value.int .i64)), Res.box blk2 [Value.int .i64 a0, Value.int .i64 a1, Value.int .i64 a2] 23]) 25 ⟨blk11, 0, none⟩ (Value.agg #[Value.int .i64 a0, Value.int .i64 ((batch a0 c z1 (a1, a2)).1), Value.int .i64 ((batch a0 c z1 (a1, a2)).2)]))) (by kernel_rfl) ⟨(ld_boxN (i := 0) (k := 3) rfl rfl rfl (by kernel_rfl)), (ld_boxN (i := 2) (k := 3) rfl rfl rfl (by kernel_rfl))⟩ hS21 ?_
    refine l_op rfl rfl (fun K hK => op_callv (d := some 36) rfl rfl ⟨_, Try.func23, by kernel_rfl, by kernel_rfl⟩ (vs := [Value.agg #[Value.int .i64 a0, Value.int .i64 ((batch a0 c z1 (a1, a2)).1), Value.int .i64 ((batch a0 c z1 (a1, a2)).2)], Value.agg #[Value.int .i64 a0, Value.int .i64 ((batch a0 c z1 (a1, a2)).1), Value.int .i64 ((batch a0 c z1 (a1, a2)).2)]]) (by kernel_rfl) (v := Value.bool true) (eqOverloadControl_c a0 ((batch a0 c z1 (a1, a2)).1) ((batch a0 c z1 (a1, a2)).2) _) hS21 (fun w22 hS22 => hK _ _ ?_))
    clear hK K
    refine q_seg (S := (fun x_ => St w x_ [Res.box blk20 [Value.int .i64 a0, Value.int .i64 ((batch a0 c z1 (a1, a2)).1), Value.int .i64 ((batch a0 c z1 (a1, a2)).2)] 25, Res.row (Value.slice (some ⟨blk16, 0, none⟩) n1 n1) 3 1 n1 (z1.map (Value.int .i64)), Res.box blk11 [Value.int .i64 a0, Value.int .i64 ((batch a0 c z1 (a1, a2)).1), Value.int .i64 ((batch a0 c z1 (a1, a2)).2)] 25, Res.row (Value.slice (some ⟨blk8, 0, none⟩) n1 n1) 3 1 n1 (z1.map (Value.int .i64)), Res.box blk2 [Value.int .i64 a0, Value.int .i64 a1, Value.int .i64 a2] 23])) [(42, Value.bool (!(decide (((batchN a0 c z1 (a1, a2) : Nat) : Int) = ((batchN a0 c z1 (a1, a2) : Nat) : Int))))), (41, Value.bool (!(decide (((batchN a0 c z1 (a1, a2) : Nat) : Int) = ((batchN a0 c z1 (a1, a2) : Nat) : Int))))), (40, Value.int .i64 ((batchN a0 c z1 (a1, a2) : Nat) : Int)), (39, Value.int .i64 ((batchN a0 c z1 (a1, a2) : Nat) : Int)), (38, Value.bool false), (37, Value.bool false)] [.no, .no, .no, .no, .no, .v (.bool false)] ((false = false) ∧ (false = false) ∧ (false = false) ∧ (false = false)) (by kernel_rfl) ⟨rfl, rfl, rfl, rfl⟩ hS22 ?_
    refine l_nil rfl ?_
    refine then_n ?_
    refine c_false (b := (!(decide (((batchN a0 c z1 (a1, a2) : Nat) : Int) = ((batchN a0 c z1 (a1, a2) : Nat) : Int))))) (by kernel_rfl) (nb (v := true) (decide_eq_true rfl)) ?_
    refine wp_skip ?_
    refine then_n ?_
    refine wp_seq ?_
    refine wp_seq ?_
    refine c_reg ?_
    refine q_seg (S := (fun x_ => St w x_ [Res.box blk20 [Value.int .i64 a0, Value.int .i64 ((batch a0 c z1 (a1, a2)).1), Value.int .i64 ((batch a0 c z1 (a1, a2)).2)] 25, Res.row (Value.slice (some ⟨blk16, 0, none⟩) n1 n1) 3 1 n1 (z1.map (Value.int .i64)), Res.box blk11 [Value.int .i64 a0, Value.int .i64 ((batch a0 c z1 (a1, a2)).1), Value.int .i64 ((batch a0 c z1 (a1, a2)).2)] 25, Res.row (Value.slice (some ⟨blk8, 0, none⟩) n1 n1) 3 1 n1 (z1.map (Value.int .i64)), Res.box blk2 [Value.int .i64 a0, Value.int .i64 a1, Value.int .i64 a2] 23])) [(44, Value.slice A1 n1 c1), (43, Value.slice (some ⟨blk16, 0, none⟩) n1 n1)] [.no, .no] True (by kernel_rfl) trivial hS22 ?_
    refine l_op rfl rfl (fun K hK => op_call (d := some 45) rfl rfl ⟨_, Try.func30, by kernel_rfl, by kernel_rfl⟩ (vs := [Value.slice A1 n1 c1]) (by kernel_rfl) (toIntS_c A1 n1 c1 z1 w22 (by omega) (hS22.rdlow hr1)) hS22 (fun v24 new25 w23 Rw23 hS23 => hK _ _ ?_))
    clear hK K
    obtain ⟨blk26, rfl, rfl⟩ := Rw23
    refine l_op rfl rfl (fun K hK => op_callv (d := some 46) rfl rfl ⟨_, Try.func31, by kernel_rfl, by kernel_rfl⟩ (vs := [Value.slice (some ⟨blk16, 0, none⟩) n1 n1, Value.slice (some ⟨blk26, 0, none⟩) n1 n1]) (by kernel_rfl) (v := Value.bool true) (eqIntS_c (some ⟨blk16, 0, none⟩) (some ⟨blk26, 0, none⟩) n1 n1 n1 z1 w23 (by omega) (hS23.rd (List.mem_of_getElem? (i := 2) rfl)).u1 (hS23.rd (List.mem_of_getElem? (i := 0) rfl)).u1) hS23 (fun w27 hS27 => hK _ _ ?_))
    clear hK K
    refine q_seg (S := (fun x_ => St w x_ [Res.row (Value.slice (some ⟨blk26, 0, none⟩) n1 n1) 3 1 n1 (z1.map (Value.int .i64)), Res.box blk20 [Value.int .i64 a0, Value.int .i64 ((batch a0 c z1 (a1, a2)).1), Value.int .i64 ((batch a0 c z1 (a1, a2)).2)] 25, Res.row (Value.slice (some ⟨blk16, 0, none⟩) n1 n1) 3 1 n1 (z1.map (Value.int .i64)), Res.box blk11 [Value.int .i64 a0, Value.int .i64 ((batch a0 c z1 (a1, a2)).1), Value.int .i64 ((batch a0 c z1 (a1, a2)).2)] 25, Res.row (Value.slice (some ⟨blk8, 0, none⟩) n1 n1) 3 1 n1 (z1.map (Value.int .i64)), Res.box blk2 [Value.int .i64 a0, Value.int .i64 a1, Value.int .i64 a2] 23])) [(47, Value.bool false)] [.no] True (by kernel_rfl) trivial hS27 ?_
    refine l_nil rfl ?_
    refine then_n ?_
    refine c_false (b := false) (by kernel_rfl) rfl ?_
    refine wp_skip ?_
    refine then_n ?_
    refine wp_seq ?_
    refine c_reg ?_
    refine q_seg (S := (fun x_ => St w x_ [Res.row (Value.slice (some ⟨blk26, 0, none⟩) n1 n1) 3 1 n1 (z1.map (Value.int .i64)), Res.box blk20 [Value.int .i64 a0, Value.int .i64 ((batch a0 c z1 (a1, a2)).1), Value.int .i64 ((batch a0 c z1 (a1, a2)).2)] 25, Res.row (Value.slice (some ⟨blk16, 0, none⟩) n1 n1) 3 1 n1 (z1.map (Value.int .i64)), Res.box blk11 [Value.int .i64 a0, Value.int .i64 ((batch a0 c z1 (a1, a2)).1), Value.int .i64 ((batch a0 c z1 (a1, a2)).2)] 25, Res.row (Value.slice (some ⟨blk8, 0, none⟩) n1 n1) 3 1 n1 (z1.map (Value.int .i64)), Res.box blk2 [Value.int .i64 a0, Value.int .i64 a1, Value.int .i64 a2] 23])) [(6, Value.bool true)] [.no] True (by kernel_rfl) trivial hS27 ?_
    refine l_nil rfl ?_
    refine then_n ?_
    refine wp_ret ?_
    exact c_end (S := (fun x_ => St w x_ [Res.row (Value.slice (some ⟨blk26, 0, none⟩) n1 n1) 3 1 n1 (z1.map (Value.int .i64)), Res.box blk20 [Value.int .i64 a0, Value.int .i64 ((batch a0 c z1 (a1, a2)).1), Value.int .i64 ((batch a0 c z1 (a1, a2)).2)] 25, Res.row (Value.slice (some ⟨blk16, 0, none⟩) n1 n1) 3 1 n1 (z1.map (Value.int .i64)), Res.box blk11 [Value.int .i64 a0, Value.int .i64 ((batch a0 c z1 (a1, a2)).1), Value.int .i64 ((batch a0 c z1 (a1, a2)).2)] 25, Res.row (Value.slice (some ⟨blk8, 0, none⟩) n1 n1) 3 1 n1 (z1.map (Value.int .i64)), Res.box blk2 [Value.int .i64 a0, Value.int .i64 a1, Value.int .i64 a2] 23])) (rs := [.tmp 6]) rfl [] (v := Value.bool true) (C := True) (by kernel_rfl) trivial hS27 ((hS27.rv rfl))
theorem walkFnExactRejectedRequests (v0 v1 v2 : Value) (w : World) (i0 : InOverloadControl23 w w.heap.size v0) (i1 : InInts42 w w.heap.size v1) (i2 : InInt3 w w.heap.size v2) : Calls Try.prog 11 #[v0, v1, v2] w (Tr w) := by
  obtain ⟨a0, a1, a2, rfl, ⟨ha01, ha02⟩, ⟨ha11, ha12⟩, ⟨ha21, ha22⟩⟩ := i0
  obtain ⟨A1, n1, c1, z1, rfl, hnc1, hcm1, hr1, hwf1⟩ := i1
  unfold maxLen at hcm1
  have hz1 : ∀ z ∈ z1, I64 z := fun z h => by have := bounds_i64 (hwf1 z h); unfold I64; omega
  obtain ⟨c, rfl, ⟨hc1, hc2⟩⟩ := i2
  refine calls_FA Try.func11 rfl (n := 79) rfl (l := [(0, Value.agg #[Value.int .i64 a0, Value.int .i64 a1, Value.int .i64 a2]), (1, Value.slice A1 n1 c1), (2, Value.int .i64 c)]) rfl (by simp) (fun g => ?_)
  have hS := St.init w
  refine wp_seq ?_
  refine c_reg ?_
  refine l_op rfl rfl (fun K hK => op_box (d := some 3) rfl rfl [Value.int .i64 a0, Value.int .i64 a1, Value.int .i64 a2] (by kernel_rfl) hS (fun blk2 w1 hS1 => hK _ _ ?_))
  clear hK K
  refine q_seg (S := (fun x_ => St w x_ [Res.box blk2 [Value.int .i64 a0, Value.int .i64 a1, Value.int .i64 a2] 23])) [(6, Value.bool false)] [.no] True (by kernel_rfl) trivial hS1 ?_
  refine l_nil rfl ?_
  refine then_n ?_
  refine wp_seq ?_
  refine wp_seq ?_
  refine c_reg ?_
  refine q_seg (S := (fun x_ => St w x_ [Res.box blk2 [Value.int .i64 a0, Value.int .i64 a1, Value.int .i64 a2] 23])) [(16, Value.bool (decide ((1048576 : Int) < ((n1 : Nat) : Int)))), (15, Value.int .i64 ((n1 : Nat) : Int)), (14, Value.slice A1 n1 c1)] [.no, .no, .no] True (by kernel_rfl) trivial hS1 ?_
  refine l_nil rfl ?_
  refine then_n ?_
  rcases Bool.eq_false_or_eq_true (decide ((1048576 : Int) < ((n1 : Nat) : Int))) with hb3 | hb3
  · skip
    have hb3p := of_decide_eq_true hb3
    refine c_true (b := (decide ((1048576 : Int) < ((n1 : Nat) : Int)))) (by kernel_rfl) hb3 ?_
    refine wp_seq ?_
    refine c_reg ?_
    refine q_seg (S := (fun x_ => St w x_ [Res.box blk2 [Value.int .i64 a0, Value.int .i64 a1, Value.int .i64 a2] 23])) [(6, Value.bool true)] [.no] True (by kernel_rfl) trivial hS1 ?_
    refine l_nil rfl ?_
    refine then_n ?_
    refine wp_ret ?_
    refine then_r ?_
    exact c_end (S := (fun x_ => St w x_ [Res.box blk2 [Value.int .i64 a0, Value.int .i64 a1, Value.int .i64 a2] 23])) (rs := [.tmp 6]) rfl [] (v := Value.bool true) (C := True) (by kernel_rfl) trivial hS1 ((hS1.rv rfl))
  · skip
    have hb3p := of_decide_eq_false hb3
    have hbRl := batchNR a0 c z1 (a1, a2)
    have hz1l := hr1.len
    refine c_false (b := (decide ((1048576 : Int) < ((n1 : Nat) : Int)))) (by kernel_rfl) hb3 ?_
    refine wp_skip ?_
    refine then_n ?_
    refine wp_seq ?_
    refine c_reg ?_
    refine q_seg (S := (fun x_ => St w x_ [Res.box blk2 [Value.int .i64 a0, Value.int .i64 a1, Value.int .i64 a2] 23])) [(17, Value.agg #[Value.int .i64 a0, Value.int .i64 a1, Value.int .i64 a2])] [.v (Value.agg #[Value.int .i64 a0, Value.int .i64 a1, Value.int .i64 a2])] ((LoadsAt Try.prog (fun x_ => St w x_ [Res.box blk2 [Value.int .i64 a0, Value.int .i64 a1, Value.int .i64 a2] 23]) 23 ⟨blk2, 0, none⟩ (Value.agg #[Value.int .i64 a0, Value.int .i64 a1, Value.int .i64 a2]))) (by kernel_rfl) (ld_boxN (i := 0) (k := 3) rfl rfl rfl (by kernel_rfl)) hS1 ?_
    refine l_op rfl rfl (fun K hK => op_callv (d := some 18) rfl rfl ⟨_, Try.func13, by kernel_rfl, by kernel_rfl⟩ (vs := [Value.agg #[Value.int .i64 a0, Value.int .i64 a1, Value.int .i64 a2]]) (by kernel_rfl) (v := Value.agg #[Value.int .i64 a0, Value.int .i64 a1, Value.int .i64 a2]) (toOverloadControl_c a0 a1 a2  _) hS1 (fun w4 hS4 => hK _ _ ?_))
    clear hK K
    refine q_seg (S := (fun x_ => St w x_ [Res.box blk2 [Value.int .i64 a0, Value.int .i64 a1, Value.int .i64 a2] 23])) [(19, Value.slice A1 n1 c1)] [.no] True (by kernel_rfl) trivial hS4 ?_
    refine l_op rfl rfl (fun K hK => op_call (d := some 20) rfl rfl ⟨_, Try.func30, by kernel_rfl, by kernel_rfl⟩ (vs := [Value.slice A1 n1 c1]) (by kernel_rfl) (toIntS_c A1 n1 c1 z1 w4 (by omega) (hS4.rdlow hr1)) hS4 (fun v6 new7 w5 Rw5 hS5 => hK _ _ ?_))
    clear hK K
    obtain ⟨blk8, rfl, rfl⟩ := Rw5
    refine q_seg (S := (fun x_ => St w x_ [Res.row (Value.slice (some ⟨blk8, 0, none⟩) n1 n1) 3 1 n1 (z1.map (Value.int .i64)), Res.box blk2 [Value.int .i64 a0, Value.int .i64 a1, Value.int .i64 a2] 23])) [(21, Value.int .i64 c)] [.no] True (by kernel_rfl) trivial hS5 ?_
    refine l_op rfl rfl (fun K hK => op_call (d := some 22) rfl rfl ⟨_, Try.func32, by kernel_rfl, by kernel_rfl⟩ (vs := [Value.agg #[Value.int .i64 a0, Value.int .i64 a1, Value.int .i64 a2], Value.slice (some ⟨blk8, 0, none⟩) n1 n1, Value.int .i64 c]) (by kernel_rfl) (RejectedRequests_s_c a0 a1 a2 c (some ⟨blk8, 0, none⟩) n1 n1 z1 w5 (i64 (by omega) (by omega)) (i64 (by omega) (by omega)) (i64 (by omega) (by omega)) (i64 (by omega) (by omega)) hz1 (by omega) (hS5.rd (List.mem_of_getElem? (i := 0) rfl)).u1) hS5 (fun v10 new11 w9 Rw9 hS9 => hK _ _ ?_))
    clear hK K
    obtain ⟨Aq12, cq13, rfl, rfl⟩ := Rw9
    refine q_seg (S := (fun x_ => St w x_ [Res.row (Value.slice Aq12 (List.length (batchR a0 c z1 (a1, a2))) cq13) 3 1 (List.length (batchR a0 c z1 (a1, a2))) ((batchR a0 c z1 (a1, a2)).map (Value.int .i64)), Res.row (Value.slice (some ⟨blk8, 0, none⟩) n1 n1) 3 1 n1 (z1.map (Value.int .i64)), Res.box blk2 [Value.int .i64 a0, Value.int .i64 a1, Value.int .i64 a2] 23])) [(7, Value.slice Aq12 (List.length (batchR a0 c z1 (a1, a2))) cq13)] [.no] True (by kernel_rfl) trivial hS9 ?_
    refine l_nil rfl ?_
    refine then_n ?_
    refine wp_seq ?_
    refine c_reg ?_
    refine q_seg (S := (fun x_ => St w x_ [Res.row (Value.slice Aq12 (List.length (batchR a0 c z1 (a1, a2))) cq13) 3 1 (List.length (batchR a0 c z1 (a1, a2))) ((batchR a0 c z1 (a1, a2)).map (Value.int .i64)), Res.row (Value.slice (some ⟨blk8, 0, none⟩) n1 n1) 3 1 n1 (z1.map (Value.int .i64)), Res.box blk2 [Value.int .i64 a0, Value.int .i64 a1, Value.int .i64 a2] 23])) [(23, Value.slice A1 n1 c1)] [.no] True (by kernel_rfl) trivial hS9 ?_
    refine l_op rfl rfl (fun K hK => op_call (d := some 24) rfl rfl ⟨_, Try.func30, by kernel_rfl, by kernel_rfl⟩ (vs := [Value.slice A1 n1 c1]) (by kernel_rfl) (toIntS_c A1 n1 c1 z1 w9 (by omega) (hS9.rdlow hr1)) hS9 (fun v15 new16 w14 Rw14 hS14 => hK _ _ ?_))
    clear hK K
    obtain ⟨blk17, rfl, rfl⟩ := Rw14
    refine q_seg (S := (fun x_ => St w x_ [Res.row (Value.slice (some ⟨blk17, 0, none⟩) n1 n1) 3 1 n1 (z1.map (Value.int .i64)), Res.row (Value.slice Aq12 (List.length (batchR a0 c z1 (a1, a2))) cq13) 3 1 (List.length (batchR a0 c z1 (a1, a2))) ((batchR a0 c z1 (a1, a2)).map (Value.int .i64)), Res.row (Value.slice (some ⟨blk8, 0, none⟩) n1 n1) 3 1 n1 (z1.map (Value.int .i64)), Res.box blk2 [Value.int .i64 a0, Value.int .i64 a1, Value.int .i64 a2] 23])) [(8, Value.slice (some ⟨blk17, 0, none⟩) n1 n1)] [.no] True (by kernel_rfl) trivial hS14 ?_
    refine l_nil rfl ?_
    refine then_n ?_
    refine wp_seq ?_
    refine c_reg ?_
    refine q_seg (S := (fun x_ => St w x_ [Res.row (Value.slice (some ⟨blk17, 0, none⟩) n1 n1) 3 1 n1 (z1.map (Value.int .i64)), Res.row (Value.slice Aq12 (List.length (batchR a0 c z1 (a1, a2))) cq13) 3 1 (List.length (batchR a0 c z1 (a1, a2))) ((batchR a0 c z1 (a1, a2)).map (Value.int .i64)), Res.row (Value.slice (some ⟨blk8, 0, none⟩) n1 n1) 3 1 n1 (z1.map (Value.int .i64)), Res.box blk2 [Value.int .i64 a0, Value.int .i64 a1, Value.int .i64 a2] 23])) [(25, Value.agg #[Value.int .i64 a0, Value.int .i64 a1, Value.int .i64 a2])] [.v (Value.agg #[Value.int .i64 a0, Value.int .i64 a1, Value.int .i64 a2])] ((LoadsAt Try.prog (fun x_ => St w x_ [Res.row (Value.slice (some ⟨blk17, 0, none⟩) n1 n1) 3 1 n1 (z1.map (Value.int .i64)), Res.row (Value.slice Aq12 (List.length (batchR a0 c z1 (a1, a2))) cq13) 3 1 (List.length (batchR a0 c z1 (a1, a2))) ((batchR a0 c z1 (a1, a2)).map (Value.int .i64)), Res.row (Value.slice (some ⟨blk8, 0, none⟩) n1 n1) 3 1 n1 (z1.map (Value.int .i64)), Res.box blk2 [Value.int .i64 a0, Value.int .i64 a1, Value.int .i64 a2] 23]) 23 ⟨blk2, 0, none⟩ (Value.agg #[Value.int .i64 a0, Value.int .i64 a1, Value.int .i64 a2]))) (by kernel_rfl) (ld_boxN (i := 3) (k := 3) rfl rfl rfl (by kernel_rfl)) hS14 ?_
    refine l_op rfl rfl (fun K hK => op_callv (d := some 26) rfl rfl ⟨_, Try.func13, by kernel_rfl, by kernel_rfl⟩ (vs := [Value.agg #[Value.int .i64 a0, Value.int .i64 a1, Value.int .i64 a2]]) (by kernel_rfl) (v := Value.agg #[Value.int .i64 a0, Value.int .i64 a1, Value.int .i64 a2]) (toOverloadControl_c a0 a1 a2  _) hS14 (fun w18 hS18 => hK _ _ ?_))
    clear hK K
    refine q_seg (S := (fun x_ => St w x_ [Res.row (Value.slice (some ⟨blk17, 0, none⟩) n1 n1) 3 1 n1 (z1.map (Value.int .i64)), Res.row (Value.slice Aq12 (List.length (batchR a0 c z1 (a1, a2))) cq13) 3 1 (List.length (batchR a0 c z1 (a1, a2))) ((batchR a0 c z1 (a1, a2)).map (Value.int .i64)), Res.row (Value.slice (some ⟨blk8, 0, none⟩) n1 n1) 3 1 n1 (z1.map (Value.int .i64)), Res.box blk2 [Value.int .i64 a0, Value.int .i64 a1, Value.int .i64 a2] 23])) [(28, Value.int .i64 c), (27, Value.slice (some ⟨blk17, 0, none⟩) n1 n1)] [.no, .no] True (by kernel_rfl) trivial hS18 ?_
    refine l_op rfl rfl (fun K hK => op_call (d := some 29) rfl rfl ⟨_, Try.func28, by kernel_rfl, by kernel_rfl⟩ (vs := [Value.agg #[Value.int .i64 a0, Value.int .i64 a1, Value.int .i64 a2], Value.slice (some ⟨blk17, 0, none⟩) n1 n1, Value.int .i64 c]) (by kernel_rfl) (RejectedRequests_i_c a0 a1 a2 c (some ⟨blk17, 0, none⟩) n1 n1 z1 w18 (i64 (by omega) (by omega)) (i64 (by omega) (by omega)) (i64 (by omega) (by omega)) (i64 (by omega) (by omega)) hz1 (by omega) (hS18.rd (List.mem_of_getElem? (i := 0) rfl)).u1) hS18 (fun v20 new21 w19 Rw19 hS19 => hK _ _ ?_))
    clear hK K
    obtain ⟨Aq22, cq23, rfl, rfl⟩ := Rw19
    refine q_seg (S := (fun x_ => St w x_ [Res.row (Value.slice Aq22 (List.length (batchR a0 c z1 (a1, a2))) cq23) 3 1 (List.length (batchR a0 c z1 (a1, a2))) ((batchR a0 c z1 (a1, a2)).map (Value.int .i64)), Res.row (Value.slice (some ⟨blk17, 0, none⟩) n1 n1) 3 1 n1 (z1.map (Value.int .i64)), Res.row (Value.slice Aq12 (List.length (batchR a0 c z1 (a1, a2))) cq13) 3 1 (List.length (batchR a0 c z1 (a1, a2))) ((batchR a0 c z1 (a1, a2)).map (Value.int .i64)), Res.row (Value.slice (some ⟨blk8, 0, none⟩) n1 n1) 3 1 n1 (z1.map (Value.int .i64)), Res.box blk2 [Value.int .i64 a0, Value.int .i64 a1, Value.int .i64 a2] 23])) [(9, Value.slice Aq22 (List.length (batchR a0 c z1 (a1, a2))) cq23)] [.no] True (by kernel_rfl) trivial hS19 ?_
    refine l_nil rfl ?_
    refine then_n ?_
    refine wp_seq ?_
    refine wp_seq ?_
    refine c_reg ?_
    refine q_seg (S := (fun x_ => St w x_ [Res.row (Value.slice Aq22 (List.length (batchR a0 c z1 (a1, a2))) cq23) 3 1 (List.length (batchR a0 c z1 (a1, a2))) ((batchR a0 c z1 (a1, a2)).map (Value.int .i64)), Res.row (Value.slice (some ⟨blk17, 0, none⟩) n1 n1) 3 1 n1 (z1.map (Value.int .i64)), Res.row (Value.slice Aq12 (List.length (batchR a0 c z1 (a1, a2))) cq13) 3 1 (List.length (batchR a0 c z1 (a1, a2))) ((batchR a0 c z1 (a1, a2)).map (Value.int .i64)), Res.row (Value.slice (some ⟨blk8, 0, none⟩) n1 n1) 3 1 n1 (z1.map (Value.int .i64)), Res.box blk2 [Value.int .i64 a0, Value.int .i64 a1, Value.int .i64 a2] 23])) [(31, Value.slice Aq12 (List.length (batchR a0 c z1 (a1, a2))) cq13), (30, Value.slice Aq22 (List.length (batchR a0 c z1 (a1, a2))) cq23)] [.no, .no] True (by kernel_rfl) trivial hS19 ?_
    refine l_op rfl rfl (fun K hK => op_callv (d := some 32) rfl rfl ⟨_, Try.func31, by kernel_rfl, by kernel_rfl⟩ (vs := [Value.slice Aq22 (List.length (batchR a0 c z1 (a1, a2))) cq23, Value.slice Aq12 (List.length (batchR a0 c z1 (a1, a2))) cq13]) (by kernel_rfl) (v := Value.bool true) (eqIntS_c Aq22 Aq12 (List.length (batchR a0 c z1 (a1, a2))) cq23 cq13 (batchR a0 c z1 (a1, a2)) w19 (by omega) (hS19.rd (List.mem_of_getElem? (i := 0) rfl)).u1 (hS19.rd (List.mem_of_getElem? (i := 2) rfl)).u1) hS19 (fun w24 hS24 => hK _ _ ?_))
    clear hK K
    refine q_seg (S := (fun x_ => St w x_ [Res.row (Value.slice Aq22 (List.length (batchR a0 c z1 (a1, a2))) cq23) 3 1 (List.length (batchR a0 c z1 (a1, a2))) ((batchR a0 c z1 (a1, a2)).map (Value.int .i64)), Res.row (Value.slice (some ⟨blk17, 0, none⟩) n1 n1) 3 1 n1 (z1.map (Value.int .i64)), Res.row (Value.slice Aq12 (List.length (batchR a0 c z1 (a1, a2))) cq13) 3 1 (List.length (batchR a0 c z1 (a1, a2))) ((batchR a0 c z1 (a1, a2)).map (Value.int .i64)), Res.row (Value.slice (some ⟨blk8, 0, none⟩) n1 n1) 3 1 n1 (z1.map (Value.int .i64)), Res.box blk2 [Value.int .i64 a0, Value.int .i64 a1, Value.int .i64 a2] 23])) [(33, Value.bool false)] [.no] True (by kernel_rfl) trivial hS24 ?_
    refine l_nil rfl ?_
    refine then_n ?_
    refine c_false (b := false) (by kernel_rfl) rfl ?_
    refine wp_skip ?_
    refine then_n ?_
    refine wp_seq ?_
    refine wp_seq ?_
    refine c_reg ?_
    refine q_seg (S := (fun x_ => St w x_ [Res.row (Value.slice Aq22 (List.length (batchR a0 c z1 (a1, a2))) cq23) 3 1 (List.length (batchR a0 c z1 (a1, a2))) ((batchR a0 c z1 (a1, a2)).map (Value.int .i64)), Res.row (Value.slice (some ⟨blk17, 0, none⟩) n1 n1) 3 1 n1 (z1.map (Value.int .i64)), Res.row (Value.slice Aq12 (List.length (batchR a0 c z1 (a1, a2))) cq13) 3 1 (List.length (batchR a0 c z1 (a1, a2))) ((batchR a0 c z1 (a1, a2)).map (Value.int .i64)), Res.row (Value.slice (some ⟨blk8, 0, none⟩) n1 n1) 3 1 n1 (z1.map (Value.int .i64)), Res.box blk2 [Value.int .i64 a0, Value.int .i64 a1, Value.int .i64 a2] 23])) [(35, Value.slice A1 n1 c1), (34, Value.slice (some ⟨blk17, 0, none⟩) n1 n1)] [.no, .no] True (by kernel_rfl) trivial hS24 ?_
    refine l_op rfl rfl (fun K hK => op_call (d := some 36) rfl rfl ⟨_, Try.func30, by kernel_rfl, by kernel_rfl⟩ (vs := [Value.slice A1 n1 c1]) (by kernel_rfl) (toIntS_c A1 n1 c1 z1 w24 (by omega) (hS24.rdlow hr1)) hS24 (fun v26 new27 w25 Rw25 hS25 => hK _ _ ?_))
    clear hK K
    obtain ⟨blk28, rfl, rfl⟩ := Rw25
    refine l_op rfl rfl (fun K hK => op_callv (d := some 37) rfl rfl ⟨_, Try.func31, by kernel_rfl, by kernel_rfl⟩ (vs := [Value.slice (some ⟨blk17, 0, none⟩) n1 n1, Value.slice (some ⟨blk28, 0, none⟩) n1 n1]) (by kernel_rfl) (v := Value.bool true) (eqIntS_c (some ⟨blk17, 0, none⟩) (some ⟨blk28, 0, none⟩) n1 n1 n1 z1 w25 (by omega) (hS25.rd (List.mem_of_getElem? (i := 2) rfl)).u1 (hS25.rd (List.mem_of_getElem? (i := 0) rfl)).u1) hS25 (fun w29 hS29 => hK _ _ ?_))
    clear hK K
    refine q_seg (S := (fun x_ => St w x_ [Res.row (Value.slice (some ⟨blk28, 0, none⟩) n1 n1) 3 1 n1 (z1.map (Value.int .i64)), Res.row (Value.slice Aq22 (List.length (batchR a0 c z1 (a1, a2))) cq23) 3 1 (List.length (batchR a0 c z1 (a1, a2))) ((batchR a0 c z1 (a1, a2)).map (Value.int .i64)), Res.row (Value.slice (some ⟨blk17, 0, none⟩) n1 n1) 3 1 n1 (z1.map (Value.int .i64)), Res.row (Value.slice Aq12 (List.length (batchR a0 c z1 (a1, a2))) cq13) 3 1 (List.length (batchR a0 c z1 (a1, a2))) ((batchR a0 c z1 (a1, a2)).map (Value.int .i64)), Res.row (Value.slice (some ⟨blk8, 0, none⟩) n1 n1) 3 1 n1 (z1.map (Value.int .i64)), Res.box blk2 [Value.int .i64 a0, Value.int .i64 a1, Value.int .i64 a2] 23])) [(38, Value.bool false)] [.no] True (by kernel_rfl) trivial hS29 ?_
    refine l_nil rfl ?_
    refine then_n ?_
    refine c_false (b := false) (by kernel_rfl) rfl ?_
    refine wp_skip ?_
    refine then_n ?_
    refine wp_seq ?_
    refine c_reg ?_
    refine q_seg (S := (fun x_ => St w x_ [Res.row (Value.slice (some ⟨blk28, 0, none⟩) n1 n1) 3 1 n1 (z1.map (Value.int .i64)), Res.row (Value.slice Aq22 (List.length (batchR a0 c z1 (a1, a2))) cq23) 3 1 (List.length (batchR a0 c z1 (a1, a2))) ((batchR a0 c z1 (a1, a2)).map (Value.int .i64)), Res.row (Value.slice (some ⟨blk17, 0, none⟩) n1 n1) 3 1 n1 (z1.map (Value.int .i64)), Res.row (Value.slice Aq12 (List.length (batchR a0 c z1 (a1, a2))) cq13) 3 1 (List.length (batchR a0 c z1 (a1, a2))) ((batchR a0 c z1 (a1, a2)).map (Value.int .i64)), Res.row (Value.slice (some ⟨blk8, 0, none⟩) n1 n1) 3 1 n1 (z1.map (Value.int .i64)), Res.box blk2 [Value.int .i64 a0, Value.int .i64 a1, Value.int .i64 a2] 23])) [(10, Value.int .i64 1)] [.no] True (by kernel_rfl) trivial hS29 ?_
    refine l_nil rfl ?_
    refine then_n ?_
    refine wp_seq ?_
    refine c_reg ?_
    refine q_seg (S := (fun x_ => St w x_ [Res.row (Value.slice (some ⟨blk28, 0, none⟩) n1 n1) 3 1 n1 (z1.map (Value.int .i64)), Res.row (Value.slice Aq22 (List.length (batchR a0 c z1 (a1, a2))) cq23) 3 1 (List.length (batchR a0 c z1 (a1, a2))) ((batchR a0 c z1 (a1, a2)).map (Value.int .i64)), Res.row (Value.slice (some ⟨blk17, 0, none⟩) n1 n1) 3 1 n1 (z1.map (Value.int .i64)), Res.row (Value.slice Aq12 (List.length (batchR a0 c z1 (a1, a2))) cq13) 3 1 (List.length (batchR a0 c z1 (a1, a2))) ((batchR a0 c z1 (a1, a2)).map (Value.int .i64)), Res.row (Value.slice (some ⟨blk8, 0, none⟩) n1 n1) 3 1 n1 (z1.map (Value.int .i64)), Res.box blk2 [Value.int .i64 a0, Value.int .i64 a1, Value.int .i64 a2] 23])) [(40, Value.int .i64 1), (39, Value.slice (some ⟨blk17, 0, none⟩) n1 n1)] [.no, .no] True (by kernel_rfl) trivial hS29 ?_
    refine l_op rfl rfl (fun K hK => op_callm (d := some 41) rfl rfl ⟨_, Try.func33, by kernel_rfl, by kernel_rfl⟩ (vs := [Value.slice (some ⟨blk17, 0, none⟩) n1 n1, Value.int .i64 1]) (by kernel_rfl) (markIntS_c (some ⟨blk17, 0, none⟩) n1 n1 (1 : Int) _ _ w w29 (hS29.front 2 rfl) (by omega) (by omega) (by omega)) (fun v31 new32 w30 Rw30 hS30 => hK _ _ ?_))
    clear hK K
    obtain ⟨rfl, rfl⟩ := Rw30
    refine q_seg (S := (fun x_ => St w x_ [Res.row (Value.slice (some ⟨blk17, 0, none⟩) n1 n1) 3 1 n1 ((marks id (1 : Int) n1).map (Value.int .i64)), Res.row (Value.slice (some ⟨blk28, 0, none⟩) n1 n1) 3 1 n1 (z1.map (Value.int .i64)), Res.row (Value.slice Aq22 (List.length (batchR a0 c z1 (a1, a2))) cq23) 3 1 (List.length (batchR a0 c z1 (a1, a2))) ((batchR a0 c z1 (a1, a2)).map (Value.int .i64)), Res.row (Value.slice Aq12 (List.length (batchR a0 c z1 (a1, a2))) cq13) 3 1 (List.length (batchR a0 c z1 (a1, a2))) ((batchR a0 c z1 (a1, a2)).map (Value.int .i64)), Res.row (Value.slice (some ⟨blk8, 0, none⟩) n1 n1) 3 1 n1 (z1.map (Value.int .i64)), Res.box blk2 [Value.int .i64 a0, Value.int .i64 a1, Value.int .i64 a2] 23])) [(10, Value.int .i64 ((1 : Int) + ((n1 : Nat) : Int)))] [.no] True (by kernel_rfl) trivial hS30 ?_
    refine l_nil rfl ?_
    refine then_n ?_
    refine wp_seq ?_
    refine wp_seq ?_
    refine c_reg ?_
    refine q_seg (S := (fun x_ => St w x_ [Res.row (Value.slice (some ⟨blk17, 0, none⟩) n1 n1) 3 1 n1 ((marks id (1 : Int) n1).map (Value.int .i64)), Res.row (Value.slice (some ⟨blk28, 0, none⟩) n1 n1) 3 1 n1 (z1.map (Value.int .i64)), Res.row (Value.slice Aq22 (List.length (batchR a0 c z1 (a1, a2))) cq23) 3 1 (List.length (batchR a0 c z1 (a1, a2))) ((batchR a0 c z1 (a1, a2)).map (Value.int .i64)), Res.row (Value.slice Aq12 (List.length (batchR a0 c z1 (a1, a2))) cq13) 3 1 (List.length (batchR a0 c z1 (a1, a2))) ((batchR a0 c z1 (a1, a2)).map (Value.int .i64)), Res.row (Value.slice (some ⟨blk8, 0, none⟩) n1 n1) 3 1 n1 (z1.map (Value.int .i64)), Res.box blk2 [Value.int .i64 a0, Value.int .i64 a1, Value.int .i64 a2] 23])) [(46, Value.slice Aq12 (List.length (batchR a0 c z1 (a1, a2))) cq13), (45, Value.slice Aq22 (List.length (batchR a0 c z1 (a1, a2))) cq23), (44, Value.bool (decide (((1 : Int) + ((n1 : Nat) : Int)) < (0 : Int)))), (43, Value.bool (decide (((1 : Int) + ((n1 : Nat) : Int)) < (0 : Int)))), (42, Value.int .i64 ((1 : Int) + ((n1 : Nat) : Int)))] [.no, .no, .no, .no, .no] (((decide (((1 : Int) + ((n1 : Nat) : Int)) < (0 : Int))) = false) ∧ ((decide (((1 : Int) + ((n1 : Nat) : Int)) < (0 : Int))) = false)) (by kernel_rfl) ⟨(decide_eq_false (by omega)), (decide_eq_false (by omega))⟩ hS30 ?_
    refine l_opg rfl (b := (decide (((1 : Int) + ((n1 : Nat) : Int)) < (0 : Int)))) (want := false) (by kernel_rfl) (decide_eq_false (by omega)) (fun K hK => op_callv (d := some 47) rfl rfl ⟨_, Try.func31, by kernel_rfl, by kernel_rfl⟩ (vs := [Value.slice Aq22 (List.length (batchR a0 c z1 (a1, a2))) cq23, Value.slice Aq12 (List.length (batchR a0 c z1 (a1, a2))) cq13]) (by kernel_rfl) (v := Value.bool true) (eqIntS_c Aq22 Aq12 (List.length (batchR a0 c z1 (a1, a2))) cq23 cq13 (batchR a0 c z1 (a1, a2)) w30 (by omega) (hS30.rd (List.mem_of_getElem? (i := 2) rfl)).u1 (hS30.rd (List.mem_of_getElem? (i := 3) rfl)).u1) hS30 (fun w33 hS33 => hK _ _ ?_))
    clear hK K
    refine q_seg (S := (fun x_ => St w x_ [Res.row (Value.slice (some ⟨blk17, 0, none⟩) n1 n1) 3 1 n1 ((marks id (1 : Int) n1).map (Value.int .i64)), Res.row (Value.slice (some ⟨blk28, 0, none⟩) n1 n1) 3 1 n1 (z1.map (Value.int .i64)), Res.row (Value.slice Aq22 (List.length (batchR a0 c z1 (a1, a2))) cq23) 3 1 (List.length (batchR a0 c z1 (a1, a2))) ((batchR a0 c z1 (a1, a2)).map (Value.int .i64)), Res.row (Value.slice Aq12 (List.length (batchR a0 c z1 (a1, a2))) cq13) 3 1 (List.length (batchR a0 c z1 (a1, a2))) ((batchR a0 c z1 (a1, a2)).map (Value.int .i64)), Res.row (Value.slice (some ⟨blk8, 0, none⟩) n1 n1) 3 1 n1 (z1.map (Value.int .i64)), Res.box blk2 [Value.int .i64 a0, Value.int .i64 a1, Value.int .i64 a2] 23])) [(49, Value.bool false), (48, Value.bool false)] [.no, .v (.bool false)] (((decide (((1 : Int) + ((n1 : Nat) : Int)) < (0 : Int))) = false) ∧ ((decide (((1 : Int) + ((n1 : Nat) : Int)) < (0 : Int))) = false)) (by kernel_rfl) ⟨(decide_eq_false (by omega)), (decide_eq_false (by omega))⟩ hS33 ?_
    refine l_nil rfl ?_
    refine then_n ?_
    refine c_false (b := false) (by kernel_rfl) rfl ?_
    refine wp_skip ?_
    refine then_n ?_
    refine wp_seq ?_
    refine c_reg ?_
    refine q_seg (S := (fun x_ => St w x_ [Res.row (Value.slice (some ⟨blk17, 0, none⟩) n1 n1) 3 1 n1 ((marks id (1 : Int) n1).map (Value.int .i64)), Res.row (Value.slice (some ⟨blk28, 0, none⟩) n1 n1) 3 1 n1 (z1.map (Value.int .i64)), Res.row (Value.slice Aq22 (List.length (batchR a0 c z1 (a1, a2))) cq23) 3 1 (List.length (batchR a0 c z1 (a1, a2))) ((batchR a0 c z1 (a1, a2)).map (Value.int .i64)), Res.row (Value.slice Aq12 (List.length (batchR a0 c z1 (a1, a2))) cq13) 3 1 (List.length (batchR a0 c z1 (a1, a2))) ((batchR a0 c z1 (a1, a2)).map (Value.int .i64)), Res.row (Value.slice (some ⟨blk8, 0, none⟩) n1 n1) 3 1 n1 (z1.map (Value.int .i64)), Res.box blk2 [Value.int .i64 a0, Value.int .i64 a1, Value.int .i64 a2] 23])) [(11, Value.int .i64 1)] [.no] True (by kernel_rfl) trivial hS33 ?_
    refine l_nil rfl ?_
    refine then_n ?_
    refine wp_seq ?_
    refine c_reg ?_
    refine q_seg (S := (fun x_ => St w x_ [Res.row (Value.slice (some ⟨blk17, 0, none⟩) n1 n1) 3 1 n1 ((marks id (1 : Int) n1).map (Value.int .i64)), Res.row (Value.slice (some ⟨blk28, 0, none⟩) n1 n1) 3 1 n1 (z1.map (Value.int .i64)), Res.row (Value.slice Aq22 (List.length (batchR a0 c z1 (a1, a2))) cq23) 3 1 (List.length (batchR a0 c z1 (a1, a2))) ((batchR a0 c z1 (a1, a2)).map (Value.int .i64)), Res.row (Value.slice Aq12 (List.length (batchR a0 c z1 (a1, a2))) cq13) 3 1 (List.length (batchR a0 c z1 (a1, a2))) ((batchR a0 c z1 (a1, a2)).map (Value.int .i64)), Res.row (Value.slice (some ⟨blk8, 0, none⟩) n1 n1) 3 1 n1 (z1.map (Value.int .i64)), Res.box blk2 [Value.int .i64 a0, Value.int .i64 a1, Value.int .i64 a2] 23])) [(51, Value.int .i64 1), (50, Value.slice Aq22 (List.length (batchR a0 c z1 (a1, a2))) cq23)] [.no, .no] True (by kernel_rfl) trivial hS33 ?_
    refine l_op rfl rfl (fun K hK => op_callm (d := some 52) rfl rfl ⟨_, Try.func33, by kernel_rfl, by kernel_rfl⟩ (vs := [Value.slice Aq22 (List.length (batchR a0 c z1 (a1, a2))) cq23, Value.int .i64 1]) (by kernel_rfl) (markIntS_c Aq22 (List.length (batchR a0 c z1 (a1, a2))) cq23 (1 : Int) _ _ w w33 (hS33.front 2 rfl) (by omega) (by omega) (by omega)) (fun v35 new36 w34 Rw34 hS34 => hK _ _ ?_))
    clear hK K
    obtain ⟨rfl, rfl⟩ := Rw34
    refine q_seg (S := (fun x_ => St w x_ [Res.row (Value.slice Aq22 (List.length (batchR a0 c z1 (a1, a2))) cq23) 3 1 (List.length (batchR a0 c z1 (a1, a2))) ((marks id (1 : Int) (List.length (batchR a0 c z1 (a1, a2)))).map (Value.int .i64)), Res.row (Value.slice (some ⟨blk17, 0, none⟩) n1 n1) 3 1 n1 ((marks id (1 : Int) n1).map (Value.int .i64)), Res.row (Value.slice (some ⟨blk28, 0, none⟩) n1 n1) 3 1 n1 (z1.map (Value.int .i64)), Res.row (Value.slice Aq12 (List.length (batchR a0 c z1 (a1, a2))) cq13) 3 1 (List.length (batchR a0 c z1 (a1, a2))) ((batchR a0 c z1 (a1, a2)).map (Value.int .i64)), Res.row (Value.slice (some ⟨blk8, 0, none⟩) n1 n1) 3 1 n1 (z1.map (Value.int .i64)), Res.box blk2 [Value.int .i64 a0, Value.int .i64 a1, Value.int .i64 a2] 23])) [(11, Value.int .i64 ((1 : Int) + (((List.length (batchR a0 c z1 (a1, a2))) : Nat) : Int)))] [.no] True (by kernel_rfl) trivial hS34 ?_
    refine l_nil rfl ?_
    refine then_n ?_
    refine wp_seq ?_
    refine c_reg ?_
    refine q_seg (S := (fun x_ => St w x_ [Res.row (Value.slice Aq22 (List.length (batchR a0 c z1 (a1, a2))) cq23) 3 1 (List.length (batchR a0 c z1 (a1, a2))) ((marks id (1 : Int) (List.length (batchR a0 c z1 (a1, a2)))).map (Value.int .i64)), Res.row (Value.slice (some ⟨blk17, 0, none⟩) n1 n1) 3 1 n1 ((marks id (1 : Int) n1).map (Value.int .i64)), Res.row (Value.slice (some ⟨blk28, 0, none⟩) n1 n1) 3 1 n1 (z1.map (Value.int .i64)), Res.row (Value.slice Aq12 (List.length (batchR a0 c z1 (a1, a2))) cq13) 3 1 (List.length (batchR a0 c z1 (a1, a2))) ((batchR a0 c z1 (a1, a2)).map (Value.int .i64)), Res.row (Value.slice (some ⟨blk8, 0, none⟩) n1 n1) 3 1 n1 (z1.map (Value.int .i64)), Res.box blk2 [Value.int .i64 a0, Value.int .i64 a1, Value.int .i64 a2] 23])) [(12, Value.int .i64 1)] [.no] True (by kernel_rfl) trivial hS34 ?_
    refine l_nil rfl ?_
    refine then_n ?_
    refine wp_seq ?_
    refine c_reg ?_
    refine q_seg (S := (fun x_ => St w x_ [Res.row (Value.slice Aq22 (List.length (batchR a0 c z1 (a1, a2))) cq23) 3 1 (List.length (batchR a0 c z1 (a1, a2))) ((marks id (1 : Int) (List.length (batchR a0 c z1 (a1, a2)))).map (Value.int .i64)), Res.row (Value.slice (some ⟨blk17, 0, none⟩) n1 n1) 3 1 n1 ((marks id (1 : Int) n1).map (Value.int .i64)), Res.row (Value.slice (some ⟨blk28, 0, none⟩) n1 n1) 3 1 n1 (z1.map (Value.int .i64)), Res.row (Value.slice Aq12 (List.length (batchR a0 c z1 (a1, a2))) cq13) 3 1 (List.length (batchR a0 c z1 (a1, a2))) ((batchR a0 c z1 (a1, a2)).map (Value.int .i64)), Res.row (Value.slice (some ⟨blk8, 0, none⟩) n1 n1) 3 1 n1 (z1.map (Value.int .i64)), Res.box blk2 [Value.int .i64 a0, Value.int .i64 a1, Value.int .i64 a2] 23])) [(54, Value.int .i64 1), (53, Value.slice Aq22 (List.length (batchR a0 c z1 (a1, a2))) cq23)] [.no, .no] True (by kernel_rfl) trivial hS34 ?_
    refine l_op rfl rfl (fun K hK => op_callv (d := some 55) rfl rfl ⟨_, Try.func34, by kernel_rfl, by kernel_rfl⟩ (vs := [Value.slice Aq22 (List.length (batchR a0 c z1 (a1, a2))) cq23, Value.int .i64 1]) (by kernel_rfl) (v := Value.int .i64 ((1 : Int) + (((List.length (batchR a0 c z1 (a1, a2))) : Nat) : Int))) (heldIntS_c Aq22 (List.length (batchR a0 c z1 (a1, a2))) cq23 (1 : Int) w34 (by omega) (by omega) (by omega) (hS34.rd (List.mem_of_getElem? (i := 0) rfl)).u1) hS34 (fun w37 hS37 => hK _ _ ?_))
    clear hK K
    refine q_seg (S := (fun x_ => St w x_ [Res.row (Value.slice Aq22 (List.length (batchR a0 c z1 (a1, a2))) cq23) 3 1 (List.length (batchR a0 c z1 (a1, a2))) ((marks id (1 : Int) (List.length (batchR a0 c z1 (a1, a2)))).map (Value.int .i64)), Res.row (Value.slice (some ⟨blk17, 0, none⟩) n1 n1) 3 1 n1 ((marks id (1 : Int) n1).map (Value.int .i64)), Res.row (Value.slice (some ⟨blk28, 0, none⟩) n1 n1) 3 1 n1 (z1.map (Value.int .i64)), Res.row (Value.slice Aq12 (List.length (batchR a0 c z1 (a1, a2))) cq13) 3 1 (List.length (batchR a0 c z1 (a1, a2))) ((batchR a0 c z1 (a1, a2)).map (Value.int .i64)), Res.row (Value.slice (some ⟨blk8, 0, none⟩) n1 n1) 3 1 n1 (z1.map (Value.int .i64)), Res.box blk2 [Value.int .i64 a0, Value.int .i64 a1, Value.int .i64 a2] 23])) [(12, Value.int .i64 ((1 : Int) + (((List.length (batchR a0 c z1 (a1, a2))) : Nat) : Int)))] [.no] True (by kernel_rfl) trivial hS37 ?_
    refine l_nil rfl ?_
    refine then_n ?_
    refine wp_seq ?_
    refine wp_seq ?_
    refine c_reg ?_
    refine q_seg (S := (fun x_ => St w x_ [Res.row (Value.slice Aq22 (List.length (batchR a0 c z1 (a1, a2))) cq23) 3 1 (List.length (batchR a0 c z1 (a1, a2))) ((marks id (1 : Int) (List.length (batchR a0 c z1 (a1, a2)))).map (Value.int .i64)), Res.row (Value.slice (some ⟨blk17, 0, none⟩) n1 n1) 3 1 n1 ((marks id (1 : Int) n1).map (Value.int .i64)), Res.row (Value.slice (some ⟨blk28, 0, none⟩) n1 n1) 3 1 n1 (z1.map (Value.int .i64)), Res.row (Value.slice Aq12 (List.length (batchR a0 c z1 (a1, a2))) cq13) 3 1 (List.length (batchR a0 c z1 (a1, a2))) ((batchR a0 c z1 (a1, a2)).map (Value.int .i64)), Res.row (Value.slice (some ⟨blk8, 0, none⟩) n1 n1) 3 1 n1 (z1.map (Value.int .i64)), Res.box blk2 [Value.int .i64 a0, Value.int .i64 a1, Value.int .i64 a2] 23])) [(57, Value.bool (decide (((1 : Int) + (((List.length (batchR a0 c z1 (a1, a2))) : Nat) : Int)) < (0 : Int)))), (56, Value.int .i64 ((1 : Int) + (((List.length (batchR a0 c z1 (a1, a2))) : Nat) : Int)))] [.no, .no] True (by kernel_rfl) trivial hS37 ?_
    refine l_nil rfl ?_
    refine then_n ?_
    refine c_false (b := (decide (((1 : Int) + (((List.length (batchR a0 c z1 (a1, a2))) : Nat) : Int)) < (0 : Int)))) (by kernel_rfl) (decide_eq_false (by omega)) ?_
    refine wp_skip ?_
    refine then_n ?_
    refine wp_seq ?_
    refine wp_seq ?_
    refine c_reg ?_
    refine q_seg (S := (fun x_ => St w x_ [Res.row (Value.slice Aq22 (List.length (batchR a0 c z1 (a1, a2))) cq23) 3 1 (List.length (batchR a0 c z1 (a1, a2))) ((marks id (1 : Int) (List.length (batchR a0 c z1 (a1, a2)))).map (Value.int .i64)), Res.row (Value.slice (some ⟨blk17, 0, none⟩) n1 n1) 3 1 n1 ((marks id (1 : Int) n1).map (Value.int .i64)), Res.row (Value.slice (some ⟨blk28, 0, none⟩) n1 n1) 3 1 n1 (z1.map (Value.int .i64)), Res.row (Value.slice Aq12 (List.length (batchR a0 c z1 (a1, a2))) cq13) 3 1 (List.length (batchR a0 c z1 (a1, a2))) ((batchR a0 c z1 (a1, a2)).map (Value.int .i64)), Res.row (Value.slice (some ⟨blk8, 0, none⟩) n1 n1) 3 1 n1 (z1.map (Value.int .i64)), Res.box blk2 [Value.int .i64 a0, Value.int .i64 a1, Value.int .i64 a2] 23])) [(60, Value.bool (!(decide (((1 : Int) + (((List.length (batchR a0 c z1 (a1, a2))) : Nat) : Int)) = ((1 : Int) + (((List.length (batchR a0 c z1 (a1, a2))) : Nat) : Int)))))), (59, Value.int .i64 ((1 : Int) + (((List.length (batchR a0 c z1 (a1, a2))) : Nat) : Int))), (58, Value.int .i64 ((1 : Int) + (((List.length (batchR a0 c z1 (a1, a2))) : Nat) : Int)))] [.no, .no, .no] True (by kernel_rfl) trivial hS37 ?_
    refine l_nil rfl ?_
    refine then_n ?_
    refine c_false (b := (!(decide (((1 : Int) + (((List.length (batchR a0 c z1 (a1, a2))) : Nat) : Int)) = ((1 : Int) + (((List.length (batchR a0 c z1 (a1, a2))) : Nat) : Int)))))) (by kernel_rfl) (nb (v := true) (decide_eq_true rfl)) ?_
    refine wp_skip ?_
    refine then_n ?_
    refine wp_seq ?_
    refine c_reg ?_
    refine q_seg (S := (fun x_ => St w x_ [Res.row (Value.slice Aq22 (List.length (batchR a0 c z1 (a1, a2))) cq23) 3 1 (List.length (batchR a0 c z1 (a1, a2))) ((marks id (1 : Int) (List.length (batchR a0 c z1 (a1, a2)))).map (Value.int .i64)), Res.row (Value.slice (some ⟨blk17, 0, none⟩) n1 n1) 3 1 n1 ((marks id (1 : Int) n1).map (Value.int .i64)), Res.row (Value.slice (some ⟨blk28, 0, none⟩) n1 n1) 3 1 n1 (z1.map (Value.int .i64)), Res.row (Value.slice Aq12 (List.length (batchR a0 c z1 (a1, a2))) cq13) 3 1 (List.length (batchR a0 c z1 (a1, a2))) ((batchR a0 c z1 (a1, a2)).map (Value.int .i64)), Res.row (Value.slice (some ⟨blk8, 0, none⟩) n1 n1) 3 1 n1 (z1.map (Value.int .i64)), Res.box blk2 [Value.int .i64 a0, Value.int .i64 a1, Value.int .i64 a2] 23])) [(61, Value.agg #[Value.int .i64 a0, Value.int .i64 a1, Value.int .i64 a2])] [.v (Value.agg #[Value.int .i64 a0, Value.int .i64 a1, Value.int .i64 a2])] ((LoadsAt Try.prog (fun x_ => St w x_ [Res.row (Value.slice Aq22 (List.length (batchR a0 c z1 (a1, a2))) cq23) 3 1 (List.length (batchR a0 c z1 (a1, a2))) ((marks id (1 : Int) (List.length (batchR a0 c z1 (a1, a2)))).map (Value.int .i64)), Res.row (Value.slice (some ⟨blk17, 0, none⟩) n1 n1) 3 1 n1 ((marks id (1 : Int) n1).map (Value.int .i64)), Res.row (Value.slice (some ⟨blk28, 0, none⟩) n1 n1) 3 1 n1 (z1.map (Value.int .i64)), Res.row (Value.slice Aq12 (List.length (batchR a0 c z1 (a1, a2))) cq13) 3 1 (List.length (batchR a0 c z1 (a1, a2))) ((batchR a0 c z1 (a1, a2)).map (Value.int .i64)), Res.row (Value.slice (some ⟨blk8, 0, none⟩) n1 n1) 3 1 n1 (z1.map (Value.int .i64)), Res.box blk2 [Value.int .i64 a0, Value.int .i64 a1, Value.int .i64 a2] 23]) 23 ⟨blk2, 0, none⟩ (Value.agg #[Value.int .i64 a0, Value.int .i64 a1, Value.int .i64 a2]))) (by kernel_rfl) (ld_boxN (i := 5) (k := 3) rfl rfl rfl (by kernel_rfl)) hS37 ?_
    refine l_op rfl rfl (fun K hK => op_callv (d := some 62) rfl rfl ⟨_, Try.func13, by kernel_rfl, by kernel_rfl⟩ (vs := [Value.agg #[Value.int .i64 a0, Value.int .i64 a1, Value.int .i64 a2]]) (by kernel_rfl) (v := Value.agg #[Value.int .i64 a0, Value.int .i64 a1, Value.int .i64 a2]) (toOverloadControl_c a0 a1 a2  _) hS37 (fun w38 hS38 => hK _ _ ?_))
    clear hK K
    refine q_seg (S := (fun x_ => St w x_ [Res.row (Value.slice Aq22 (List.length (batchR a0 c z1 (a1, a2))) cq23) 3 1 (List.length (batchR a0 c z1 (a1, a2))) ((marks id (1 : Int) (List.length (batchR a0 c z1 (a1, a2)))).map (Value.int .i64)), Res.row (Value.slice (some ⟨blk17, 0, none⟩) n1 n1) 3 1 n1 ((marks id (1 : Int) n1).map (Value.int .i64)), Res.row (Value.slice (some ⟨blk28, 0, none⟩) n1 n1) 3 1 n1 (z1.map (Value.int .i64)), Res.row (Value.slice Aq12 (List.length (batchR a0 c z1 (a1, a2))) cq13) 3 1 (List.length (batchR a0 c z1 (a1, a2))) ((batchR a0 c z1 (a1, a2)).map (Value.int .i64)), Res.row (Value.slice (some ⟨blk8, 0, none⟩) n1 n1) 3 1 n1 (z1.map (Value.int .i64)), Res.box blk2 [Value.int .i64 a0, Value.int .i64 a1, Value.int .i64 a2] 23])) [(63, Value.slice A1 n1 c1)] [.no] True (by kernel_rfl) trivial hS38 ?_
    refine l_op rfl rfl (fun K hK => op_call (d := some 64) rfl rfl ⟨_, Try.func30, by kernel_rfl, by kernel_rfl⟩ (vs := [Value.slice A1 n1 c1]) (by kernel_rfl) (toIntS_c A1 n1 c1 z1 w38 (by omega) (hS38.rdlow hr1)) hS38 (fun v40 new41 w39 Rw39 hS39 => hK _ _ ?_))
    clear hK K
    obtain ⟨blk42, rfl, rfl⟩ := Rw39
    refine q_seg (S := (fun x_ => St w x_ [Res.row (Value.slice (some ⟨blk42, 0, none⟩) n1 n1) 3 1 n1 (z1.map (Value.int .i64)), Res.row (Value.slice Aq22 (List.length (batchR a0 c z1 (a1, a2))) cq23) 3 1 (List.length (batchR a0 c z1 (a1, a2))) ((marks id (1 : Int) (List.length (batchR a0 c z1 (a1, a2)))).map (Value.int .i64)), Res.row (Value.slice (some ⟨blk17, 0, none⟩) n1 n1) 3 1 n1 ((marks id (1 : Int) n1).map (Value.int .i64)), Res.row (Value.slice (some ⟨blk28, 0, none⟩) n1 n1) 3 1 n1 (z1.map (Value.int .i64)), Res.row (Value.slice Aq12 (List.length (batchR a0 c z1 (a1, a2))) cq13) 3 1 (List.length (batchR a0 c z1 (a1, a2))) ((batchR a0 c z1 (a1, a2)).map (Value.int .i64)), Res.row (Value.slice (some ⟨blk8, 0, none⟩) n1 n1) 3 1 n1 (z1.map (Value.int .i64)), Res.box blk2 [Value.int .i64 a0, Value.int .i64 a1, Value.int .i64 a2] 23])) [(65, Value.int .i64 c)] [.no] True (by kernel_rfl) trivial hS39 ?_
    refine l_op rfl rfl (fun K hK => op_call (d := some 66) rfl rfl ⟨_, Try.func28, by kernel_rfl, by kernel_rfl⟩ (vs := [Value.agg #[Value.int .i64 a0, Value.int .i64 a1, Value.int .i64 a2], Value.slice (some ⟨blk42, 0, none⟩) n1 n1, Value.int .i64 c]) (by kernel_rfl) (RejectedRequests_i_c a0 a1 a2 c (some ⟨blk42, 0, none⟩) n1 n1 z1 w39 (i64 (by omega) (by omega)) (i64 (by omega) (by omega)) (i64 (by omega) (by omega)) (i64 (by omega) (by omega)) hz1 (by omega) (hS39.rd (List.mem_of_getElem? (i := 0) rfl)).u1) hS39 (fun v44 new45 w43 Rw43 hS43 => hK _ _ ?_))
    clear hK K
    obtain ⟨Aq46, cq47, rfl, rfl⟩ := Rw43
    refine q_seg (S := (fun x_ => St w x_ [Res.row (Value.slice Aq46 (List.length (batchR a0 c z1 (a1, a2))) cq47) 3 1 (List.length (batchR a0 c z1 (a1, a2))) ((batchR a0 c z1 (a1, a2)).map (Value.int .i64)), Res.row (Value.slice (some ⟨blk42, 0, none⟩) n1 n1) 3 1 n1 (z1.map (Value.int .i64)), Res.row (Value.slice Aq22 (List.length (batchR a0 c z1 (a1, a2))) cq23) 3 1 (List.length (batchR a0 c z1 (a1, a2))) ((marks id (1 : Int) (List.length (batchR a0 c z1 (a1, a2)))).map (Value.int .i64)), Res.row (Value.slice (some ⟨blk17, 0, none⟩) n1 n1) 3 1 n1 ((marks id (1 : Int) n1).map (Value.int .i64)), Res.row (Value.slice (some ⟨blk28, 0, none⟩) n1 n1) 3 1 n1 (z1.map (Value.int .i64)), Res.row (Value.slice Aq12 (List.length (batchR a0 c z1 (a1, a2))) cq13) 3 1 (List.length (batchR a0 c z1 (a1, a2))) ((batchR a0 c z1 (a1, a2)).map (Value.int .i64)), Res.row (Value.slice (some ⟨blk8, 0, none⟩) n1 n1) 3 1 n1 (z1.map (Value.int .i64)), Res.box blk2 [Value.int .i64 a0, Value.int .i64 a1, Value.int .i64 a2] 23])) [(13, Value.slice Aq46 (List.length (batchR a0 c z1 (a1, a2))) cq47)] [.no] True (by kernel_rfl) trivial hS43 ?_
    refine l_nil rfl ?_
    refine then_n ?_
    refine wp_seq ?_
    refine wp_seq ?_
    refine c_reg ?_
    refine q_seg (S := (fun x_ => St w x_ [Res.row (Value.slice Aq46 (List.length (batchR a0 c z1 (a1, a2))) cq47) 3 1 (List.length (batchR a0 c z1 (a1, a2))) ((batchR a0 c z1 (a1, a2)).map (Value.int .i64)), Res.row (Value.slice (some ⟨blk42, 0, none⟩) n1 n1) 3 1 n1 (z1.map (Value.int .i64)), Res.row (Value.slice Aq22 (List.length (batchR a0 c z1 (a1, a2))) cq23) 3 1 (List.length (batchR a0 c z1 (a1, a2))) ((marks id (1 : Int) (List.length (batchR a0 c z1 (a1, a2)))).map (Value.int .i64)), Res.row (Value.slice (some ⟨blk17, 0, none⟩) n1 n1) 3 1 n1 ((marks id (1 : Int) n1).map (Value.int .i64)), Res.row (Value.slice (some ⟨blk28, 0, none⟩) n1 n1) 3 1 n1 (z1.map (Value.int .i64)), Res.row (Value.slice Aq12 (List.length (batchR a0 c z1 (a1, a2))) cq13) 3 1 (List.length (batchR a0 c z1 (a1, a2))) ((batchR a0 c z1 (a1, a2)).map (Value.int .i64)), Res.row (Value.slice (some ⟨blk8, 0, none⟩) n1 n1) 3 1 n1 (z1.map (Value.int .i64)), Res.box blk2 [Value.int .i64 a0, Value.int .i64 a1, Value.int .i64 a2] 23])) [(68, Value.slice Aq12 (List.length (batchR a0 c z1 (a1, a2))) cq13), (67, Value.slice Aq46 (List.length (batchR a0 c z1 (a1, a2))) cq47)] [.no, .no] True (by kernel_rfl) trivial hS43 ?_
    refine l_op rfl rfl (fun K hK => op_callv (d := some 69) rfl rfl ⟨_, Try.func31, by kernel_rfl, by kernel_rfl⟩ (vs := [Value.slice Aq46 (List.length (batchR a0 c z1 (a1, a2))) cq47, Value.slice Aq12 (List.length (batchR a0 c z1 (a1, a2))) cq13]) (by kernel_rfl) (v := Value.bool true) (eqIntS_c Aq46 Aq12 (List.length (batchR a0 c z1 (a1, a2))) cq47 cq13 (batchR a0 c z1 (a1, a2)) w43 (by omega) (hS43.rd (List.mem_of_getElem? (i := 0) rfl)).u1 (hS43.rd (List.mem_of_getElem? (i := 5) rfl)).u1) hS43 (fun w48 hS48 => hK _ _ ?_))
    clear hK K
    refine q_seg (S := (fun x_ => St w x_ [Res.row (Value.slice Aq46 (List.length (batchR a0 c z1 (a1, a2))) cq47) 3 1 (List.length (batchR a0 c z1 (a1, a2))) ((batchR a0 c z1 (a1, a2)).map (Value.int .i64)), Res.row (Value.slice (some ⟨blk42, 0, none⟩) n1 n1) 3 1 n1 (z1.map (Value.int .i64)), Res.row (Value.slice Aq22 (List.length (batchR a0 c z1 (a1, a2))) cq23) 3 1 (List.length (batchR a0 c z1 (a1, a2))) ((marks id (1 : Int) (List.length (batchR a0 c z1 (a1, a2)))).map (Value.int .i64)), Res.row (Value.slice (some ⟨blk17, 0, none⟩) n1 n1) 3 1 n1 ((marks id (1 : Int) n1).map (Value.int .i64)), Res.row (Value.slice (some ⟨blk28, 0, none⟩) n1 n1) 3 1 n1 (z1.map (Value.int .i64)), Res.row (Value.slice Aq12 (List.length (batchR a0 c z1 (a1, a2))) cq13) 3 1 (List.length (batchR a0 c z1 (a1, a2))) ((batchR a0 c z1 (a1, a2)).map (Value.int .i64)), Res.row (Value.slice (some ⟨blk8, 0, none⟩) n1 n1) 3 1 n1 (z1.map (Value.int .i64)), Res.box blk2 [Value.int .i64 a0, Value.int .i64 a1, Value.int .i64 a2] 23])) [(70, Value.bool false)] [.no] True (by kernel_rfl) trivial hS48 ?_
    refine l_nil rfl ?_
    refine then_n ?_
    refine c_false (b := false) (by kernel_rfl) rfl ?_
    refine wp_skip ?_
    refine then_n ?_
    refine wp_seq ?_
    refine c_reg ?_
    refine q_seg (S := (fun x_ => St w x_ [Res.row (Value.slice Aq46 (List.length (batchR a0 c z1 (a1, a2))) cq47) 3 1 (List.length (batchR a0 c z1 (a1, a2))) ((batchR a0 c z1 (a1, a2)).map (Value.int .i64)), Res.row (Value.slice (some ⟨blk42, 0, none⟩) n1 n1) 3 1 n1 (z1.map (Value.int .i64)), Res.row (Value.slice Aq22 (List.length (batchR a0 c z1 (a1, a2))) cq23) 3 1 (List.length (batchR a0 c z1 (a1, a2))) ((marks id (1 : Int) (List.length (batchR a0 c z1 (a1, a2)))).map (Value.int .i64)), Res.row (Value.slice (some ⟨blk17, 0, none⟩) n1 n1) 3 1 n1 ((marks id (1 : Int) n1).map (Value.int .i64)), Res.row (Value.slice (some ⟨blk28, 0, none⟩) n1 n1) 3 1 n1 (z1.map (Value.int .i64)), Res.row (Value.slice Aq12 (List.length (batchR a0 c z1 (a1, a2))) cq13) 3 1 (List.length (batchR a0 c z1 (a1, a2))) ((batchR a0 c z1 (a1, a2)).map (Value.int .i64)), Res.row (Value.slice (some ⟨blk8, 0, none⟩) n1 n1) 3 1 n1 (z1.map (Value.int .i64)), Res.box blk2 [Value.int .i64 a0, Value.int .i64 a1, Value.int .i64 a2] 23])) [(12, Value.int .i64 1)] [.no] True (by kernel_rfl) trivial hS48 ?_
    refine l_nil rfl ?_
    refine then_n ?_
    refine wp_seq ?_
    refine c_reg ?_
    refine q_seg (S := (fun x_ => St w x_ [Res.row (Value.slice Aq46 (List.length (batchR a0 c z1 (a1, a2))) cq47) 3 1 (List.length (batchR a0 c z1 (a1, a2))) ((batchR a0 c z1 (a1, a2)).map (Value.int .i64)), Res.row (Value.slice (some ⟨blk42, 0, none⟩) n1 n1) 3 1 n1 (z1.map (Value.int .i64)), Res.row (Value.slice Aq22 (List.length (batchR a0 c z1 (a1, a2))) cq23) 3 1 (List.length (batchR a0 c z1 (a1, a2))) ((marks id (1 : Int) (List.length (batchR a0 c z1 (a1, a2)))).map (Value.int .i64)), Res.row (Value.slice (some ⟨blk17, 0, none⟩) n1 n1) 3 1 n1 ((marks id (1 : Int) n1).map (Value.int .i64)), Res.row (Value.slice (some ⟨blk28, 0, none⟩) n1 n1) 3 1 n1 (z1.map (Value.int .i64)), Res.row (Value.slice Aq12 (List.length (batchR a0 c z1 (a1, a2))) cq13) 3 1 (List.length (batchR a0 c z1 (a1, a2))) ((batchR a0 c z1 (a1, a2)).map (Value.int .i64)), Res.row (Value.slice (some ⟨blk8, 0, none⟩) n1 n1) 3 1 n1 (z1.map (Value.int .i64)), Res.box blk2 [Value.int .i64 a0, Value.int .i64 a1, Value.int .i64 a2] 23])) [(72, Value.int .i64 1), (71, Value.slice Aq22 (List.length (batchR a0 c z1 (a1, a2))) cq23)] [.no, .no] True (by kernel_rfl) trivial hS48 ?_
    refine l_op rfl rfl (fun K hK => op_callv (d := some 73) rfl rfl ⟨_, Try.func34, by kernel_rfl, by kernel_rfl⟩ (vs := [Value.slice Aq22 (List.length (batchR a0 c z1 (a1, a2))) cq23, Value.int .i64 1]) (by kernel_rfl) (v := Value.int .i64 ((1 : Int) + (((List.length (batchR a0 c z1 (a1, a2))) : Nat) : Int))) (heldIntS_c Aq22 (List.length (batchR a0 c z1 (a1, a2))) cq23 (1 : Int) w48 (by omega) (by omega) (by omega) (hS48.rd (List.mem_of_getElem? (i := 2) rfl)).u1) hS48 (fun w49 hS49 => hK _ _ ?_))
    clear hK K
    refine q_seg (S := (fun x_ => St w x_ [Res.row (Value.slice Aq46 (List.length (batchR a0 c z1 (a1, a2))) cq47) 3 1 (List.length (batchR a0 c z1 (a1, a2))) ((batchR a0 c z1 (a1, a2)).map (Value.int .i64)), Res.row (Value.slice (some ⟨blk42, 0, none⟩) n1 n1) 3 1 n1 (z1.map (Value.int .i64)), Res.row (Value.slice Aq22 (List.length (batchR a0 c z1 (a1, a2))) cq23) 3 1 (List.length (batchR a0 c z1 (a1, a2))) ((marks id (1 : Int) (List.length (batchR a0 c z1 (a1, a2)))).map (Value.int .i64)), Res.row (Value.slice (some ⟨blk17, 0, none⟩) n1 n1) 3 1 n1 ((marks id (1 : Int) n1).map (Value.int .i64)), Res.row (Value.slice (some ⟨blk28, 0, none⟩) n1 n1) 3 1 n1 (z1.map (Value.int .i64)), Res.row (Value.slice Aq12 (List.length (batchR a0 c z1 (a1, a2))) cq13) 3 1 (List.length (batchR a0 c z1 (a1, a2))) ((batchR a0 c z1 (a1, a2)).map (Value.int .i64)), Res.row (Value.slice (some ⟨blk8, 0, none⟩) n1 n1) 3 1 n1 (z1.map (Value.int .i64)), Res.box blk2 [Value.int .i64 a0, Value.int .i64 a1, Value.int .i64 a2] 23])) [(12, Value.int .i64 ((1 : Int) + (((List.length (batchR a0 c z1 (a1, a2))) : Nat) : Int)))] [.no] True (by kernel_rfl) trivial hS49 ?_
    refine l_nil rfl ?_
    refine then_n ?_
    refine wp_seq ?_
    refine wp_seq ?_
    refine c_reg ?_
    refine q_seg (S := (fun x_ => St w x_ [Res.row (Value.slice Aq46 (List.length (batchR a0 c z1 (a1, a2))) cq47) 3 1 (List.length (batchR a0 c z1 (a1, a2))) ((batchR a0 c z1 (a1, a2)).map (Value.int .i64)), Res.row (Value.slice (some ⟨blk42, 0, none⟩) n1 n1) 3 1 n1 (z1.map (Value.int .i64)), Res.row (Value.slice Aq22 (List.length (batchR a0 c z1 (a1, a2))) cq23) 3 1 (List.length (batchR a0 c z1 (a1, a2))) ((marks id (1 : Int) (List.length (batchR a0 c z1 (a1, a2)))).map (Value.int .i64)), Res.row (Value.slice (some ⟨blk17, 0, none⟩) n1 n1) 3 1 n1 ((marks id (1 : Int) n1).map (Value.int .i64)), Res.row (Value.slice (some ⟨blk28, 0, none⟩) n1 n1) 3 1 n1 (z1.map (Value.int .i64)), Res.row (Value.slice Aq12 (List.length (batchR a0 c z1 (a1, a2))) cq13) 3 1 (List.length (batchR a0 c z1 (a1, a2))) ((batchR a0 c z1 (a1, a2)).map (Value.int .i64)), Res.row (Value.slice (some ⟨blk8, 0, none⟩) n1 n1) 3 1 n1 (z1.map (Value.int .i64)), Res.box blk2 [Value.int .i64 a0, Value.int .i64 a1, Value.int .i64 a2] 23])) [(75, Value.bool (decide (((1 : Int) + (((List.length (batchR a0 c z1 (a1, a2))) : Nat) : Int)) < (0 : Int)))), (74, Value.int .i64 ((1 : Int) + (((List.length (batchR a0 c z1 (a1, a2))) : Nat) : Int)))] [.no, .no] True (by kernel_rfl) trivial hS49 ?_
    refine l_nil rfl ?_
    refine then_n ?_
    refine c_false (b := (decide (((1 : Int) + (((List.length (batchR a0 c z1 (a1, a2))) : Nat) : Int)) < (0 : Int)))) (by kernel_rfl) (decide_eq_false (by omega)) ?_
    refine wp_skip ?_
    refine then_n ?_
    refine wp_seq ?_
    refine wp_seq ?_
    refine c_reg ?_
    refine q_seg (S := (fun x_ => St w x_ [Res.row (Value.slice Aq46 (List.length (batchR a0 c z1 (a1, a2))) cq47) 3 1 (List.length (batchR a0 c z1 (a1, a2))) ((batchR a0 c z1 (a1, a2)).map (Value.int .i64)), Res.row (Value.slice (some ⟨blk42, 0, none⟩) n1 n1) 3 1 n1 (z1.map (Value.int .i64)), Res.row (Value.slice Aq22 (List.length (batchR a0 c z1 (a1, a2))) cq23) 3 1 (List.length (batchR a0 c z1 (a1, a2))) ((marks id (1 : Int) (List.length (batchR a0 c z1 (a1, a2)))).map (Value.int .i64)), Res.row (Value.slice (some ⟨blk17, 0, none⟩) n1 n1) 3 1 n1 ((marks id (1 : Int) n1).map (Value.int .i64)), Res.row (Value.slice (some ⟨blk28, 0, none⟩) n1 n1) 3 1 n1 (z1.map (Value.int .i64)), Res.row (Value.slice Aq12 (List.length (batchR a0 c z1 (a1, a2))) cq13) 3 1 (List.length (batchR a0 c z1 (a1, a2))) ((batchR a0 c z1 (a1, a2)).map (Value.int .i64)), Res.row (Value.slice (some ⟨blk8, 0, none⟩) n1 n1) 3 1 n1 (z1.map (Value.int .i64)), Res.box blk2 [Value.int .i64 a0, Value.int .i64 a1, Value.int .i64 a2] 23])) [(78, Value.bool (!(decide (((1 : Int) + (((List.length (batchR a0 c z1 (a1, a2))) : Nat) : Int)) = ((1 : Int) + (((List.length (batchR a0 c z1 (a1, a2))) : Nat) : Int)))))), (77, Value.int .i64 ((1 : Int) + (((List.length (batchR a0 c z1 (a1, a2))) : Nat) : Int))), (76, Value.int .i64 ((1 : Int) + (((List.length (batchR a0 c z1 (a1, a2))) : Nat) : Int)))] [.no, .no, .no] True (by kernel_rfl) trivial hS49 ?_
    refine l_nil rfl ?_
    refine then_n ?_
    refine c_false (b := (!(decide (((1 : Int) + (((List.length (batchR a0 c z1 (a1, a2))) : Nat) : Int)) = ((1 : Int) + (((List.length (batchR a0 c z1 (a1, a2))) : Nat) : Int)))))) (by kernel_rfl) (nb (v := true) (decide_eq_true rfl)) ?_
    refine wp_skip ?_
    refine then_n ?_
    refine wp_seq ?_
    refine c_reg ?_
    refine q_seg (S := (fun x_ => St w x_ [Res.row (Value.slice Aq46 (List.length (batchR a0 c z1 (a1, a2))) cq47) 3 1 (List.length (batchR a0 c z1 (a1, a2))) ((batchR a0 c z1 (a1, a2)).map (Value.int .i64)), Res.row (Value.slice (some ⟨blk42, 0, none⟩) n1 n1) 3 1 n1 (z1.map (Value.int .i64)), Res.row (Value.slice Aq22 (List.length (batchR a0 c z1 (a1, a2))) cq23) 3 1 (List.length (batchR a0 c z1 (a1, a2))) ((marks id (1 : Int) (List.length (batchR a0 c z1 (a1, a2)))).map (Value.int .i64)), Res.row (Value.slice (some ⟨blk17, 0, none⟩) n1 n1) 3 1 n1 ((marks id (1 : Int) n1).map (Value.int .i64)), Res.row (Value.slice (some ⟨blk28, 0, none⟩) n1 n1) 3 1 n1 (z1.map (Value.int .i64)), Res.row (Value.slice Aq12 (List.length (batchR a0 c z1 (a1, a2))) cq13) 3 1 (List.length (batchR a0 c z1 (a1, a2))) ((batchR a0 c z1 (a1, a2)).map (Value.int .i64)), Res.row (Value.slice (some ⟨blk8, 0, none⟩) n1 n1) 3 1 n1 (z1.map (Value.int .i64)), Res.box blk2 [Value.int .i64 a0, Value.int .i64 a1, Value.int .i64 a2] 23])) [(6, Value.bool true)] [.no] True (by kernel_rfl) trivial hS49 ?_
    refine l_nil rfl ?_
    refine then_n ?_
    refine wp_ret ?_
    exact c_end (S := (fun x_ => St w x_ [Res.row (Value.slice Aq46 (List.length (batchR a0 c z1 (a1, a2))) cq47) 3 1 (List.length (batchR a0 c z1 (a1, a2))) ((batchR a0 c z1 (a1, a2)).map (Value.int .i64)), Res.row (Value.slice (some ⟨blk42, 0, none⟩) n1 n1) 3 1 n1 (z1.map (Value.int .i64)), Res.row (Value.slice Aq22 (List.length (batchR a0 c z1 (a1, a2))) cq23) 3 1 (List.length (batchR a0 c z1 (a1, a2))) ((marks id (1 : Int) (List.length (batchR a0 c z1 (a1, a2)))).map (Value.int .i64)), Res.row (Value.slice (some ⟨blk17, 0, none⟩) n1 n1) 3 1 n1 ((marks id (1 : Int) n1).map (Value.int .i64)), Res.row (Value.slice (some ⟨blk28, 0, none⟩) n1 n1) 3 1 n1 (z1.map (Value.int .i64)), Res.row (Value.slice Aq12 (List.length (batchR a0 c z1 (a1, a2))) cq13) 3 1 (List.length (batchR a0 c z1 (a1, a2))) ((batchR a0 c z1 (a1, a2)).map (Value.int .i64)), Res.row (Value.slice (some ⟨blk8, 0, none⟩) n1 n1) 3 1 n1 (z1.map (Value.int .i64)), Res.box blk2 [Value.int .i64 a0, Value.int .i64 a1, Value.int .i64 a2] 23])) (rs := [.tmp 6]) rfl [] (v := Value.bool true) (C := True) (by kernel_rfl) trivial hS49 ((hS49.rv rfl))
end Go.Proofs.Ytdbbaiflhofkaaa
