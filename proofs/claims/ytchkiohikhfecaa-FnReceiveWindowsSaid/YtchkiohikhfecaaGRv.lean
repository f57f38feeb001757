/-
  Contracts of what is pending.
-/
import Derived.Test.YtchkiohikhfecaaGWr
import Derived.Test.YtchkiohikhfecaaRcv
namespace Go.Proofs.Ytchkiohikhfecaa
open Go.RowKit
set_option maxRecDepth 100000

theorem isPending_c (a0 : Int) (a1A : Option Addr) (a1n a1c : Nat) (a1L : List (Int × List Int)) (a2A : Option Addr) (a2n a2c : Nat) (a2L : List (Int × List Int)) (s : Int) (w : World) (a1h : RdL .u8 true w w.heap.size a1A a1n a1L) (a1w : wt a1L ≤ 1099511627776) (a2h : RdL .u8 false w w.heap.size a2A a2n a2L) (a2w : wt a2L ≤ 1099511627776) : Calls Try.prog 70 #[Value.agg #[Value.int .i64 a0, Value.slice a1A a1n a1c, Value.slice a2A a2n a2c], .int .i64 s] w (RetV w (.bool (decide ((0 : Int) ≤ fnd (isP a1L s) a1n)))) := by
  obtain ⟨hok, ys, hr, rfl⟩ := a1h
  have hwl := wt_len (ys.map (con true))
  have hln := hr.len
  rw [List.length_map] at hwl
  refine calls_FA Try.func70 rfl (n := 19) rfl (l := [(0, Value.agg #[Value.int .i64 a0, Value.slice a1A a1n a1c, Value.slice a2A a2n a2c]), (1, Value.int .i64 s)]) rfl (by simp) (fun g => ?_)
  have hS := St.init w
  refine wp_seq ?_
  refine c_reg ?_
  refine l_op rfl rfl (fun K hK => op_box (d := some 2) rfl rfl [Value.int .i64 a0, Value.slice a1A a1n a1c, Value.slice a2A a2n a2c] (by kernel_rfl) hS (fun blk2 w1 hS1 => hK _ _ ?_))
  clear hK K
  refine q_seg (S := (fun x_ => St w x_ [Res.box blk2 [Value.int .i64 a0, Value.slice a1A a1n a1c, Value.slice a2A a2n a2c] 34])) [(4, Value.bool false)] [.no] True (by kernel_rfl) trivial hS1 ?_
  refine l_nil rfl ?_
  refine then_n ?_
  refine wp_seq ?_
  refine wp_seq ?_
  refine c_reg ?_
  refine q_seg (S := (fun x_ => St w x_ [Res.box blk2 [Value.int .i64 a0, Value.slice a1A a1n a1c, Value.slice a2A a2n a2c] 34])) [(10, Value.int .i64 0), (9, Value.int .i64 ((a1n : Nat) : Int)), (8, Value.slice a1A a1n a1c), (7, Value.pointer (some ⟨blk2, 0 + 1, none⟩))] [.no, .v (Value.slice a1A a1n a1c), .no, .no] ((LoadsAt Try.prog (fun x_ => St w x_ [Res.box blk2 [Value.int .i64 a0, Value.slice a1A a1n a1c, Value.slice a2A a2n a2c] 34]) 31 ⟨blk2, 0 + 1, none⟩ (Value.slice a1A a1n a1c))) (by kernel_rfl) (ld_box (i := 0) rfl rfl (by kernel_rfl)) hS1 ?_
  refine l_nil rfl ?_
  refine then_n ?_
  refine wp_block ?_
  refine c_loop (X := Nat) (fun (k : Nat) => [(1, Value.int .i64 s), (8, Value.slice a1A a1n a1c), (9, Value.int .i64 ((a1n : Nat) : Int)), (10, Value.int .i64 ((k : Nat) : Int))]) (fun (k : Nat) (wr : World) => (k ≤ a1n) ∧ (∀ j, j < k → isP (ys.map (con true)) s j = false) ∧ St w wr [Res.box blk2 [Value.int .i64 a0, Value.slice a1A a1n a1c, Value.slice a2A a2n a2c] 34]) (fun (k : Nat) => a1n - k) 0 ?_ ?_ ?_
  · exact (agree_cons (by kernel_rfl) (agree_cons (by kernel_rfl) (agree_cons (by kernel_rfl) (agree_cons (by kernel_rfl) agree_nil))))
  · exact ⟨Nat.zero_le _, (fun j hj => absurd hj (by omega)), hS1⟩
  rintro k g4 w3 ⟨hkn, hno, hS3⟩
  refine wp_seq ?_
  refine c_reg ?_
  refine q_seg (S := (fun x_ => St w x_ [Res.box blk2 [Value.int .i64 a0, Value.slice a1A a1n a1c, Value.slice a2A a2n a2c] 34])) [(11, Value.bool (decide (((k : Nat) : Int) < ((a1n : Nat) : Int))))] [.no] True (by kernel_rfl) trivial hS3 ?_
  refine l_nil rfl ?_
  refine then_n ?_
  refine wp_seq ?_
  rcases Bool.eq_false_or_eq_true (decide (((k : Nat) : Int) < ((a1n : Nat) : Int))) with hb5 | hb5
  · skip
    have hb5p := of_decide_eq_true hb5
    obtain ⟨b, off, rfl, hbB, hcl⟩ := hr.at (k := k) (by omega)
    obtain ⟨y, hyk, hym⟩ := get_of_lt (l := ys) (k := k) (by have := hr.len; omega)
    obtain ⟨hy1, hy2, hy3⟩ := hr.el y hym
    obtain ⟨hyi, hyz⟩ := hok _ (List.mem_map_of_mem (f := (con true)) hym)
    have hyl : y.zs.length + 1 ≤ wt (ys.map (con true)) := wt_mem (List.mem_map_of_mem (f := (con true)) hym)
    unfold maxLen at hy3
    refine c_true (b := (decide (((k : Nat) : Int) < ((a1n : Nat) : Int)))) (by kernel_rfl) hb5 ?_
    refine wp_skip ?_
    refine then_n ?_
    refine wp_seq ?_
    refine wp_block ?_
    refine wp_seq ?_
    refine c_reg ?_
    refine q_seg (S := (fun x_ => St w x_ [Res.box blk2 [Value.int .i64 a0, Value.slice (some ⟨b, off, none⟩) a1n a1c, Value.slice a2A a2n a2c] 34])) [(13, Value.agg #[Value.int .i64 y.s, Value.slice y.A y.zs.length y.c]), (12, Value.pointer (some ⟨b, off + Int.toNat ((k : Nat) : Int) * 2, none⟩))] [.no, .v (Value.agg #[Value.int .i64 y.s, Value.slice y.A y.zs.length y.c])] (((0 : Int) ≤ ((k : Nat) : Int)) ∧ (((k : Nat) : Int) < ((a1n : Nat) : Int)) ∧ (LoadsAt Try.prog (fun x_ => St w x_ [Res.box blk2 [Value.int .i64 a0, Value.slice (some ⟨b, off, none⟩) a1n a1c, Value.slice a2A a2n a2c] 34]) 37 ⟨b, off + Int.toNat ((k : Nat) : Int) * 2, none⟩ (Value.agg #[Value.int .i64 y.s, Value.slice y.A y.zs.length y.c]))) (by kernel_rfl) ⟨(by omega), (by omega), (ld_lowN (k := 2) (vs := [Value.int .i64 y.s, Value.slice y.A y.zs.length y.c]) (by kernel_rfl) rfl (flat_cells (p := true) hcl hyk))⟩ hS3 ?_
    refine l_op rfl rfl (fun K hK => op_alloc (d := some 6) rfl rfl [Value.int .i64 0, Value.slice none 0 0] (by kernel_rfl) hS3 (fun blk7 w6 hS6 => hK _ _ ?_))
    clear hK K
    refine l_op rfl rfl (fun K hK => op_store (d := none) rfl rfl (i := 0) (b := blk7) (off := 0) (cs := [Value.int .i64 0, Value.slice none 0 0]) (bt := 37) (by kernel_rfl) (by kernel_rfl) [Value.int .i64 y.s, Value.slice y.A y.zs.length y.c] (by kernel_rfl) (by kernel_rfl) (Nat.le_of_ble_eq_true (by kernel_rfl)) (by kernel_rfl) [Res.box blk7 [Value.int .i64 y.s, Value.slice y.A y.zs.length y.c] 37, Res.box blk2 [Value.int .i64 a0, Value.slice (some ⟨b, off, none⟩) a1n a1c, Value.slice a2A a2n a2c] 34] (by kernel_rfl) hS6 (fun w8 hS8 => hK _ _ ?_))
    clear hK K
    refine l_nil rfl ?_
    refine then_n ?_
    refine wp_seq ?_
    refine c_reg ?_
    refine q_seg (S := (fun x_ => St w x_ [Res.box blk7 [Value.int .i64 y.s, Value.slice y.A y.zs.length y.c] 37, Res.box blk2 [Value.int .i64 a0, Value.slice (some ⟨b, off, none⟩) a1n a1c, Value.slice a2A a2n a2c] 34])) [(17, Value.bool (decide (y.s = s))), (16, Value.int .i64 s), (15, Value.int .i64 y.s), (14, Value.pointer (some ⟨blk7, 0 + 0, none⟩))] [.no, .v (Value.int .i64 y.s), .no, .no] ((LoadsAt Try.prog (fun x_ => St w x_ [Res.box blk7 [Value.int .i64 y.s, Value.slice y.A y.zs.length y.c] 37, Res.box blk2 [Value.int .i64 a0, Value.slice (some ⟨b, off, none⟩) a1n a1c, Value.slice a2A a2n a2c] 34]) 3 ⟨blk7, 0 + 0, none⟩ (Value.int .i64 y.s))) (by kernel_rfl) (ld_box (i := 0) rfl rfl (by kernel_rfl)) hS8 ?_
    refine l_nil rfl ?_
    refine then_n ?_
    rcases Bool.eq_false_or_eq_true (decide (y.s = s)) with hb9 | hb9
    · skip
      have hb9p := of_decide_eq_true hb9
      refine c_true (b := (decide (y.s = s))) (by kernel_rfl) hb9 ?_
      refine wp_seq ?_
      refine c_reg ?_
      refine q_seg (S := (fun x_ => St w x_ [Res.box blk7 [Value.int .i64 y.s, Value.slice y.A y.zs.length y.c] 37, Res.box blk2 [Value.int .i64 a0, Value.slice (some ⟨b, off, none⟩) a1n a1c, Value.slice a2A a2n a2c] 34])) [(4, Value.bool true)] [.no] True (by kernel_rfl) trivial hS8 ?_
      refine l_nil rfl ?_
      refine then_n ?_
      refine wp_ret ?_
      refine blk_r ?_
      refine then_r ?_
      refine then_r ?_
      refine blk_r ?_
      refine then_r ?_
      exact c_end (S := (fun x_ => St w x_ [Res.box blk7 [Value.int .i64 y.s, Value.slice y.A y.zs.length y.c] 37, Res.box blk2 [Value.int .i64 a0, Value.slice (some ⟨b, off, none⟩) a1n a1c, Value.slice a2A a2n a2c] 34])) (rs := [.tmp 4]) rfl [] (v := Value.bool true) (C := True) (by kernel_rfl) trivial hS8 ((hS8.rv (congrArg Value.bool (decide_eq_true (fnd_iff.2 ⟨k, by omega, isP_t hyk hb9p⟩)).symm)))
    · skip
      have hb9p := of_decide_eq_false hb9
      refine c_false (b := (decide (y.s = s))) (by kernel_rfl) hb9 ?_
      refine wp_skip ?_
      refine blk_n ?_
      refine then_n ?_
      refine c_reg ?_
      refine q_seg (S := (fun x_ => St w x_ [Res.box blk7 [Value.int .i64 y.s, Value.slice y.A y.zs.length y.c] 37, Res.box blk2 [Value.int .i64 a0, Value.slice (some ⟨b, off, none⟩) a1n a1c, Value.slice a2A a2n a2c] 34])) [(10, Value.int .i64 (((k : Nat) : Int) + (1 : Int))), (18, Value.int .i64 (((k : Nat) : Int) + (1 : Int)))] [.no, .no] ((InK .i64 (((k : Nat) : Int) + (1 : Int)))) (by kernel_rfl) (in64 (by omega) (by omega)) hS8 ?_
      refine l_nil rfl ?_
      refine then_n ?_
      refine round_end (k + 1) ?_ ?_ ?_
      · exact (agree_cons (by kernel_rfl) (agree_cons (by kernel_rfl) (agree_cons (by kernel_rfl) (agree_cons (by kernel_rfl) agree_nil))))
      · exact ⟨(by omega), (step_no hno (isP_f hyk hb9p)), hS8.drop⟩
      · exact (by first | omega | (dsimp only; omega))
  · skip
    have hb5p := of_decide_eq_false hb5
    refine c_false (b := (decide (((k : Nat) : Int) < ((a1n : Nat) : Int)))) (by kernel_rfl) hb5 ?_
    refine wp_exit ?_
    refine then_x ?_
    refine then_x ?_
    refine blk_hit ?_
    refine then_n ?_
    refine wp_seq ?_
    refine c_reg ?_
    refine q_seg (S := (fun x_ => St w x_ [Res.box blk2 [Value.int .i64 a0, Value.slice a1A a1n a1c, Value.slice a2A a2n a2c] 34])) [(4, Value.bool false)] [.no] True (by kernel_rfl) trivial hS3 ?_
    refine l_nil rfl ?_
    refine then_n ?_
    refine wp_ret ?_
    exact c_end (S := (fun x_ => St w x_ [Res.box blk2 [Value.int .i64 a0, Value.slice a1A a1n a1c, Value.slice a2A a2n a2c] 34])) (rs := [.tmp 4]) rfl [] (v := Value.bool false) (C := True) (by kernel_rfl) trivial hS3 ((hS3.rv (congrArg Value.bool (decide_eq_false (fun e_ => by rw [fnd_miss (fun j hj => hno j (by omega))] at e_; omega)).symm)))
theorem l24Find_c (A : Option Addr) (n c : Nat) (L : List (Int × List Int)) (s : Int) (w : World) (hs : wt L ≤ 1099511627776) (hr : RdL .u8 true w w.heap.size A n L) : Calls Try.prog 65 #[.slice A n c, .int .i64 s] w (RetV w (.int .i64 (fnd (isP L s) n))) := by
  obtain ⟨hok, ys, hr, rfl⟩ := hr
  have hwl := wt_len (ys.map (con true))
  have hln := hr.len
  rw [List.length_map] at hwl
  refine calls_FA Try.func65 rfl (n := 20) rfl (l := [(0, Value.slice A n c), (1, Value.int .i64 s)]) rfl (by simp) (fun g => ?_)
  have hS := St.init w
  refine wp_seq ?_
  refine c_reg ?_
  refine q_seg (S := (fun x_ => St w x_ [])) [(4, Value.int .i64 0)] [.no] True (by kernel_rfl) trivial hS ?_
  refine l_nil rfl ?_
  refine then_n ?_
  refine wp_seq ?_
  refine wp_seq ?_
  refine c_reg ?_
  refine q_seg (S := (fun x_ => St w x_ [])) [(5, Value.int .i64 0)] [.no] True (by kernel_rfl) trivial hS ?_
  refine l_nil rfl ?_
  refine then_n ?_
  refine wp_block ?_
  refine c_loop (X := Nat) (fun (k : Nat) => [(0, Value.slice A n c), (1, Value.int .i64 s), (5, Value.int .i64 ((k : Nat) : Int))]) (fun (k : Nat) (wr : World) => (k ≤ n) ∧ (∀ j, j < k → isP (ys.map (con true)) s j = false) ∧ St w wr []) (fun (k : Nat) => n - k) 0 ?_ ?_ ?_
  · exact (agree_cons (by kernel_rfl) (agree_cons (by kernel_rfl) (agree_cons (by kernel_rfl) agree_nil)))
  · exact ⟨Nat.zero_le _, (fun j hj => absurd hj (by omega)), hS⟩
  rintro k g2 w1 ⟨hkn, hno, hS1⟩
  refine wp_seq ?_
  refine wp_seq ?_
  refine c_reg ?_
  refine q_seg (S := (fun x_ => St w x_ [])) [(9, Value.bool (decide (((k : Nat) : Int) < ((n : Nat) : Int)))), (8, Value.int .i64 ((n : Nat) : Int)), (7, Value.slice A n c), (6, Value.int .i64 ((k : Nat) : Int))] [.no, .no, .no, .no] True (by kernel_rfl) trivial hS1 ?_
  refine l_nil rfl ?_
  refine then_n ?_
  rcases Bool.eq_false_or_eq_true (decide (((k : Nat) : Int) < ((n : Nat) : Int))) with hb3 | hb3
  · skip
    have hb3p := of_decide_eq_true hb3
    obtain ⟨b, off, rfl, hbB, hcl⟩ := hr.at (k := k) (by omega)
    obtain ⟨y, hyk, hym⟩ := get_of_lt (l := ys) (k := k) (by have := hr.len; omega)
    obtain ⟨hy1, hy2, hy3⟩ := hr.el y hym
    obtain ⟨hyi, hyz⟩ := hok _ (List.mem_map_of_mem (f := (con true)) hym)
    have hyl : y.zs.length + 1 ≤ wt (ys.map (con true)) := wt_mem (List.mem_map_of_mem (f := (con true)) hym)
    unfold maxLen at hy3
    refine c_true (b := (decide (((k : Nat) : Int) < ((n : Nat) : Int)))) (by kernel_rfl) hb3 ?_
    refine wp_skip ?_
    refine then_n ?_
    refine wp_seq ?_
    refine wp_block ?_
    refine wp_seq ?_
    refine c_reg ?_
    refine q_seg (S := (fun x_ => St w x_ [])) [(18, Value.bool (decide (y.s = s))), (17, Value.int .i64 s), (16, Value.int .i64 y.s), (15, Value.pointer (some ⟨b, off + Int.toNat ((k : Nat) : Int) * 2 + 0, none⟩)), (14, Value.pointer (some ⟨b, off + Int.toNat ((k : Nat) : Int) * 2, none⟩)), (13, Value.int .i64 ((k : Nat) : Int)), (12, Value.slice (some ⟨b, off, none⟩) n c)] [.no, .no, .no, .no, .v (Value.int .i64 y.s), .no, .no] (((0 : Int) ≤ ((k : Nat) : Int)) ∧ (((k : Nat) : Int) < ((n : Nat) : Int)) ∧ (LoadsAt Try.prog (fun x_ => St w x_ []) 3 ⟨b, off + Int.toNat ((k : Nat) : Int) * 2 + 0, none⟩ (Value.int .i64 y.s))) (by kernel_rfl) ⟨(by omega), (by omega), (ld_low (flat_cell (p := true) (r := 0) hcl hyk rfl) (by kernel_rfl))⟩ hS1 ?_
    refine l_nil rfl ?_
    refine then_n ?_
    rcases Bool.eq_false_or_eq_true (decide (y.s = s)) with hb4 | hb4
    · skip
      have hb4p := of_decide_eq_true hb4
      refine c_true (b := (decide (y.s = s))) (by kernel_rfl) hb4 ?_
      refine wp_seq ?_
      refine c_reg ?_
      refine q_seg (S := (fun x_ => St w x_ [])) [(4, Value.int .i64 ((k : Nat) : Int)), (19, Value.int .i64 ((k : Nat) : Int))] [.no, .no] True (by kernel_rfl) trivial hS1 ?_
      refine l_nil rfl ?_
      refine then_n ?_
      refine wp_ret ?_
      refine blk_r ?_
      refine then_r ?_
      refine then_r ?_
      refine blk_r ?_
      refine then_r ?_
      exact c_end (S := (fun x_ => St w x_ [])) (rs := [.tmp 4]) rfl [] (v := Value.int .i64 ((k : Nat) : Int)) (C := True) (by kernel_rfl) trivial hS1 ((hS1.rv (congrArg (Value.int .i64) (fnd_hit (by omega) (isP_t hyk hb4p) hno).symm)))
    · skip
      have hb4p := of_decide_eq_false hb4
      refine c_false (b := (decide (y.s = s))) (by kernel_rfl) hb4 ?_
      refine wp_skip ?_
      refine blk_n ?_
      refine then_n ?_
      refine c_reg ?_
      refine q_seg (S := (fun x_ => St w x_ [])) [(5, Value.int .i64 (((k : Nat) : Int) + (1 : Int))), (11, Value.int .i64 (((k : Nat) : Int) + (1 : Int))), (10, Value.int .i64 ((k : Nat) : Int))] [.no, .no, .no] ((InK .i64 (((k : Nat) : Int) + (1 : Int)))) (by kernel_rfl) (in64 (by omega) (by omega)) hS1 ?_
      refine l_nil rfl ?_
      refine then_n ?_
      refine round_end (k + 1) ?_ ?_ ?_
      · exact (agree_cons (by kernel_rfl) (agree_cons (by kernel_rfl) (agree_cons (by kernel_rfl) agree_nil)))
      · exact ⟨(by omega), (step_no hno (isP_f hyk hb4p)), hS1⟩
      · exact (by first | omega | (dsimp only; omega))
  · skip
    have hb3p := of_decide_eq_false hb3
    refine c_false (b := (decide (((k : Nat) : Int) < ((n : Nat) : Int)))) (by kernel_rfl) hb3 ?_
    refine wp_exit ?_
    refine then_x ?_
    refine then_x ?_
    refine blk_hit ?_
    refine then_n ?_
    refine wp_seq ?_
    refine c_reg ?_
    refine q_seg (S := (fun x_ => St w x_ [])) [(4, Value.int .i64 (-1))] [.no] True (by kernel_rfl) trivial hS1 ?_
    refine l_nil rfl ?_
    refine then_n ?_
    refine wp_ret ?_
    exact c_end (S := (fun x_ => St w x_ [])) (rs := [.tmp 4]) rfl [] (v := Value.int .i64 (-1)) (C := True) (by kernel_rfl) trivial hS1 ((hS1.rv (congrArg (Value.int .i64) (fnd_miss (fun j hj => hno j (by omega))).symm)))
end Go.Proofs.Ytchkiohikhfecaa
