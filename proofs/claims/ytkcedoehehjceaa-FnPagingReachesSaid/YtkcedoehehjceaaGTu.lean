/-
  Contracts of TicksUntilPaged.
-/
import Derived.Test.YtkcedoehehjceaaGTk
namespace Go.Proofs.Ytkcedoehehjceaa
open Go.RowKit
set_option maxRecDepth 100000

theorem isCell_i_c (a0A : Option Addr) (a0n a0c : Nat) (a0L : List (Int × List Int)) (c : Int) (w : World) (a0h : RdL .i64 true w w.heap.size a0A a0n a0L) (a0w : wt a0L ≤ 1099511627776) : Calls Try.prog 39 #[Value.agg #[Value.slice a0A a0n a0c], .int .i64 c] w (RetV w (.bool (inR c 0 (((a0n : Nat) : Int) - 1)))) := by
  have a0l := a0h.len
  have a0v := wt_len a0L
  refine calls_FA Try.func39 rfl (n := 11) rfl (l := [(0, Value.agg #[Value.slice a0A a0n a0c]), (1, Value.int .i64 c)]) rfl (by simp) (fun g => ?_)
  have hS := St.init w
  refine wp_seq ?_
  refine c_reg ?_
  refine l_op rfl rfl (fun K hK => op_box (d := some 2) rfl rfl [Value.slice a0A a0n a0c] (by kernel_rfl) hS (fun blk2 w1 hS1 => hK _ _ ?_))
  clear hK K
  refine q_seg (S := (fun x_ => St w x_ [Res.box blk2 [Value.slice a0A a0n a0c] 32])) [(4, Value.bool false)] [.no] True (by kernel_rfl) trivial hS1 ?_
  refine l_nil rfl ?_
  refine then_n ?_
  refine wp_seq ?_
  refine c_reg ?_
  refine q_seg (S := (fun x_ => St w x_ [Res.box blk2 [Value.slice a0A a0n a0c] 32])) [(9, Value.int .i64 (((a0n : Nat) : Int) - (1 : Int))), (8, Value.int .i64 ((a0n : Nat) : Int)), (7, Value.slice a0A a0n a0c), (6, Value.pointer (some ⟨blk2, 0 + 0, none⟩)), (5, Value.int .i64 c)] [.no, .no, .v (Value.slice a0A a0n a0c), .no, .no] ((LoadsAt Try.prog (fun x_ => St w x_ [Res.box blk2 [Value.slice a0A a0n a0c] 32]) 30 ⟨blk2, 0 + 0, none⟩ (Value.slice a0A a0n a0c)) ∧ (InK .i64 (((a0n : Nat) : Int) - (1 : Int)))) (by kernel_rfl) ⟨(ld_box (i := 0) rfl rfl (by kernel_rfl)), (in64 (by omega) (by omega))⟩ hS1 ?_
  refine l_op rfl rfl (fun K hK => op_callv (d := some 10) rfl rfl ⟨_, Try.func33, by kernel_rfl, by kernel_rfl⟩ (vs := [Value.int .i64 c, Value.int .i64 0, Value.int .i64 (((a0n : Nat) : Int) - (1 : Int))]) (by kernel_rfl) (v := Value.bool (inR c 0 (((a0n : Nat) : Int) - (1 : Int)))) (InRange_c c 0 (((a0n : Nat) : Int) - (1 : Int)) _) hS1 (fun w3 hS3 => hK _ _ ?_))
  clear hK K
  refine q_seg (S := (fun x_ => St w x_ [Res.box blk2 [Value.slice a0A a0n a0c] 32])) [(4, Value.bool (inR c 0 (((a0n : Nat) : Int) - (1 : Int))))] [.no] True (by kernel_rfl) trivial hS3 ?_
  refine l_nil rfl ?_
  refine then_n ?_
  refine wp_ret ?_
  exact c_end (S := (fun x_ => St w x_ [Res.box blk2 [Value.slice a0A a0n a0c] 32])) (rs := [.tmp 4]) rfl [] (v := Value.bool (inR c 0 (((a0n : Nat) : Int) - (1 : Int)))) (C := True) (by kernel_rfl) trivial hS3 ((hS3.rv rfl))
theorem l10Has_c (A : Option Addr) (n cp : Nat) (zs : List Int) (c : Int) (w : World) (hn : n ≤ 9223372036854775807) (hr : Rd w w.heap.size A n (zs.map (Value.int .i64))) : Calls Try.prog 44 #[.slice A n cp, .int .i64 c] w (RetV w (.bool (decide (c ∈ zs)))) := by
  refine calls_FA Try.func44 rfl (n := 18) rfl (l := [(0, Value.slice A n cp), (1, Value.int .i64 c)]) rfl (by simp) (fun g => ?_)
  have hS := St.init w
  refine wp_seq ?_
  refine c_reg ?_
  refine q_seg (S := (fun x_ => St w x_ [])) [(4, Value.bool false)] [.no] True (by kernel_rfl) trivial hS ?_
  refine l_nil rfl ?_
  refine then_n ?_
  refine wp_seq ?_
  refine wp_seq ?_
  refine c_reg ?_
  refine q_seg (S := (fun x_ => St w x_ [])) [(5, Value.int .i64 0)] [.no] True (by kernel_rfl) trivial hS ?_
  refine l_nil rfl ?_
  refine then_n ?_
  refine wp_block ?_
  refine c_loop (X := Nat) (fun (k : Nat) => [(0, Value.slice A n cp), (1, Value.int .i64 c), (5, Value.int .i64 ((k : Nat) : Int))]) (fun (k : Nat) (wr : World) => (k ≤ n) ∧ (c ∉ zs.take k) ∧ St w wr []) (fun (k : Nat) => n - k) 0 ?_ ?_ ?_
  · exact (agree_cons (by kernel_rfl) (agree_cons (by kernel_rfl) (agree_cons (by kernel_rfl) agree_nil)))
  · exact ⟨Nat.zero_le _, by simp, hS⟩
  rintro k g2 w1 ⟨hkn, hnk, hS1⟩
  refine wp_seq ?_
  refine wp_seq ?_
  refine c_reg ?_
  refine q_seg (S := (fun x_ => St w x_ [])) [(9, Value.bool (decide (((k : Nat) : Int) < ((n : Nat) : Int)))), (8, Value.int .i64 ((n : Nat) : Int)), (7, Value.slice A n cp), (6, Value.int .i64 ((k : Nat) : Int))] [.no, .no, .no, .no] True (by kernel_rfl) trivial hS1 ?_
  refine l_nil rfl ?_
  refine then_n ?_
  rcases Bool.eq_false_or_eq_true (decide (((k : Nat) : Int) < ((n : Nat) : Int))) with hb3 | hb3
  · skip
    have hb3p := of_decide_eq_true hb3
    obtain ⟨b, off, rfl, hbB, hcl⟩ := hr.2 (by omega)
    obtain ⟨z, hzk, hzm⟩ := get_of_lt (l := zs) (k := k) (by have := hr.len; omega)
    refine c_true (b := (decide (((k : Nat) : Int) < ((n : Nat) : Int)))) (by kernel_rfl) hb3 ?_
    refine wp_skip ?_
    refine then_n ?_
    refine wp_seq ?_
    refine wp_block ?_
    refine wp_seq ?_
    refine c_reg ?_
    refine q_seg (S := (fun x_ => St w x_ [])) [(17, Value.bool (decide (z = c))), (16, Value.int .i64 c), (15, Value.int .i64 z), (14, Value.pointer (some ⟨b, off + Int.toNat ((k : Nat) : Int) * 1, none⟩)), (13, Value.int .i64 ((k : Nat) : Int)), (12, Value.slice (some ⟨b, off, none⟩) n cp)] [.no, .no, .no, .v (Value.int .i64 z), .no, .no] (((0 : Int) ≤ ((k : Nat) : Int)) ∧ (((k : Nat) : Int) < ((n : Nat) : Int)) ∧ (LoadsAt Try.prog (fun x_ => St w x_ []) 3 ⟨b, off + Int.toNat ((k : Nat) : Int) * 1, none⟩ (Value.int .i64 z))) (by kernel_rfl) ⟨(by omega), (by omega), (ld_low (hcl _ _ (by simp [hzk])) (by kernel_rfl))⟩ hS1 ?_
    refine l_nil rfl ?_
    refine then_n ?_
    rcases Bool.eq_false_or_eq_true (decide (z = c)) with hb4 | hb4
    · skip
      have hb4p := of_decide_eq_true hb4
      refine c_true (b := (decide (z = c))) (by kernel_rfl) hb4 ?_
      refine wp_seq ?_
      refine c_reg ?_
      refine q_seg (S := (fun x_ => St w x_ [])) [(4, Value.bool true)] [.no] True (by kernel_rfl) trivial hS1 ?_
      refine l_nil rfl ?_
      refine then_n ?_
      refine wp_ret ?_
      refine blk_r ?_
      refine then_r ?_
      refine then_r ?_
      refine blk_r ?_
      refine then_r ?_
      exact c_end (S := (fun x_ => St w x_ [])) (rs := [.tmp 4]) rfl [] (v := Value.bool true) (C := True) (by kernel_rfl) trivial hS1 ((hS1.rv (congrArg Value.bool (decide_eq_true (mem_of_get hzk hb4p)).symm)))
    · skip
      have hb4p := of_decide_eq_false hb4
      refine c_false (b := (decide (z = c))) (by kernel_rfl) hb4 ?_
      refine wp_skip ?_
      refine blk_n ?_
      refine then_n ?_
      refine c_reg ?_
      refine q_seg (S := (fun x_ => St w x_ [])) [(5, Value.int .i64 (((k : Nat) : Int) + (1 : Int))), (11, Value.int .i64 (((k : Nat) : Int) + (1 : Int))), (10, Value.int .i64 ((k : Nat) : Int))] [.no, .no, .no] ((InK .i64 (((k : Nat) : Int) + (1 : Int)))) (by kernel_rfl) (in64 (by omega) (by omega)) hS1 ?_
      refine l_nil rfl ?_
      refine then_n ?_
      refine round_end (k + 1) ?_ ?_ ?_
      · exact (agree_cons (by kernel_rfl) (agree_cons (by kernel_rfl) (agree_cons (by kernel_rfl) agree_nil)))
      · exact ⟨(by omega), (not_take_step hnk hzk hb4p), hS1⟩
      · exact (by first | omega | (dsimp only; omega))
  · skip
    have hb3p := of_decide_eq_false hb3
    refine c_false (b := (decide (((k : Nat) : Int) < ((n : Nat) : Int)))) (by kernel_rfl) hb3 ?_
    refine wp_exit ?_
    refine then_x ?_
    refine then_x ?_
    refine blk_hit ?_
    refine then_n ?_
    refine wp_seq ?_
    refine c_reg ?_
    refine q_seg (S := (fun x_ => St w x_ [])) [(4, Value.bool false)] [.no] True (by kernel_rfl) trivial hS1 ?_
    refine l_nil rfl ?_
    refine then_n ?_
    refine wp_ret ?_
    exact c_end (S := (fun x_ => St w x_ [])) (rs := [.tmp 4]) rfl [] (v := Value.bool false) (C := True) (by kernel_rfl) trivial hS1 ((hS1.rv (congrArg Value.bool (decide_eq_false (by rw [List.take_of_length_le (by have := hr.len; omega)] at hnk; exact hnk)).symm)))
theorem TicksUntilPaged_i_c (a0A : Option Addr) (a0n a0c : Nat) (a0L : List (Int × List Int)) (e c : Int) (w : World) (a0h : RdL .i64 true w w.heap.size a0A a0n a0L) (a0w : wt a0L ≤ 1099511627776) (he : I64 e) : Calls Try.prog 18 #[Value.agg #[Value.slice a0A a0n a0c], .int .i64 e, .int .i64 c] w (RetV w (.int .i64 (tup a0n a0L e c))) := by
  have a0l := a0h.len
  have a0v := wt_len a0L
  obtain ⟨he1, he2⟩ := he
  refine calls_FA Try.func18 rfl (n := 39) rfl (l := [(0, Value.agg #[Value.slice a0A a0n a0c]), (1, Value.int .i64 e), (2, Value.int .i64 c)]) rfl (by simp) (fun g => ?_)
  have hS := St.init w
  refine wp_seq ?_
  refine c_reg ?_
  refine l_op rfl rfl (fun K hK => op_box (d := some 3) rfl rfl [Value.slice a0A a0n a0c] (by kernel_rfl) hS (fun blk2 w1 hS1 => hK _ _ ?_))
  clear hK K
  refine q_seg (S := (fun x_ => St w x_ [Res.box blk2 [Value.slice a0A a0n a0c] 32])) [(6, Value.int .i64 0)] [.no] True (by kernel_rfl) trivial hS1 ?_
  refine l_nil rfl ?_
  refine then_n ?_
  refine wp_seq ?_
  refine wp_seq ?_
  refine c_reg ?_
  refine q_seg (S := (fun x_ => St w x_ [Res.box blk2 [Value.slice a0A a0n a0c] 32])) [(14, Value.int .i64 c), (13, Value.agg #[Value.slice a0A a0n a0c])] [.v (Value.agg #[Value.slice a0A a0n a0c]), .no] ((LoadsAt Try.prog (fun x_ => St w x_ [Res.box blk2 [Value.slice a0A a0n a0c] 32]) 32 ⟨blk2, 0, none⟩ (Value.agg #[Value.slice a0A a0n a0c]))) (by kernel_rfl) (ld_boxN (i := 0) (k := 1) rfl rfl rfl (by kernel_rfl)) hS1 ?_
  refine l_op rfl rfl (fun K hK => op_callv (d := some 15) rfl rfl ⟨_, Try.func39, by kernel_rfl, by kernel_rfl⟩ (vs := [Value.agg #[Value.slice a0A a0n a0c], Value.int .i64 c]) (by kernel_rfl) (v := Value.bool (inR c 0 (((a0n : Nat) : Int) - 1))) (isCell_i_c a0A a0n a0c a0L c w1 (hS1.rdllow a0h) (by omega)) hS1 (fun w3 hS3 => hK _ _ ?_))
  clear hK K
  refine q_seg (S := (fun x_ => St w x_ [Res.box blk2 [Value.slice a0A a0n a0c] 32])) [(16, Value.bool (!(inR c 0 (((a0n : Nat) : Int) - 1))))] [.no] True (by kernel_rfl) trivial hS3 ?_
  refine l_nil rfl ?_
  refine then_n ?_
  rcases Bool.eq_false_or_eq_true (inR c 0 (((a0n : Nat) : Int) - 1)) with hb4 | hb4
  · skip
    obtain ⟨hb4p, hb4q⟩ := inR_iff.1 hb4
    refine c_false (b := (!(inR c 0 (((a0n : Nat) : Int) - 1)))) (by kernel_rfl) (nb (v := true) hb4) ?_
    refine wp_skip ?_
    refine then_n ?_
    refine wp_seq ?_
    refine c_reg ?_
    refine q_seg (S := (fun x_ => St w x_ [Res.box blk2 [Value.slice a0A a0n a0c] 32])) [(18, Value.agg #[Value.int .i64 e, Value.int .i64 0, Value.int .i64 0]), (17, Value.int .i64 e)] [.no, .no] True (by kernel_rfl) trivial hS3 ?_
    refine l_op rfl rfl (fun K hK => op_alloc (d := some 7) rfl rfl [Value.int .i64 0, Value.int .i64 0, Value.int .i64 0] (by kernel_rfl) hS3 (fun blk6 w5 hS5 => hK _ _ ?_))
    clear hK K
    refine l_op rfl rfl (fun K hK => op_store (d := none) rfl rfl (i := 0) (b := blk6) (off := 0) (cs := [Value.int .i64 0, Value.int .i64 0, Value.int .i64 0]) (bt := 25) (by kernel_rfl) (by kernel_rfl) [Value.int .i64 e, Value.int .i64 0, Value.int .i64 0] (by kernel_rfl) (by kernel_rfl) (Nat.le_of_ble_eq_true (by kernel_rfl)) (by kernel_rfl) [Res.box blk6 [Value.int .i64 e, Value.int .i64 0, Value.int .i64 0] 25, Res.box blk2 [Value.slice a0A a0n a0c] 32] (by kernel_rfl) hS5 (fun w7 hS7 => hK _ _ ?_))
    clear hK K
    refine l_nil rfl ?_
    refine then_n ?_
    refine wp_seq ?_
    refine c_reg ?_
    refine q_seg (S := (fun x_ => St w x_ [Res.box blk6 [Value.int .i64 e, Value.int .i64 0, Value.int .i64 0] 25, Res.box blk2 [Value.slice a0A a0n a0c] 32])) [(8, Value.int .i64 0)] [.no] True (by kernel_rfl) trivial hS7 ?_
    refine l_nil rfl ?_
    refine then_n ?_
    refine wp_block ?_
    refine c_loop (X := Nat) (fun (i : Nat) => [(2, Value.int .i64 c), (3, Value.pointer (some ⟨blk2, 0, none⟩)), (7, Value.pointer (some ⟨blk6, 0, none⟩)), (8, Value.int .i64 ((i : Nat) : Int))]) (fun (i : Nat) (wr : World) => (i ≤ 4) ∧ (i = 0 ∨ c ∉ pcells a0L e 1) ∧ St w wr [Res.box blk6 [Value.int .i64 e, Value.int .i64 (uA i), Value.int .i64 (uW i)] 25, Res.box blk2 [Value.slice a0A a0n a0c] 32]) (fun (i : Nat) => 4 - i) 0 ?_ ?_ ?_
    · exact (agree_cons (by kernel_rfl) (agree_cons (by kernel_rfl) (agree_cons (by kernel_rfl) (agree_cons (by kernel_rfl) agree_nil))))
    · exact ⟨(by omega), (.inl rfl), (hS7.eqv (by simp [uA, uW]))⟩
    rintro i g9 w8 ⟨hi, hno, hS8⟩
    obtain ⟨hub1, hub2, hub3, hub4⟩ := u_bd hi
    have htl := tpC_len a0L e (uA i) (uW i)
    refine wp_block ?_
    refine wp_seq ?_
    refine c_reg ?_
    refine q_seg (S := (fun x_ => St w x_ [Res.box blk6 [Value.int .i64 e, Value.int .i64 (uA i), Value.int .i64 (uW i)] 25, Res.box blk2 [Value.slice a0A a0n a0c] 32])) [(21, Value.agg #[Value.slice a0A a0n a0c]), (20, Value.agg #[Value.int .i64 e, Value.int .i64 (uA i), Value.int .i64 (uW i)])] [.v (Value.agg #[Value.int .i64 e, Value.int .i64 (uA i), Value.int .i64 (uW i)]), .v (Value.agg #[Value.slice a0A a0n a0c])] ((LoadsAt Try.prog (fun x_ => St w x_ [Res.box blk6 [Value.int .i64 e, Value.int .i64 (uA i), Value.int .i64 (uW i)] 25, Res.box blk2 [Value.slice a0A a0n a0c] 32]) 25 ⟨blk6, 0, none⟩ (Value.agg #[Value.int .i64 e, Value.int .i64 (uA i), Value.int .i64 (uW i)])) ∧ (LoadsAt Try.prog (fun x_ => St w x_ [Res.box blk6 [Value.int .i64 e, Value.int .i64 (uA i), Value.int .i64 (uW i)] 25, Res.box blk2 [Value.slice a0A a0n a0c] 32]) 32 ⟨blk2, 0, none⟩ (Value.agg #[Value.slice a0A a0n a0c]))) (by kernel_rfl) ⟨(ld_boxN (i := 0) (k := 3) rfl rfl rfl (by kernel_rfl)), (ld_boxN (i := 1) (k := 1) rfl rfl rfl (by kernel_rfl))⟩ hS8 ?_
    refine l_op rfl rfl (fun K hK => op_call (d := some 22) rfl rfl ⟨_, Try.func14, by kernel_rfl, by kernel_rfl⟩ (vs := [Value.agg #[Value.int .i64 e, Value.int .i64 (uA i), Value.int .i64 (uW i)], Value.agg #[Value.slice a0A a0n a0c]]) (by kernel_rfl) (TickPaging_i_c e (uA i) (uW i) a0A a0n a0c a0L w8 (i64 (by omega) (by omega)) (i64 (by omega) (by omega)) (i64 (by omega) (by omega)) (hS8.rdllow a0h) (by omega)) hS8 (fun v12 new13 w10 Rw10 hS10 => hK _ _ ?_))
    clear hK K
    have htp11 := tpC_len a0L e (uA i) (uW i)
    have htp11w := wt_len a0L
    obtain ⟨⟨htp11a, htp11b⟩, htp11c, htp11d⟩ := tp_bd (a1 := (uA i)) (a2 := (uW i)) (i64 (by omega) (by omega)) (i64 (by omega) (by omega))
    obtain ⟨Aq14, cq15, rfl, rfl⟩ := Rw10
    refine q_seg (S := (fun x_ => St w x_ [Res.row (Value.slice Aq14 (List.length (tpC a0L e (uA i) (uW i))) cq15) 3 1 (List.length (tpC a0L e (uA i) (uW i))) ((tpC a0L e (uA i) (uW i)).map (Value.int .i64)), Res.box blk6 [Value.int .i64 e, Value.int .i64 (uA i), Value.int .i64 (uW i)] 25, Res.box blk2 [Value.slice a0A a0n a0c] 32])) [(24, Value.slice Aq14 (List.length (tpC a0L e (uA i) (uW i))) cq15), (23, Value.agg #[Value.int .i64 e, Value.int .i64 (tpA (uA i) (uW i)), Value.int .i64 (tpW (uW i))]), (19, Value.tuple #[Value.agg #[Value.int .i64 e, Value.int .i64 (tpA (uA i) (uW i)), Value.int .i64 (tpW (uW i))], Value.slice Aq14 (List.length (tpC a0L e (uA i) (uW i))) cq15])] [.no, .no, .no] True (by kernel_rfl) trivial hS10 ?_
    refine l_op rfl rfl (fun K hK => op_alloc (d := some 9) rfl rfl [Value.int .i64 0, Value.int .i64 0, Value.int .i64 0] (by kernel_rfl) hS10 (fun blk17 w16 hS16 => hK _ _ ?_))
    clear hK K
    refine l_op rfl rfl (fun K hK => op_store (d := none) rfl rfl (i := 0) (b := blk17) (off := 0) (cs := [Value.int .i64 0, Value.int .i64 0, Value.int .i64 0]) (bt := 25) (by kernel_rfl) (by kernel_rfl) [Value.int .i64 e, Value.int .i64 (tpA (uA i) (uW i)), Value.int .i64 (tpW (uW i))] (by kernel_rfl) (by kernel_rfl) (Nat.le_of_ble_eq_true (by kernel_rfl)) (by kernel_rfl) [Res.box blk17 [Value.int .i64 e, Value.int .i64 (tpA (uA i) (uW i)), Value.int .i64 (tpW (uW i))] 25, Res.row (Value.slice Aq14 (List.length (tpC a0L e (uA i) (uW i))) cq15) 3 1 (List.length (tpC a0L e (uA i) (uW i))) ((tpC a0L e (uA i) (uW i)).map (Value.int .i64)), Res.box blk6 [Value.int .i64 e, Value.int .i64 (uA i), Value.int .i64 (uW i)] 25, Res.box blk2 [Value.slice a0A a0n a0c] 32] (by kernel_rfl) hS16 (fun w18 hS18 => hK _ _ ?_))
    clear hK K
    refine q_seg (S := (fun x_ => St w x_ [Res.box blk17 [Value.int .i64 e, Value.int .i64 (tpA (uA i) (uW i)), Value.int .i64 (tpW (uW i))] 25, Res.row (Value.slice Aq14 (List.length (tpC a0L e (uA i) (uW i))) cq15) 3 1 (List.length (tpC a0L e (uA i) (uW i))) ((tpC a0L e (uA i) (uW i)).map (Value.int .i64)), Res.box blk6 [Value.int .i64 e, Value.int .i64 (uA i), Value.int .i64 (uW i)] 25, Res.box blk2 [Value.slice a0A a0n a0c] 32])) [(10, Value.slice Aq14 (List.length (tpC a0L e (uA i) (uW i))) cq15)] [.no] True (by kernel_rfl) trivial hS18 ?_
    refine l_nil rfl ?_
    refine then_n ?_
    refine wp_seq ?_
    refine c_reg ?_
    refine q_seg (S := (fun x_ => St w x_ [Res.box blk17 [Value.int .i64 e, Value.int .i64 (tpA (uA i) (uW i)), Value.int .i64 (tpW (uW i))] 25, Res.row (Value.slice Aq14 (List.length (tpC a0L e (uA i) (uW i))) cq15) 3 1 (List.length (tpC a0L e (uA i) (uW i))) ((tpC a0L e (uA i) (uW i)).map (Value.int .i64)), Res.box blk6 [Value.int .i64 e, Value.int .i64 (uA i), Value.int .i64 (uW i)] 25, Res.box blk2 [Value.slice a0A a0n a0c] 32])) [(25, Value.agg #[Value.int .i64 e, Value.int .i64 (tpA (uA i) (uW i)), Value.int .i64 (tpW (uW i))])] [.v (Value.agg #[Value.int .i64 e, Value.int .i64 (tpA (uA i) (uW i)), Value.int .i64 (tpW (uW i))])] ((LoadsAt Try.prog (fun x_ => St w x_ [Res.box blk17 [Value.int .i64 e, Value.int .i64 (tpA (uA i) (uW i)), Value.int .i64 (tpW (uW i))] 25, Res.row (Value.slice Aq14 (List.length (tpC a0L e (uA i) (uW i))) cq15) 3 1 (List.length (tpC a0L e (uA i) (uW i))) ((tpC a0L e (uA i) (uW i)).map (Value.int .i64)), Res.box blk6 [Value.int .i64 e, Value.int .i64 (uA i), Value.int .i64 (uW i)] 25, Res.box blk2 [Value.slice a0A a0n a0c] 32]) 25 ⟨blk17, 0, none⟩ (Value.agg #[Value.int .i64 e, Value.int .i64 (tpA (uA i) (uW i)), Value.int .i64 (tpW (uW i))]))) (by kernel_rfl) (ld_boxN (i := 0) (k := 3) rfl rfl rfl (by kernel_rfl)) hS18 ?_
    refine l_op rfl rfl (fun K hK => op_store (d := none) rfl rfl (i := 2) (b := blk6) (off := 0) (cs := [Value.int .i64 e, Value.int .i64 (uA i), Value.int .i64 (uW i)]) (bt := 25) (by kernel_rfl) (by kernel_rfl) [Value.int .i64 e, Value.int .i64 (tpA (uA i) (uW i)), Value.int .i64 (tpW (uW i))] (by kernel_rfl) (by kernel_rfl) (Nat.le_of_ble_eq_true (by kernel_rfl)) (by kernel_rfl) [Res.box blk17 [Value.int .i64 e, Value.int .i64 (tpA (uA i) (uW i)), Value.int .i64 (tpW (uW i))] 25, Res.row (Value.slice Aq14 (List.length (tpC a0L e (uA i) (uW i))) cq15) 3 1 (List.length (tpC a0L e (uA i) (uW i))) ((tpC a0L e (uA i) (uW i)).map (Value.int .i64)), Res.box blk6 [Value.int .i64 e, Value.int .i64 (tpA (uA i) (uW i)), Value.int .i64 (tpW (uW i))] 25, Res.box blk2 [Value.slice a0A a0n a0c] 32] (by kernel_rfl) hS18 (fun w19 hS19 => hK _ _ ?_))
    clear hK K
    refine l_nil rfl ?_
    refine then_n ?_
    refine wp_seq ?_
    refine c_reg ?_
    refine q_seg (S := (fun x_ => St w x_ [Res.box blk17 [Value.int .i64 e, Value.int .i64 (tpA (uA i) (uW i)), Value.int .i64 (tpW (uW i))] 25, Res.row (Value.slice Aq14 (List.length (tpC a0L e (uA i) (uW i))) cq15) 3 1 (List.length (tpC a0L e (uA i) (uW i))) ((tpC a0L e (uA i) (uW i)).map (Value.int .i64)), Res.box blk6 [Value.int .i64 e, Value.int .i64 (tpA (uA i) (uW i)), Value.int .i64 (tpW (uW i))] 25, Res.box blk2 [Value.slice a0A a0n a0c] 32])) [(8, Value.int .i64 (((i : Nat) : Int) + (1 : Int))), (27, Value.int .i64 (((i : Nat) : Int) + (1 : Int))), (26, Value.int .i64 ((i : Nat) : Int))] [.no, .no, .no] ((InK .i64 (((i : Nat) : Int) + (1 : Int)))) (by kernel_rfl) (in64 (by omega) (by omega)) hS19 ?_
    refine l_nil rfl ?_
    refine then_n ?_
    refine wp_seq ?_
    refine c_reg ?_
    refine q_seg (S := (fun x_ => St w x_ [Res.box blk17 [Value.int .i64 e, Value.int .i64 (tpA (uA i) (uW i)), Value.int .i64 (tpW (uW i))] 25, Res.row (Value.slice Aq14 (List.length (tpC a0L e (uA i) (uW i))) cq15) 3 1 (List.length (tpC a0L e (uA i) (uW i))) ((tpC a0L e (uA i) (uW i)).map (Value.int .i64)), Res.box blk6 [Value.int .i64 e, Value.int .i64 (tpA (uA i) (uW i)), Value.int .i64 (tpW (uW i))] 25, Res.box blk2 [Value.slice a0A a0n a0c] 32])) [(30, Value.int .i64 0), (29, Value.int .i64 (((List.length (tpC a0L e (uA i) (uW i))) : Nat) : Int)), (28, Value.slice Aq14 (List.length (tpC a0L e (uA i) (uW i))) cq15)] [.no, .no, .no] True (by kernel_rfl) trivial hS19 ?_
    refine l_nil rfl ?_
    refine then_n ?_
    refine wp_block ?_
    refine c_loop (X := Nat) (fun (k : Nat) => [(2, Value.int .i64 c), (3, Value.pointer (some ⟨blk2, 0, none⟩)), (7, Value.pointer (some ⟨blk6, 0, none⟩)), (8, Value.int .i64 (((i : Nat) : Int) + (1 : Int))), (9, Value.pointer (some ⟨blk17, 0, none⟩)), (10, Value.slice Aq14 (List.length (tpC a0L e (uA i) (uW i))) cq15), (19, Value.tuple #[Value.agg #[Value.int .i64 e, Value.int .i64 (tpA (uA i) (uW i)), Value.int .i64 (tpW (uW i))], Value.slice Aq14 (List.length (tpC a0L e (uA i) (uW i))) cq15]), (20, Value.agg #[Value.int .i64 e, Value.int .i64 (uA i), Value.int .i64 (uW i)]), (21, Value.agg #[Value.slice a0A a0n a0c]), (22, Value.tuple #[Value.agg #[Value.int .i64 e, Value.int .i64 (tpA (uA i) (uW i)), Value.int .i64 (tpW (uW i))], Value.slice Aq14 (List.length (tpC a0L e (uA i) (uW i))) cq15]), (23, Value.agg #[Value.int .i64 e, Value.int .i64 (tpA (uA i) (uW i)), Value.int .i64 (tpW (uW i))]), (24, Value.slice Aq14 (List.length (tpC a0L e (uA i) (uW i))) cq15), (25, Value.agg #[Value.int .i64 e, Value.int .i64 (tpA (uA i) (uW i)), Value.int .i64 (tpW (uW i))]), (26, Value.int .i64 ((i : Nat) : Int)), (27, Value.int .i64 (((i : Nat) : Int) + (1 : Int))), (28, Value.slice Aq14 (List.length (tpC a0L e (uA i) (uW i))) cq15), (29, Value.int .i64 (((List.length (tpC a0L e (uA i) (uW i))) : Nat) : Int)), (30, Value.int .i64 ((k : Nat) : Int))]) (fun (k : Nat) (wr : World) => (k ≤ List.length (tpC a0L e (uA i) (uW i))) ∧ (c ∉ (tpC a0L e (uA i) (uW i)).take k) ∧ St w wr [Res.box blk17 [Value.int .i64 e, Value.int .i64 (tpA (uA i) (uW i)), Value.int .i64 (tpW (uW i))] 25, Res.row (Value.slice Aq14 (List.length (tpC a0L e (uA i) (uW i))) cq15) 3 1 (List.length (tpC a0L e (uA i) (uW i))) ((tpC a0L e (uA i) (uW i)).map (Value.int .i64)), Res.box blk6 [Value.int .i64 e, Value.int .i64 (tpA (uA i) (uW i)), Value.int .i64 (tpW (uW i))] 25, Res.box blk2 [Value.slice a0A a0n a0c] 32]) (fun (k : Nat) => List.length (tpC a0L e (uA i) (uW i)) - k) 0 ?_ ?_ ?_
    · exact (agree_cons (by kernel_rfl) (agree_cons (by kernel_rfl) (agree_cons (by kernel_rfl) (agree_cons (by kernel_rfl) (agree_cons (by kernel_rfl) (agree_cons (by kernel_rfl) (agree_cons (by kernel_rfl) (agree_cons (by kernel_rfl) (agree_cons (by kernel_rfl) (agree_cons (by kernel_rfl) (agree_cons (by kernel_rfl) (agree_cons (by kernel_rfl) (agree_cons (by kernel_rfl) (agree_cons (by kernel_rfl) (agree_cons (by kernel_rfl) (agree_cons (by kernel_rfl) (agree_cons (by kernel_rfl) (agree_cons (by kernel_rfl) agree_nil))))))))))))))))))
    · exact ⟨Nat.zero_le _, (by simp), hS19⟩
    rintro k g21 w20 ⟨hkn, hnk, hS20⟩
    refine wp_seq ?_
    refine c_reg ?_
    refine q_seg (S := (fun x_ => St w x_ [Res.box blk17 [Value.int .i64 e, Value.int .i64 (tpA (uA i) (uW i)), Value.int .i64 (tpW (uW i))] 25, Res.row (Value.slice Aq14 (List.length (tpC a0L e (uA i) (uW i))) cq15) 3 1 (List.length (tpC a0L e (uA i) (uW i))) ((tpC a0L e (uA i) (uW i)).map (Value.int .i64)), Res.box blk6 [Value.int .i64 e, Value.int .i64 (tpA (uA i) (uW i)), Value.int .i64 (tpW (uW i))] 25, Res.box blk2 [Value.slice a0A a0n a0c] 32])) [(31, Value.bool (decide (((k : Nat) : Int) < (((List.length (tpC a0L e (uA i) (uW i))) : Nat) : Int))))] [.no] True (by kernel_rfl) trivial hS20 ?_
    refine l_nil rfl ?_
    refine then_n ?_
    refine wp_seq ?_
    rcases Bool.eq_false_or_eq_true (decide (((k : Nat) : Int) < (((List.length (tpC a0L e (uA i) (uW i))) : Nat) : Int))) with hb22 | hb22
    · skip
      have hb22p := of_decide_eq_true hb22
      obtain ⟨blk23, rfl⟩ := hS20.row_at (List.mem_of_getElem? (i := 1) rfl) (by omega)
      obtain ⟨z, hzk, hzm⟩ := get_of_lt (l := (tpC a0L e (uA i) (uW i))) (k := k) (by omega)
      refine c_true (b := (decide (((k : Nat) : Int) < (((List.length (tpC a0L e (uA i) (uW i))) : Nat) : Int)))) (by kernel_rfl) hb22 ?_
      refine wp_skip ?_
      refine then_n ?_
      refine wp_seq ?_
      refine wp_block ?_
      refine wp_seq ?_
      refine c_reg ?_
      refine q_seg (S := (fun x_ => St w x_ [Res.box blk17 [Value.int .i64 e, Value.int .i64 (tpA (uA i) (uW i)), Value.int .i64 (tpW (uW i))] 25, Res.row (Value.slice (some ⟨blk23, 0, none⟩) (List.length (tpC a0L e (uA i) (uW i))) cq15) 3 1 (List.length (tpC a0L e (uA i) (uW i))) ((tpC a0L e (uA i) (uW i)).map (Value.int .i64)), Res.box blk6 [Value.int .i64 e, Value.int .i64 (tpA (uA i) (uW i)), Value.int .i64 (tpW (uW i))] 25, Res.box blk2 [Value.slice a0A a0n a0c] 32])) [(12, Value.int .i64 z), (33, Value.int .i64 z), (32, Value.pointer (some ⟨blk23, 0 + Int.toNat ((k : Nat) : Int) * 1, none⟩))] [.no, .v (Value.int .i64 z), .no] (((0 : Int) ≤ ((k : Nat) : Int)) ∧ (((k : Nat) : Int) < (((List.length (tpC a0L e (uA i) (uW i))) : Nat) : Int)) ∧ (LoadsAt Try.prog (fun x_ => St w x_ [Res.box blk17 [Value.int .i64 e, Value.int .i64 (tpA (uA i) (uW i)), Value.int .i64 (tpW (uW i))] 25, Res.row (Value.slice (some ⟨blk23, 0, none⟩) (List.length (tpC a0L e (uA i) (uW i))) cq15) 3 1 (List.length (tpC a0L e (uA i) (uW i))) ((tpC a0L e (uA i) (uW i)).map (Value.int .i64)), Res.box blk6 [Value.int .i64 e, Value.int .i64 (tpA (uA i) (uW i)), Value.int .i64 (tpW (uW i))] 25, Res.box blk2 [Value.slice a0A a0n a0c] 32]) 3 ⟨blk23, 0 + Int.toNat ((k : Nat) : Int) * 1, none⟩ (Value.int .i64 z))) (by kernel_rfl) ⟨(by omega), (by omega), (ld_row (i := 1) rfl (by rw [off1]; exact map_get hzk) (by kernel_rfl))⟩ hS20 ?_
      refine l_nil rfl ?_
      refine then_n ?_
      refine wp_seq ?_
      refine c_reg ?_
      refine q_seg (S := (fun x_ => St w x_ [Res.box blk17 [Value.int .i64 e, Value.int .i64 (tpA (uA i) (uW i)), Value.int .i64 (tpW (uW i))] 25, Res.row (Value.slice (some ⟨blk23, 0, none⟩) (List.length (tpC a0L e (uA i) (uW i))) cq15) 3 1 (List.length (tpC a0L e (uA i) (uW i))) ((tpC a0L e (uA i) (uW i)).map (Value.int .i64)), Res.box blk6 [Value.int .i64 e, Value.int .i64 (tpA (uA i) (uW i)), Value.int .i64 (tpW (uW i))] 25, Res.box blk2 [Value.slice a0A a0n a0c] 32])) [(36, Value.bool (decide (z = c))), (35, Value.int .i64 c), (34, Value.int .i64 z)] [.no, .no, .no] True (by kernel_rfl) trivial hS20 ?_
      refine l_nil rfl ?_
      refine then_n ?_
      rcases Bool.eq_false_or_eq_true (decide (z = c)) with hb24 | hb24
      · skip
        have hb24p := of_decide_eq_true hb24
        refine c_true (b := (decide (z = c))) (by kernel_rfl) hb24 ?_
        refine wp_seq ?_
        refine c_reg ?_
        refine q_seg (S := (fun x_ => St w x_ [Res.box blk17 [Value.int .i64 e, Value.int .i64 (tpA (uA i) (uW i)), Value.int .i64 (tpW (uW i))] 25, Res.row (Value.slice (some ⟨blk23, 0, none⟩) (List.length (tpC a0L e (uA i) (uW i))) cq15) 3 1 (List.length (tpC a0L e (uA i) (uW i))) ((tpC a0L e (uA i) (uW i)).map (Value.int .i64)), Res.box blk6 [Value.int .i64 e, Value.int .i64 (tpA (uA i) (uW i)), Value.int .i64 (tpW (uW i))] 25, Res.box blk2 [Value.slice a0A a0n a0c] 32])) [(6, Value.int .i64 (((i : Nat) : Int) + (1 : Int))), (37, Value.int .i64 (((i : Nat) : Int) + (1 : Int)))] [.no, .no] True (by kernel_rfl) trivial hS20 ?_
        refine l_nil rfl ?_
        refine then_n ?_
        refine wp_ret ?_
        refine blk_r ?_
        refine then_r ?_
        refine then_r ?_
        refine blk_r ?_
        refine blk_r ?_
        refine then_r ?_
        refine blk_r ?_
        exact c_end (S := (fun x_ => St w x_ [Res.box blk17 [Value.int .i64 e, Value.int .i64 (tpA (uA i) (uW i)), Value.int .i64 (tpW (uW i))] 25, Res.row (Value.slice (some ⟨blk23, 0, none⟩) (List.length (tpC a0L e (uA i) (uW i))) cq15) 3 1 (List.length (tpC a0L e (uA i) (uW i))) ((tpC a0L e (uA i) (uW i)).map (Value.int .i64)), Res.box blk6 [Value.int .i64 e, Value.int .i64 (tpA (uA i) (uW i)), Value.int .i64 (tpW (uW i))] 25, Res.box blk2 [Value.slice a0A a0n a0c] 32])) (rs := [.tmp 6]) rfl [] (v := Value.int .i64 (((i : Nat) : Int) + (1 : Int))) (C := True) (by kernel_rfl) trivial hS20 ((hS20.rv (congrArg (Value.int .i64) (tup_hit hb4 hi hno (mem_of_get hzk hb24p)))))
      · skip
        have hb24p := of_decide_eq_false hb24
        refine c_false (b := (decide (z = c))) (by kernel_rfl) hb24 ?_
        refine wp_skip ?_
        refine blk_n ?_
        refine then_n ?_
        refine c_reg ?_
        refine q_seg (S := (fun x_ => St w x_ [Res.box blk17 [Value.int .i64 e, Value.int .i64 (tpA (uA i) (uW i)), Value.int .i64 (tpW (uW i))] 25, Res.row (Value.slice (some ⟨blk23, 0, none⟩) (List.length (tpC a0L e (uA i) (uW i))) cq15) 3 1 (List.length (tpC a0L e (uA i) (uW i))) ((tpC a0L e (uA i) (uW i)).map (Value.int .i64)), Res.box blk6 [Value.int .i64 e, Value.int .i64 (tpA (uA i) (uW i)), Value.int .i64 (tpW (uW i))] 25, Res.box blk2 [Value.slice a0A a0n a0c] 32])) [(30, Value.int .i64 (((k : Nat) : Int) + (1 : Int))), (38, Value.int .i64 (((k : Nat) : Int) + (1 : Int)))] [.no, .no] ((InK .i64 (((k : Nat) : Int) + (1 : Int)))) (by kernel_rfl) (in64 (by omega) (by omega)) hS20 ?_
        refine l_nil rfl ?_
        refine then_n ?_
        refine round_end (k + 1) ?_ ?_ ?_
        · exact (agree_cons (by kernel_rfl) (agree_cons (by kernel_rfl) (agree_cons (by kernel_rfl) (agree_cons (by kernel_rfl) (agree_cons (by kernel_rfl) (agree_cons (by kernel_rfl) (agree_cons (by kernel_rfl) (agree_cons (by kernel_rfl) (agree_cons (by kernel_rfl) (agree_cons (by kernel_rfl) (agree_cons (by kernel_rfl) (agree_cons (by kernel_rfl) (agree_cons (by kernel_rfl) (agree_cons (by kernel_rfl) (agree_cons (by kernel_rfl) (agree_cons (by kernel_rfl) (agree_cons (by kernel_rfl) (agree_cons (by kernel_rfl) agree_nil))))))))))))))))))
        · exact ⟨(by omega), (not_take_step hnk hzk hb24p), hS20⟩
        · exact (by first | omega | (dsimp only; omega))
    · skip
      have hb22p := of_decide_eq_false hb22
      refine c_false (b := (decide (((k : Nat) : Int) < (((List.length (tpC a0L e (uA i) (uW i))) : Nat) : Int)))) (by kernel_rfl) hb22 ?_
      refine wp_exit ?_
      refine then_x ?_
      refine then_x ?_
      refine blk_hit ?_
      refine blk_n ?_
      refine then_n ?_
      have hS20s1 : St w w20 [Res.box blk6 [Value.int .i64 e, Value.int .i64 (tpA (uA i) (uW i)), Value.int .i64 (tpW (uW i))] 25, Res.box blk2 [Value.slice a0A a0n a0c] 32] := (hS20.sub (List.Sublist.cons _ (List.Sublist.cons _ (List.Sublist.cons_cons _ (List.Sublist.cons_cons _ List.Sublist.slnil)))))
      have hmiss : c ∉ (tpC a0L e (uA i) (uW i)) := by rw [List.take_of_length_le (by omega)] at hnk; exact hnk
      obtain ⟨hi4, hno2⟩ := tup_miss (n := a0n) hb4 a0l hi hno hmiss
      obtain ⟨hu1, hu2⟩ := u_next hi4
      refine round_end (i + 1) ?_ ?_ ?_
      · exact (agree_cons (by kernel_rfl) (agree_cons (by kernel_rfl) (agree_cons (by kernel_rfl) (agree_cons (by kernel_rfl) agree_nil))))
      · exact ⟨(by omega), hno2, (hS20s1.eqv (by rw [hu1, hu2]))⟩
      · exact (by first | omega | (dsimp only; omega))
  · skip
    have hb4p := inR_neg hb4
    refine c_true (b := (!(inR c 0 (((a0n : Nat) : Int) - 1)))) (by kernel_rfl) (nb (v := false) hb4) ?_
    refine wp_seq ?_
    refine c_reg ?_
    refine q_seg (S := (fun x_ => St w x_ [Res.box blk2 [Value.slice a0A a0n a0c] 32])) [(6, Value.int .i64 0)] [.no] True (by kernel_rfl) trivial hS3 ?_
    refine l_nil rfl ?_
    refine then_n ?_
    refine wp_ret ?_
    refine then_r ?_
    exact c_end (S := (fun x_ => St w x_ [Res.box blk2 [Value.slice a0A a0n a0c] 32])) (rs := [.tmp 6]) rfl [] (v := Value.int .i64 0) (C := True) (by kernel_rfl) trivial hS3 ((hS3.rv (congrArg (Value.int .i64) (tup_no hb4))))
theorem TicksUntilPaged_s_in (a0A : Option Addr) (a0n a0c : Nat) (a0L : List (Int × List Int)) (e c : Int) (w : World) (a0h : RdL .i64 true w w.heap.size a0A a0n a0L) (a0w : wt a0L ≤ 1099511627776) (he : I64 e) (hI : inR c 0 (((a0n : Nat) : Int) - 1) = true) : Calls Try.prog 29 #[Value.agg #[Value.slice a0A a0n a0c], .int .i64 e, .int .i64 c] w (RetV w (.int .i64 (tup a0n a0L e c))) := by
  have a0l := a0h.len
  have a0v := wt_len a0L
  obtain ⟨he1, he2⟩ := he
  refine calls_FA Try.func29 rfl (n := 32) rfl (l := [(0, Value.agg #[Value.slice a0A a0n a0c]), (1, Value.int .i64 e), (2, Value.int .i64 c)]) rfl (by simp) (fun g => ?_)
  have hS := St.init w
  refine wp_seq ?_
  refine c_reg ?_
  refine l_op rfl rfl (fun K hK => op_box (d := some 3) rfl rfl [Value.slice a0A a0n a0c] (by kernel_rfl) hS (fun blk2 w1 hS1 => hK _ _ ?_))
  clear hK K
  refine q_seg (S := (fun x_ => St w x_ [Res.box blk2 [Value.slice a0A a0n a0c] 32])) [(6, Value.int .i64 0)] [.no] True (by kernel_rfl) trivial hS1 ?_
  refine l_nil rfl ?_
  refine then_n ?_
  refine wp_seq ?_
  refine c_reg ?_
  refine q_seg (S := (fun x_ => St w x_ [Res.box blk2 [Value.slice a0A a0n a0c] 32])) [(12, Value.agg #[Value.int .i64 e, Value.int .i64 0, Value.int .i64 0]), (11, Value.int .i64 e)] [.no, .no] True (by kernel_rfl) trivial hS1 ?_
  refine l_op rfl rfl (fun K hK => op_alloc (d := some 7) rfl rfl [Value.int .i64 0, Value.int .i64 0, Value.int .i64 0] (by kernel_rfl) hS1 (fun blk4 w3 hS3 => hK _ _ ?_))
  clear hK K
  refine l_op rfl rfl (fun K hK => op_store (d := none) rfl rfl (i := 0) (b := blk4) (off := 0) (cs := [Value.int .i64 0, Value.int .i64 0, Value.int .i64 0]) (bt := 25) (by kernel_rfl) (by kernel_rfl) [Value.int .i64 e, Value.int .i64 0, Value.int .i64 0] (by kernel_rfl) (by kernel_rfl) (Nat.le_of_ble_eq_true (by kernel_rfl)) (by kernel_rfl) [Res.box blk4 [Value.int .i64 e, Value.int .i64 0, Value.int .i64 0] 25, Res.box blk2 [Value.slice a0A a0n a0c] 32] (by kernel_rfl) hS3 (fun w5 hS5 => hK _ _ ?_))
  clear hK K
  refine l_nil rfl ?_
  refine then_n ?_
  refine wp_seq ?_
  refine wp_seq ?_
  refine c_reg ?_
  refine q_seg (S := (fun x_ => St w x_ [Res.box blk4 [Value.int .i64 e, Value.int .i64 0, Value.int .i64 0] 25, Res.box blk2 [Value.slice a0A a0n a0c] 32])) [(8, Value.int .i64 1)] [.no] True (by kernel_rfl) trivial hS5 ?_
  refine l_nil rfl ?_
  refine then_n ?_
  refine wp_block ?_
  refine c_loop (X := Nat) (fun (i : Nat) => [(2, Value.int .i64 c), (3, Value.pointer (some ⟨blk2, 0, none⟩)), (7, Value.pointer (some ⟨blk4, 0, none⟩)), (8, Value.int .i64 (((i : Nat) : Int) + 1))]) (fun (i : Nat) (wr : World) => (i ≤ 4) ∧ (i = 0 ∨ c ∉ pcells a0L e 1) ∧ St w wr [Res.box blk4 [Value.int .i64 e, Value.int .i64 (uA i), Value.int .i64 (uW i)] 25, Res.box blk2 [Value.slice a0A a0n a0c] 32]) (fun (i : Nat) => 4 - i) 0 ?_ ?_ ?_
  · exact (agree_cons (by kernel_rfl) (agree_cons (by kernel_rfl) (agree_cons (by kernel_rfl) (agree_cons (by kernel_rfl) agree_nil))))
  · exact ⟨(by omega), (.inl rfl), (hS5.eqv (by simp [uA, uW]))⟩
  rintro i g7 w6 ⟨hi, hno, hS6⟩
  obtain ⟨hub1, hub2, hub3, hub4⟩ := u_bd hi
  have htl := tpC_len a0L e (uA i) (uW i)
  refine wp_seq ?_
  refine wp_seq ?_
  refine c_reg ?_
  refine q_seg (S := (fun x_ => St w x_ [Res.box blk4 [Value.int .i64 e, Value.int .i64 (uA i), Value.int .i64 (uW i)] 25, Res.box blk2 [Value.slice a0A a0n a0c] 32])) [(17, Value.int .i64 (((a0n : Nat) : Int) - (1 : Int))), (16, Value.int .i64 ((a0n : Nat) : Int)), (15, Value.slice a0A a0n a0c), (14, Value.pointer (some ⟨blk2, 0 + 0, none⟩)), (13, Value.int .i64 c)] [.no, .no, .v (Value.slice a0A a0n a0c), .no, .no] ((LoadsAt Try.prog (fun x_ => St w x_ [Res.box blk4 [Value.int .i64 e, Value.int .i64 (uA i), Value.int .i64 (uW i)] 25, Res.box blk2 [Value.slice a0A a0n a0c] 32]) 30 ⟨blk2, 0 + 0, none⟩ (Value.slice a0A a0n a0c)) ∧ (InK .i64 (((a0n : Nat) : Int) - (1 : Int)))) (by kernel_rfl) ⟨(ld_box (i := 1) rfl rfl (by kernel_rfl)), (in64 (by omega) (by omega))⟩ hS6 ?_
  refine l_op rfl rfl (fun K hK => op_callv (d := some 18) rfl rfl ⟨_, Try.func32, by kernel_rfl, by kernel_rfl⟩ (vs := [Value.int .i64 c, Value.int .i64 0, Value.int .i64 (((a0n : Nat) : Int) - (1 : Int))]) (by kernel_rfl) (v := Value.bool (inR c 0 (((a0n : Nat) : Int) - (1 : Int)))) (l1In_c c 0 (((a0n : Nat) : Int) - (1 : Int)) _) hS6 (fun w8 hS8 => hK _ _ ?_))
  clear hK K
  refine l_nil rfl ?_
  refine then_n ?_
  refine c_true (b := (inR c 0 (((a0n : Nat) : Int) - (1 : Int)))) (by kernel_rfl) hI ?_
  refine wp_skip ?_
  refine then_n ?_
  refine wp_seq ?_
  refine wp_block ?_
  refine wp_seq ?_
  refine c_reg ?_
  refine q_seg (S := (fun x_ => St w x_ [Res.box blk4 [Value.int .i64 e, Value.int .i64 (uA i), Value.int .i64 (uW i)] 25, Res.box blk2 [Value.slice a0A a0n a0c] 32])) [(23, Value.agg #[Value.slice a0A a0n a0c]), (22, Value.agg #[Value.int .i64 e, Value.int .i64 (uA i), Value.int .i64 (uW i)])] [.v (Value.agg #[Value.int .i64 e, Value.int .i64 (uA i), Value.int .i64 (uW i)]), .v (Value.agg #[Value.slice a0A a0n a0c])] ((LoadsAt Try.prog (fun x_ => St w x_ [Res.box blk4 [Value.int .i64 e, Value.int .i64 (uA i), Value.int .i64 (uW i)] 25, Res.box blk2 [Value.slice a0A a0n a0c] 32]) 25 ⟨blk4, 0, none⟩ (Value.agg #[Value.int .i64 e, Value.int .i64 (uA i), Value.int .i64 (uW i)])) ∧ (LoadsAt Try.prog (fun x_ => St w x_ [Res.box blk4 [Value.int .i64 e, Value.int .i64 (uA i), Value.int .i64 (uW i)] 25, Res.box blk2 [Value.slice a0A a0n a0c] 32]) 32 ⟨blk2, 0, none⟩ (Value.agg #[Value.slice a0A a0n a0c]))) (by kernel_rfl) ⟨(ld_boxN (i := 0) (k := 3) rfl rfl rfl (by kernel_rfl)), (ld_boxN (i := 1) (k := 1) rfl rfl rfl (by kernel_rfl))⟩ hS8 ?_
  refine l_op rfl rfl (fun K hK => op_call (d := some 24) rfl rfl ⟨_, Try.func30, by kernel_rfl, by kernel_rfl⟩ (vs := [Value.agg #[Value.int .i64 e, Value.int .i64 (uA i), Value.int .i64 (uW i)], Value.agg #[Value.slice a0A a0n a0c]]) (by kernel_rfl) (TickPaging_s_c e (uA i) (uW i) a0A a0n a0c a0L w8 (i64 (by omega) (by omega)) (i64 (by omega) (by omega)) (i64 (by omega) (by omega)) (hS8.rdllow a0h) (by omega)) hS8 (fun v11 new12 w9 Rw9 hS9 => hK _ _ ?_))
  clear hK K
  have htp10 := tpC_len a0L e (uA i) (uW i)
  have htp10w := wt_len a0L
  obtain ⟨⟨htp10a, htp10b⟩, htp10c, htp10d⟩ := tp_bd (a1 := (uA i)) (a2 := (uW i)) (i64 (by omega) (by omega)) (i64 (by omega) (by omega))
  obtain ⟨Aq13, cq14, rfl, rfl⟩ := Rw9
  refine q_seg (S := (fun x_ => St w x_ [Res.row (Value.slice Aq13 (List.length (tpC a0L e (uA i) (uW i))) cq14) 3 1 (List.length (tpC a0L e (uA i) (uW i))) ((tpC a0L e (uA i) (uW i)).map (Value.int .i64)), Res.box blk4 [Value.int .i64 e, Value.int .i64 (uA i), Value.int .i64 (uW i)] 25, Res.box blk2 [Value.slice a0A a0n a0c] 32])) [(26, Value.slice Aq13 (List.length (tpC a0L e (uA i) (uW i))) cq14), (25, Value.agg #[Value.int .i64 e, Value.int .i64 (tpA (uA i) (uW i)), Value.int .i64 (tpW (uW i))]), (21, Value.tuple #[Value.agg #[Value.int .i64 e, Value.int .i64 (tpA (uA i) (uW i)), Value.int .i64 (tpW (uW i))], Value.slice Aq13 (List.length (tpC a0L e (uA i) (uW i))) cq14])] [.no, .no, .no] True (by kernel_rfl) trivial hS9 ?_
  refine l_op rfl rfl (fun K hK => op_alloc (d := some 9) rfl rfl [Value.int .i64 0, Value.int .i64 0, Value.int .i64 0] (by kernel_rfl) hS9 (fun blk16 w15 hS15 => hK _ _ ?_))
  clear hK K
  refine l_op rfl rfl (fun K hK => op_store (d := none) rfl rfl (i := 0) (b := blk16) (off := 0) (cs := [Value.int .i64 0, Value.int .i64 0, Value.int .i64 0]) (bt := 25) (by kernel_rfl) (by kernel_rfl) [Value.int .i64 e, Value.int .i64 (tpA (uA i) (uW i)), Value.int .i64 (tpW (uW i))] (by kernel_rfl) (by kernel_rfl) (Nat.le_of_ble_eq_true (by kernel_rfl)) (by kernel_rfl) [Res.box blk16 [Value.int .i64 e, Value.int .i64 (tpA (uA i) (uW i)), Value.int .i64 (tpW (uW i))] 25, Res.row (Value.slice Aq13 (List.length (tpC a0L e (uA i) (uW i))) cq14) 3 1 (List.length (tpC a0L e (uA i) (uW i))) ((tpC a0L e (uA i) (uW i)).map (Value.int .i64)), Res.box blk4 [Value.int .i64 e, Value.int .i64 (uA i), Value.int .i64 (uW i)] 25, Res.box blk2 [Value.slice a0A a0n a0c] 32] (by kernel_rfl) hS15 (fun w17 hS17 => hK _ _ ?_))
  clear hK K
  refine q_seg (S := (fun x_ => St w x_ [Res.box blk16 [Value.int .i64 e, Value.int .i64 (tpA (uA i) (uW i)), Value.int .i64 (tpW (uW i))] 25, Res.row (Value.slice Aq13 (List.length (tpC a0L e (uA i) (uW i))) cq14) 3 1 (List.length (tpC a0L e (uA i) (uW i))) ((tpC a0L e (uA i) (uW i)).map (Value.int .i64)), Res.box blk4 [Value.int .i64 e, Value.int .i64 (uA i), Value.int .i64 (uW i)] 25, Res.box blk2 [Value.slice a0A a0n a0c] 32])) [(10, Value.slice Aq13 (List.length (tpC a0L e (uA i) (uW i))) cq14)] [.no] True (by kernel_rfl) trivial hS17 ?_
  refine l_nil rfl ?_
  refine then_n ?_
  refine wp_seq ?_
  refine wp_seq ?_
  refine c_reg ?_
  refine q_seg (S := (fun x_ => St w x_ [Res.box blk16 [Value.int .i64 e, Value.int .i64 (tpA (uA i) (uW i)), Value.int .i64 (tpW (uW i))] 25, Res.row (Value.slice Aq13 (List.length (tpC a0L e (uA i) (uW i))) cq14) 3 1 (List.length (tpC a0L e (uA i) (uW i))) ((tpC a0L e (uA i) (uW i)).map (Value.int .i64)), Res.box blk4 [Value.int .i64 e, Value.int .i64 (uA i), Value.int .i64 (uW i)] 25, Res.box blk2 [Value.slice a0A a0n a0c] 32])) [(28, Value.int .i64 c), (27, Value.slice Aq13 (List.length (tpC a0L e (uA i) (uW i))) cq14)] [.no, .no] True (by kernel_rfl) trivial hS17 ?_
  refine l_op rfl rfl (fun K hK => op_callv (d := some 29) rfl rfl ⟨_, Try.func44, by kernel_rfl, by kernel_rfl⟩ (vs := [Value.slice Aq13 (List.length (tpC a0L e (uA i) (uW i))) cq14, Value.int .i64 c]) (by kernel_rfl) (v := Value.bool (decide (c ∈ (tpC a0L e (uA i) (uW i))))) (l10Has_c Aq13 (List.length (tpC a0L e (uA i) (uW i))) cq14 (tpC a0L e (uA i) (uW i)) c w17 (by omega) (hS17.rd (List.mem_of_getElem? (i := 1) rfl)).u1) hS17 (fun w18 hS18 => hK _ _ ?_))
  clear hK K
  refine l_nil rfl ?_
  refine then_n ?_
  rcases Bool.eq_false_or_eq_true (decide (c ∈ (tpC a0L e (uA i) (uW i)))) with hb19 | hb19
  · skip
    have hb19p := of_decide_eq_true hb19
    refine c_true (b := (decide (c ∈ (tpC a0L e (uA i) (uW i))))) (by kernel_rfl) hb19 ?_
    refine wp_seq ?_
    refine c_reg ?_
    refine q_seg (S := (fun x_ => St w x_ [Res.box blk16 [Value.int .i64 e, Value.int .i64 (tpA (uA i) (uW i)), Value.int .i64 (tpW (uW i))] 25, Res.row (Value.slice Aq13 (List.length (tpC a0L e (uA i) (uW i))) cq14) 3 1 (List.length (tpC a0L e (uA i) (uW i))) ((tpC a0L e (uA i) (uW i)).map (Value.int .i64)), Res.box blk4 [Value.int .i64 e, Value.int .i64 (uA i), Value.int .i64 (uW i)] 25, Res.box blk2 [Value.slice a0A a0n a0c] 32])) [(6, Value.int .i64 (((i : Nat) : Int) + 1)), (30, Value.int .i64 (((i : Nat) : Int) + 1))] [.no, .no] True (by kernel_rfl) trivial hS18 ?_
    refine l_nil rfl ?_
    refine then_n ?_
    refine wp_ret ?_
    refine then_r ?_
    refine blk_r ?_
    refine then_r ?_
    refine then_r ?_
    refine blk_r ?_
    refine then_r ?_
    exact c_end (S := (fun x_ => St w x_ [Res.box blk16 [Value.int .i64 e, Value.int .i64 (tpA (uA i) (uW i)), Value.int .i64 (tpW (uW i))] 25, Res.row (Value.slice Aq13 (List.length (tpC a0L e (uA i) (uW i))) cq14) 3 1 (List.length (tpC a0L e (uA i) (uW i))) ((tpC a0L e (uA i) (uW i)).map (Value.int .i64)), Res.box blk4 [Value.int .i64 e, Value.int .i64 (uA i), Value.int .i64 (uW i)] 25, Res.box blk2 [Value.slice a0A a0n a0c] 32])) (rs := [.tmp 6]) rfl [] (v := Value.int .i64 (((i : Nat) : Int) + 1)) (C := True) (by kernel_rfl) trivial hS18 ((hS18.rv (congrArg (Value.int .i64) (tup_hit hI hi hno hb19p))))
  · skip
    have hb19p := of_decide_eq_false hb19
    refine c_false (b := (decide (c ∈ (tpC a0L e (uA i) (uW i))))) (by kernel_rfl) hb19 ?_
    refine wp_skip ?_
    refine then_n ?_
    refine c_reg ?_
    refine q_seg (S := (fun x_ => St w x_ [Res.box blk16 [Value.int .i64 e, Value.int .i64 (tpA (uA i) (uW i)), Value.int .i64 (tpW (uW i))] 25, Res.row (Value.slice Aq13 (List.length (tpC a0L e (uA i) (uW i))) cq14) 3 1 (List.length (tpC a0L e (uA i) (uW i))) ((tpC a0L e (uA i) (uW i)).map (Value.int .i64)), Res.box blk4 [Value.int .i64 e, Value.int .i64 (uA i), Value.int .i64 (uW i)] 25, Res.box blk2 [Value.slice a0A a0n a0c] 32])) [(31, Value.agg #[Value.int .i64 e, Value.int .i64 (tpA (uA i) (uW i)), Value.int .i64 (tpW (uW i))])] [.v (Value.agg #[Value.int .i64 e, Value.int .i64 (tpA (uA i) (uW i)), Value.int .i64 (tpW (uW i))])] ((LoadsAt Try.prog (fun x_ => St w x_ [Res.box blk16 [Value.int .i64 e, Value.int .i64 (tpA (uA i) (uW i)), Value.int .i64 (tpW (uW i))] 25, Res.row (Value.slice Aq13 (List.length (tpC a0L e (uA i) (uW i))) cq14) 3 1 (List.length (tpC a0L e (uA i) (uW i))) ((tpC a0L e (uA i) (uW i)).map (Value.int .i64)), Res.box blk4 [Value.int .i64 e, Value.int .i64 (uA i), Value.int .i64 (uW i)] 25, Res.box blk2 [Value.slice a0A a0n a0c] 32]) 25 ⟨blk16, 0, none⟩ (Value.agg #[Value.int .i64 e, Value.int .i64 (tpA (uA i) (uW i)), Value.int .i64 (tpW (uW i))]))) (by kernel_rfl) (ld_boxN (i := 0) (k := 3) rfl rfl rfl (by kernel_rfl)) hS18 ?_
    refine l_op rfl rfl (fun K hK => op_store (d := none) rfl rfl (i := 2) (b := blk4) (off := 0) (cs := [Value.int .i64 e, Value.int .i64 (uA i), Value.int .i64 (uW i)]) (bt := 25) (by kernel_rfl) (by kernel_rfl) [Value.int .i64 e, Value.int .i64 (tpA (uA i) (uW i)), Value.int .i64 (tpW (uW i))] (by kernel_rfl) (by kernel_rfl) (Nat.le_of_ble_eq_true (by kernel_rfl)) (by kernel_rfl) [Res.box blk16 [Value.int .i64 e, Value.int .i64 (tpA (uA i) (uW i)), Value.int .i64 (tpW (uW i))] 25, Res.row (Value.slice Aq13 (List.length (tpC a0L e (uA i) (uW i))) cq14) 3 1 (List.length (tpC a0L e (uA i) (uW i))) ((tpC a0L e (uA i) (uW i)).map (Value.int .i64)), Res.box blk4 [Value.int .i64 e, Value.int .i64 (tpA (uA i) (uW i)), Value.int .i64 (tpW (uW i))] 25, Res.box blk2 [Value.slice a0A a0n a0c] 32] (by kernel_rfl) hS18 (fun w20 hS20 => hK _ _ ?_))
    clear hK K
    refine l_nil rfl ?_
    refine blk_n ?_
    refine then_n ?_
    refine c_reg ?_
    refine q_seg (S := (fun x_ => St w x_ [Res.box blk16 [Value.int .i64 e, Value.int .i64 (tpA (uA i) (uW i)), Value.int .i64 (tpW (uW i))] 25, Res.row (Value.slice Aq13 (List.length (tpC a0L e (uA i) (uW i))) cq14) 3 1 (List.length (tpC a0L e (uA i) (uW i))) ((tpC a0L e (uA i) (uW i)).map (Value.int .i64)), Res.box blk4 [Value.int .i64 e, Value.int .i64 (tpA (uA i) (uW i)), Value.int .i64 (tpW (uW i))] 25, Res.box blk2 [Value.slice a0A a0n a0c] 32])) [(8, Value.int .i64 ((((i : Nat) : Int) + 1) + (1 : Int))), (20, Value.int .i64 ((((i : Nat) : Int) + 1) + (1 : Int))), (19, Value.int .i64 (((i : Nat) : Int) + 1))] [.no, .no, .no] ((InK .i64 ((((i : Nat) : Int) + 1) + (1 : Int)))) (by kernel_rfl) (in64 (by omega) (by omega)) hS20 ?_
    refine l_nil rfl ?_
    refine then_n ?_
    have hS20s1 : St w w20 [Res.box blk4 [Value.int .i64 e, Value.int .i64 (tpA (uA i) (uW i)), Value.int .i64 (tpW (uW i))] 25, Res.box blk2 [Value.slice a0A a0n a0c] 32] := (hS20.sub (List.Sublist.cons _ (List.Sublist.cons _ (List.Sublist.cons_cons _ (List.Sublist.cons_cons _ List.Sublist.slnil)))))
    have hmiss : c ∉ (tpC a0L e (uA i) (uW i)) := hb19p
    obtain ⟨hi4, hno2⟩ := tup_miss (n := a0n) hI a0l hi hno hmiss
    obtain ⟨hu1, hu2⟩ := u_next hi4
    refine round_end (i + 1) ?_ ?_ ?_
    · exact (agree_cons (by kernel_rfl) (agree_cons (by kernel_rfl) (agree_cons (by kernel_rfl) (agree_cons (by kernel_rfl) agree_nil))))
    · exact ⟨(by omega), hno2, (hS20s1.eqv (by rw [hu1, hu2]))⟩
    · exact (by first | omega | (dsimp only; omega))
theorem TicksUntilPaged_s_out (a0A : Option Addr) (a0n a0c : Nat) (a0L : List (Int × List Int)) (e c : Int) (w : World) (a0h : RdL .i64 true w w.heap.size a0A a0n a0L) (a0w : wt a0L ≤ 1099511627776) (he : I64 e) (hI : inR c 0 (((a0n : Nat) : Int) - 1) = false) : Calls Try.prog 29 #[Value.agg #[Value.slice a0A a0n a0c], .int .i64 e, .int .i64 c] w (RetV w (.int .i64 (tup a0n a0L e c))) := by
  have a0l := a0h.len
  have a0v := wt_len a0L
  obtain ⟨he1, he2⟩ := he
  refine calls_FA Try.func29 rfl (n := 32) rfl (l := [(0, Value.agg #[Value.slice a0A a0n a0c]), (1, Value.int .i64 e), (2, Value.int .i64 c)]) rfl (by simp) (fun g => ?_)
  have hS := St.init w
  refine wp_seq ?_
  refine c_reg ?_
  refine l_op rfl rfl (fun K hK => op_box (d := some 3) rfl rfl [Value.slice a0A a0n a0c] (by kernel_rfl) hS (fun blk2 w1 hS1 => hK _ _ ?_))
  clear hK K
  refine q_seg (S := (fun x_ => St w x_ [Res.box blk2 [Value.slice a0A a0n a0c] 32])) [(6, Value.int .i64 0)] [.no] True (by kernel_rfl) trivial hS1 ?_
  refine l_nil rfl ?_
  refine then_n ?_
  refine wp_seq ?_
  refine c_reg ?_
  refine q_seg (S := (fun x_ => St w x_ [Res.box blk2 [Value.slice a0A a0n a0c] 32])) [(12, Value.agg #[Value.int .i64 e, Value.int .i64 0, Value.int .i64 0]), (11, Value.int .i64 e)] [.no, .no] True (by kernel_rfl) trivial hS1 ?_
  refine l_op rfl rfl (fun K hK => op_alloc (d := some 7) rfl rfl [Value.int .i64 0, Value.int .i64 0, Value.int .i64 0] (by kernel_rfl) hS1 (fun blk4 w3 hS3 => hK _ _ ?_))
  clear hK K
  refine l_op rfl rfl (fun K hK => op_store (d := none) rfl rfl (i := 0) (b := blk4) (off := 0) (cs := [Value.int .i64 0, Value.int .i64 0, Value.int .i64 0]) (bt := 25) (by kernel_rfl) (by kernel_rfl) [Value.int .i64 e, Value.int .i64 0, Value.int .i64 0] (by kernel_rfl) (by kernel_rfl) (Nat.le_of_ble_eq_true (by kernel_rfl)) (by kernel_rfl) [Res.box blk4 [Value.int .i64 e, Value.int .i64 0, Value.int .i64 0] 25, Res.box blk2 [Value.slice a0A a0n a0c] 32] (by kernel_rfl) hS3 (fun w5 hS5 => hK _ _ ?_))
  clear hK K
  refine l_nil rfl ?_
  refine then_n ?_
  refine wp_seq ?_
  refine wp_seq ?_
  refine c_reg ?_
  refine q_seg (S := (fun x_ => St w x_ [Res.box blk4 [Value.int .i64 e, Value.int .i64 0, Value.int .i64 0] 25, Res.box blk2 [Value.slice a0A a0n a0c] 32])) [(8, Value.int .i64 1)] [.no] True (by kernel_rfl) trivial hS5 ?_
  refine l_nil rfl ?_
  refine then_n ?_
  refine wp_block ?_
  refine c_loop (X := Nat) (fun (i : Nat) => [(2, Value.int .i64 c), (3, Value.pointer (some ⟨blk2, 0, none⟩)), (7, Value.pointer (some ⟨blk4, 0, none⟩)), (8, Value.int .i64 (((i : Nat) : Int) + 1))]) (fun (i : Nat) (wr : World) => (i ≤ 4) ∧ (i = 0 ∨ c ∉ pcells a0L e 1) ∧ St w wr [Res.box blk4 [Value.int .i64 e, Value.int .i64 (uA i), Value.int .i64 (uW i)] 25, Res.box blk2 [Value.slice a0A a0n a0c] 32]) (fun (i : Nat) => 4 - i) 0 ?_ ?_ ?_
  · exact (agree_cons (by kernel_rfl) (agree_cons (by kernel_rfl) (agree_cons (by kernel_rfl) (agree_cons (by kernel_rfl) agree_nil))))
  · exact ⟨(by omega), (.inl rfl), (hS5.eqv (by simp [uA, uW]))⟩
  rintro i g7 w6 ⟨hi, hno, hS6⟩
  obtain ⟨hub1, hub2, hub3, hub4⟩ := u_bd hi
  have htl := tpC_len a0L e (uA i) (uW i)
  refine wp_seq ?_
  refine wp_seq ?_
  refine c_reg ?_
  refine q_seg (S := (fun x_ => St w x_ [Res.box blk4 [Value.int .i64 e, Value.int .i64 (uA i), Value.int .i64 (uW i)] 25, Res.box blk2 [Value.slice a0A a0n a0c] 32])) [(17, Value.int .i64 (((a0n : Nat) : Int) - (1 : Int))), (16, Value.int .i64 ((a0n : Nat) : Int)), (15, Value.slice a0A a0n a0c), (14, Value.pointer (some ⟨blk2, 0 + 0, none⟩)), (13, Value.int .i64 c)] [.no, .no, .v (Value.slice a0A a0n a0c), .no, .no] ((LoadsAt Try.prog (fun x_ => St w x_ [Res.box blk4 [Value.int .i64 e, Value.int .i64 (uA i), Value.int .i64 (uW i)] 25, Res.box blk2 [Value.slice a0A a0n a0c] 32]) 30 ⟨blk2, 0 + 0, none⟩ (Value.slice a0A a0n a0c)) ∧ (InK .i64 (((a0n : Nat) : Int) - (1 : Int)))) (by kernel_rfl) ⟨(ld_box (i := 1) rfl rfl (by kernel_rfl)), (in64 (by omega) (by omega))⟩ hS6 ?_
  refine l_op rfl rfl (fun K hK => op_callv (d := some 18) rfl rfl ⟨_, Try.func32, by kernel_rfl, by kernel_rfl⟩ (vs := [Value.int .i64 c, Value.int .i64 0, Value.int .i64 (((a0n : Nat) : Int) - (1 : Int))]) (by kernel_rfl) (v := Value.bool (inR c 0 (((a0n : Nat) : Int) - (1 : Int)))) (l1In_c c 0 (((a0n : Nat) : Int) - (1 : Int)) _) hS6 (fun w8 hS8 => hK _ _ ?_))
  clear hK K
  refine l_nil rfl ?_
  refine then_n ?_
  refine c_false (b := (inR c 0 (((a0n : Nat) : Int) - (1 : Int)))) (by kernel_rfl) hI ?_
  refine wp_exit ?_
  refine then_x ?_
  refine then_x ?_
  refine blk_hit ?_
  refine then_n ?_
  refine wp_seq ?_
  refine c_reg ?_
  refine q_seg (S := (fun x_ => St w x_ [Res.box blk4 [Value.int .i64 e, Value.int .i64 (uA i), Value.int .i64 (uW i)] 25, Res.box blk2 [Value.slice a0A a0n a0c] 32])) [(6, Value.int .i64 0)] [.no] True (by kernel_rfl) trivial hS8 ?_
  refine l_nil rfl ?_
  refine then_n ?_
  refine wp_ret ?_
  exact c_end (S := (fun x_ => St w x_ [Res.box blk4 [Value.int .i64 e, Value.int .i64 (uA i), Value.int .i64 (uW i)] 25, Res.box blk2 [Value.slice a0A a0n a0c] 32])) (rs := [.tmp 6]) rfl [] (v := Value.int .i64 0) (C := True) (by kernel_rfl) trivial hS8 ((hS8.rv (congrArg (Value.int .i64) (tup_no hI))))
theorem TicksUntilPaged_s_c (a0A : Option Addr) (a0n a0c : Nat) (a0L : List (Int × List Int)) (e c : Int) (w : World) (a0h : RdL .i64 true w w.heap.size a0A a0n a0L) (a0w : wt a0L ≤ 1099511627776) (he : I64 e) : Calls Try.prog 29 #[Value.agg #[Value.slice a0A a0n a0c], .int .i64 e, .int .i64 c] w (RetV w (.int .i64 (tup a0n a0L e c))) := by
  rcases Bool.eq_false_or_eq_true (inR c 0 (((a0n : Nat) : Int) - 1)) with h | h
  · exact TicksUntilPaged_s_in a0A a0n a0c a0L e c w a0h a0w he h
  · exact TicksUntilPaged_s_out a0A a0n a0c a0L e c w a0h a0w he h
end Go.Proofs.Ytkcedoehehjceaa
