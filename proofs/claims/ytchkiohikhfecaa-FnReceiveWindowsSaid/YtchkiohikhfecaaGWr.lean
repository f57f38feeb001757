/-
  Contracts of IsValidReceiver.
-/
import Derived.Test.YtchkiohikhfecaaGWi
import Derived.Test.YtchkiohikhfecaaWin
namespace Go.Proofs.Ytchkiohikhfecaa
open Go.RowKit
set_option maxRecDepth 100000

theorem fitPayload_c (A : Option Addr) (n c : Nat) (L : List (Int × List Int)) (w : World) (hs : wt L ≤ 1099511627776) (hr : RdL .u8 false w w.heap.size A n L) : Calls Try.prog 78 #[.slice A n c] w (RetV w (.bool (allK (okB L) n))) := by
  obtain ⟨hok, ys, hr, rfl⟩ := hr
  have hwl := wt_len (ys.map (con false))
  have hln := hr.len
  rw [List.length_map] at hwl
  refine calls_FA Try.func78 rfl (n := 16) rfl (l := [(0, Value.slice A n c)]) rfl (by simp) (fun g => ?_)
  have hS := St.init w
  refine wp_seq ?_
  refine c_reg ?_
  refine q_seg (S := (fun x_ => St w x_ [])) [(2, Value.bool false)] [.no] True (by kernel_rfl) trivial hS ?_
  refine l_nil rfl ?_
  refine then_n ?_
  refine wp_seq ?_
  refine wp_seq ?_
  refine c_reg ?_
  refine q_seg (S := (fun x_ => St w x_ [])) [(7, Value.int .i64 0), (6, Value.int .i64 ((n : Nat) : Int)), (5, Value.slice A n c)] [.no, .no, .no] True (by kernel_rfl) trivial hS ?_
  refine l_nil rfl ?_
  refine then_n ?_
  refine wp_block ?_
  refine c_loop (X := Nat) (fun (k : Nat) => [(5, Value.slice A n c), (6, Value.int .i64 ((n : Nat) : Int)), (7, Value.int .i64 ((k : Nat) : Int))]) (fun (k : Nat) (wr : World) => (k ≤ n) ∧ (allK (okB (ys.map (con false))) k = true) ∧ St w wr []) (fun (k : Nat) => n - k) 0 ?_ ?_ ?_
  · exact (agree_cons (by kernel_rfl) (agree_cons (by kernel_rfl) (agree_cons (by kernel_rfl) agree_nil)))
  · exact ⟨Nat.zero_le _, rfl, hS⟩
  rintro k g2 w1 ⟨hkn, htk, hS1⟩
  refine wp_seq ?_
  refine c_reg ?_
  refine q_seg (S := (fun x_ => St w x_ [])) [(8, Value.bool (decide (((k : Nat) : Int) < ((n : Nat) : Int))))] [.no] True (by kernel_rfl) trivial hS1 ?_
  refine l_nil rfl ?_
  refine then_n ?_
  refine wp_seq ?_
  rcases Bool.eq_false_or_eq_true (decide (((k : Nat) : Int) < ((n : Nat) : Int))) with hb3 | hb3
  · skip
    have hb3p := of_decide_eq_true hb3
    obtain ⟨b, off, rfl, hbB, hcl⟩ := hr.at (k := k) (by omega)
    obtain ⟨y, hyk, hym⟩ := get_of_lt (l := ys) (k := k) (by have := hr.len; omega)
    obtain ⟨hy1, hy2, hy3⟩ := hr.el y hym
    obtain ⟨hyi, hyz⟩ := hok _ (List.mem_map_of_mem (f := (con false)) hym)
    have hyl : y.zs.length + 1 ≤ wt (ys.map (con false)) := wt_mem (List.mem_map_of_mem (f := (con false)) hym)
    unfold maxLen at hy3
    refine c_true (b := (decide (((k : Nat) : Int) < ((n : Nat) : Int)))) (by kernel_rfl) hb3 ?_
    refine wp_skip ?_
    refine then_n ?_
    refine wp_seq ?_
    refine wp_block ?_
    refine wp_seq ?_
    refine c_reg ?_
    refine q_seg (S := (fun x_ => St w x_ [])) [(10, Value.agg #[Value.slice y.A y.zs.length y.c]), (9, Value.pointer (some ⟨b, off + Int.toNat ((k : Nat) : Int) * 1, none⟩))] [.no, .v (Value.agg #[Value.slice y.A y.zs.length y.c])] (((0 : Int) ≤ ((k : Nat) : Int)) ∧ (((k : Nat) : Int) < ((n : Nat) : Int)) ∧ (LoadsAt Try.prog (fun x_ => St w x_ []) 49 ⟨b, off + Int.toNat ((k : Nat) : Int) * 1, none⟩ (Value.agg #[Value.slice y.A y.zs.length y.c]))) (by kernel_rfl) ⟨(by omega), (by omega), (ld_lowN (k := 1) (vs := [Value.slice y.A y.zs.length y.c]) (by kernel_rfl) rfl (flat_cells (p := false) hcl hyk))⟩ hS1 ?_
    refine l_op rfl rfl (fun K hK => op_alloc (d := some 4) rfl rfl [Value.slice none 0 0] (by kernel_rfl) hS1 (fun blk5 w4 hS4 => hK _ _ ?_))
    clear hK K
    refine l_op rfl rfl (fun K hK => op_store (d := none) rfl rfl (i := 0) (b := blk5) (off := 0) (cs := [Value.slice none 0 0]) (bt := 49) (by kernel_rfl) (by kernel_rfl) [Value.slice y.A y.zs.length y.c] (by kernel_rfl) (by kernel_rfl) (Nat.le_of_ble_eq_true (by kernel_rfl)) (by kernel_rfl) [Res.box blk5 [Value.slice y.A y.zs.length y.c] 49] (by kernel_rfl) hS4 (fun w6 hS6 => hK _ _ ?_))
    clear hK K
    refine l_nil rfl ?_
    refine then_n ?_
    refine wp_seq ?_
    refine c_reg ?_
    refine q_seg (S := (fun x_ => St w x_ [Res.box blk5 [Value.slice y.A y.zs.length y.c] 49])) [(14, Value.bool (decide ((60 : Int) < ((y.zs.length : Nat) : Int)))), (13, Value.int .i64 ((y.zs.length : Nat) : Int)), (12, Value.slice y.A y.zs.length y.c), (11, Value.pointer (some ⟨blk5, 0 + 0, none⟩))] [.no, .v (Value.slice y.A y.zs.length y.c), .no, .no] ((LoadsAt Try.prog (fun x_ => St w x_ [Res.box blk5 [Value.slice y.A y.zs.length y.c] 49]) 26 ⟨blk5, 0 + 0, none⟩ (Value.slice y.A y.zs.length y.c))) (by kernel_rfl) (ld_box (i := 0) rfl rfl (by kernel_rfl)) hS6 ?_
    refine l_nil rfl ?_
    refine then_n ?_
    rcases Bool.eq_false_or_eq_true (decide ((60 : Int) < ((y.zs.length : Nat) : Int))) with hb7 | hb7
    · skip
      have hb7p := of_decide_eq_true hb7
      refine c_true (b := (decide ((60 : Int) < ((y.zs.length : Nat) : Int)))) (by kernel_rfl) hb7 ?_
      refine wp_seq ?_
      refine c_reg ?_
      refine q_seg (S := (fun x_ => St w x_ [Res.box blk5 [Value.slice y.A y.zs.length y.c] 49])) [(2, Value.bool false)] [.no] True (by kernel_rfl) trivial hS6 ?_
      refine l_nil rfl ?_
      refine then_n ?_
      refine wp_ret ?_
      refine blk_r ?_
      refine then_r ?_
      refine then_r ?_
      refine blk_r ?_
      refine then_r ?_
      exact c_end (S := (fun x_ => St w x_ [Res.box blk5 [Value.slice y.A y.zs.length y.c] 49])) (rs := [.tmp 2]) rfl [] (v := Value.bool false) (C := True) (by kernel_rfl) trivial hS6 ((hS6.rv (congrArg Value.bool (allK_bad (k := k) (by omega) (okB_f (con_get (p := false) hyk) (by show 60 < y.zs.length; omega))).symm)))
    · skip
      have hb7p := of_decide_eq_false hb7
      refine c_false (b := (decide ((60 : Int) < ((y.zs.length : Nat) : Int)))) (by kernel_rfl) hb7 ?_
      refine wp_skip ?_
      refine blk_n ?_
      refine then_n ?_
      refine c_reg ?_
      refine q_seg (S := (fun x_ => St w x_ [Res.box blk5 [Value.slice y.A y.zs.length y.c] 49])) [(7, Value.int .i64 (((k : Nat) : Int) + (1 : Int))), (15, Value.int .i64 (((k : Nat) : Int) + (1 : Int)))] [.no, .no] ((InK .i64 (((k : Nat) : Int) + (1 : Int)))) (by kernel_rfl) (in64 (by omega) (by omega)) hS6 ?_
      refine l_nil rfl ?_
      refine then_n ?_
      refine round_end (k + 1) ?_ ?_ ?_
      · exact (agree_cons (by kernel_rfl) (agree_cons (by kernel_rfl) (agree_cons (by kernel_rfl) agree_nil)))
      · exact ⟨(by omega), (allK_step htk (okB_t (con_get (p := false) hyk) (by show y.zs.length ≤ 60; omega))), hS6.drop⟩
      · exact (by first | omega | (dsimp only; omega))
  · skip
    have hb3p := of_decide_eq_false hb3
    refine c_false (b := (decide (((k : Nat) : Int) < ((n : Nat) : Int)))) (by kernel_rfl) hb3 ?_
    refine wp_exit ?_
    refine then_x ?_
    refine then_x ?_
    refine blk_hit ?_
    refine then_n ?_
    refine wp_seq ?_
    refine c_reg ?_
    refine q_seg (S := (fun x_ => St w x_ [])) [(2, Value.bool true)] [.no] True (by kernel_rfl) trivial hS1 ?_
    refine l_nil rfl ?_
    refine then_n ?_
    refine wp_ret ?_
    exact c_end (S := (fun x_ => St w x_ [])) (rs := [.tmp 2]) rfl [] (v := Value.bool true) (C := True) (by kernel_rfl) trivial hS1 ((hS1.rv (congrArg Value.bool (show allK (okB (ys.map (con false))) n = true by rw [show k = n by omega] at htk; exact htk).symm)))
theorem IsValidReceiver_i_c (a0 : Int) (a1A : Option Addr) (a1n a1c : Nat) (a1L : List (Int × List Int)) (a2A : Option Addr) (a2n a2c : Nat) (a2L : List (Int × List Int)) (w : World) (a0h : I64 a0) (a1h : RdL .u8 true w w.heap.size a1A a1n a1L) (a1w : wt a1L ≤ 1099511627776) (a2h : RdL .u8 false w w.heap.size a2A a2n a2L) (a2w : wt a2L ≤ 1099511627776)  : Calls Try.prog 27 #[Value.agg #[Value.int .i64 a0, Value.slice a1A a1n a1c, Value.slice a2A a2n a2c]] w (RetV w (.bool (vrecv a0 a1L a2L))) := by
  obtain ⟨a0h1, a0h2⟩ := a0h
  have hm0 := a2h
  obtain ⟨hok, ys, hr, rfl⟩ := a1h
  have hwl := wt_len (ys.map (con true))
  have hln := hr.len
  rw [List.length_map] at hwl
  obtain ⟨hok2, zs, hr2, rfl⟩ := a2h
  have hwl2 := wt_len (zs.map (con false))
  have hln2 := hr2.len
  rw [List.length_map] at hwl2
  refine calls_FA Try.func27 rfl (n := 70) rfl (l := [(0, Value.agg #[Value.int .i64 a0, Value.slice a1A a1n a1c, Value.slice a2A a2n a2c])]) rfl (by simp) (fun g => ?_)
  have hS := St.init w
  refine wp_seq ?_
  refine c_reg ?_
  refine l_op rfl rfl (fun K hK => op_box (d := some 1) rfl rfl [Value.int .i64 a0, Value.slice a1A a1n a1c, Value.slice a2A a2n a2c] (by kernel_rfl) hS (fun blk2 w1 hS1 => hK _ _ ?_))
  clear hK K
  refine q_seg (S := (fun x_ => St w x_ [Res.box blk2 [Value.int .i64 a0, Value.slice a1A a1n a1c, Value.slice a2A a2n a2c] 34])) [(2, Value.bool false)] [.no] True (by kernel_rfl) trivial hS1 ?_
  refine l_nil rfl ?_
  refine then_n ?_
  refine wp_seq ?_
  refine wp_seq ?_
  refine c_reg ?_
  refine q_seg (S := (fun x_ => St w x_ [Res.box blk2 [Value.int .i64 a0, Value.slice a1A a1n a1c, Value.slice a2A a2n a2c] 34])) [(12, Value.bool (!(decide (a0 = (((a2n : Nat) : Int) + (1 : Int)))))), (11, Value.bool (!(decide (a0 = (((a2n : Nat) : Int) + (1 : Int)))))), (10, Value.int .i64 (((a2n : Nat) : Int) + (1 : Int))), (9, Value.int .i64 ((a2n : Nat) : Int)), (8, Value.slice a2A a2n a2c), (7, Value.pointer (some ⟨blk2, 0 + 2, none⟩)), (6, Value.int .i64 a0), (5, Value.pointer (some ⟨blk2, 0 + 0, none⟩))] [.no, .v (Value.int .i64 a0), .no, .v (Value.slice a2A a2n a2c), .no, .no, .no, .no] ((LoadsAt Try.prog (fun x_ => St w x_ [Res.box blk2 [Value.int .i64 a0, Value.slice a1A a1n a1c, Value.slice a2A a2n a2c] 34]) 3 ⟨blk2, 0 + 0, none⟩ (Value.int .i64 a0)) ∧ (LoadsAt Try.prog (fun x_ => St w x_ [Res.box blk2 [Value.int .i64 a0, Value.slice a1A a1n a1c, Value.slice a2A a2n a2c] 34]) 32 ⟨blk2, 0 + 2, none⟩ (Value.slice a2A a2n a2c)) ∧ (InK .i64 (((a2n : Nat) : Int) + (1 : Int)))) (by kernel_rfl) ⟨(ld_box (i := 0) rfl rfl (by kernel_rfl)), (ld_box (i := 0) rfl rfl (by kernel_rfl)), (in64 (by omega) (by omega))⟩ hS1 ?_
  rcases Bool.eq_false_or_eq_true (decide (a0 = (((a2n : Nat) : Int) + (1 : Int)))) with hb3 | hb3
  · skip
    have hb3p := of_decide_eq_true hb3
    refine q_seg (S := (fun x_ => St w x_ [Res.box blk2 [Value.int .i64 a0, Value.slice a1A a1n a1c, Value.slice a2A a2n a2c] 34])) [(18, Value.bool (decide ((24 : Int) < ((a2n : Nat) : Int)))), (17, Value.bool (decide ((24 : Int) < ((a2n : Nat) : Int)))), (16, Value.bool (decide ((24 : Int) < ((a2n : Nat) : Int)))), (15, Value.int .i64 ((a2n : Nat) : Int)), (14, Value.slice a2A a2n a2c), (13, Value.pointer (some ⟨blk2, 0 + 2, none⟩))] [.no, .v (Value.slice a2A a2n a2c), .no, .no, .v (.bool false), .no] (((!(decide (a0 = (((a2n : Nat) : Int) + (1 : Int))))) = false) ∧ ((!(decide (a0 = (((a2n : Nat) : Int) + (1 : Int))))) = false) ∧ (LoadsAt Try.prog (fun x_ => St w x_ [Res.box blk2 [Value.int .i64 a0, Value.slice a1A a1n a1c, Value.slice a2A a2n a2c] 34]) 32 ⟨blk2, 0 + 2, none⟩ (Value.slice a2A a2n a2c)) ∧ ((!(decide (a0 = (((a2n : Nat) : Int) + (1 : Int))))) = false) ∧ ((!(decide (a0 = (((a2n : Nat) : Int) + (1 : Int))))) = false) ∧ ((!(decide (a0 = (((a2n : Nat) : Int) + (1 : Int))))) = false)) (by kernel_rfl) ⟨(nb (v := true) hb3), (nb (v := true) hb3), (ld_box (i := 0) rfl rfl (by kernel_rfl)), (nb (v := true) hb3), (nb (v := true) hb3), (nb (v := true) hb3)⟩ hS1 ?_
    rcases Bool.eq_false_or_eq_true (decide ((24 : Int) < ((a2n : Nat) : Int))) with hb4 | hb4
    · skip
      have hb4p := of_decide_eq_true hb4
      refine q_seg (S := (fun x_ => St w x_ [Res.box blk2 [Value.int .i64 a0, Value.slice a1A a1n a1c, Value.slice a2A a2n a2c] 34])) [(29, Value.bool true), (28, undef), (27, undef), (26, undef), (25, undef), (24, Value.bool true), (23, Value.bool true), (22, undef), (21, undef), (20, undef), (19, undef)] [.skip, .skip, .skip, .skip, .v (.bool true), .no, .skip, .skip, .skip, .skip, .v (.bool true)] (((decide ((24 : Int) < ((a2n : Nat) : Int))) = !false) ∧ ((decide ((24 : Int) < ((a2n : Nat) : Int))) = !false) ∧ ((decide ((24 : Int) < ((a2n : Nat) : Int))) = !false) ∧ ((decide ((24 : Int) < ((a2n : Nat) : Int))) = !false) ∧ ((decide ((24 : Int) < ((a2n : Nat) : Int))) = true) ∧ (true = !false) ∧ (true = !false) ∧ (true = !false) ∧ (true = !false) ∧ (true = true)) (by kernel_rfl) ⟨hb4, hb4, hb4, hb4, hb4, rfl, rfl, rfl, rfl, rfl⟩ hS1 ?_
      refine l_nil rfl ?_
      refine then_n ?_
      refine c_true (b := true) (by kernel_rfl) rfl ?_
      refine wp_seq ?_
      refine c_reg ?_
      refine q_seg (S := (fun x_ => St w x_ [Res.box blk2 [Value.int .i64 a0, Value.slice a1A a1n a1c, Value.slice a2A a2n a2c] 34])) [(2, Value.bool false)] [.no] True (by kernel_rfl) trivial hS1 ?_
      refine l_nil rfl ?_
      refine then_n ?_
      refine wp_ret ?_
      refine then_r ?_
      exact c_end (S := (fun x_ => St w x_ [Res.box blk2 [Value.int .i64 a0, Value.slice a1A a1n a1c, Value.slice a2A a2n a2c] 34])) (rs := [.tmp 2]) rfl [] (v := Value.bool false) (C := True) (by kernel_rfl) trivial hS1 ((hS1.rv (congrArg Value.bool (vr_f2 (m := a2n) (by rw [List.length_map]; exact hln2) (by omega)))))
    · skip
      have hb4p := of_decide_eq_false hb4
      refine q_seg (S := (fun x_ => St w x_ [Res.box blk2 [Value.int .i64 a0, Value.slice a1A a1n a1c, Value.slice a2A a2n a2c] 34])) [(20, Value.slice a2A a2n a2c), (19, Value.pointer (some ⟨blk2, 0 + 2, none⟩))] [.no, .v (Value.slice a2A a2n a2c)] (((decide ((24 : Int) < ((a2n : Nat) : Int))) = false) ∧ ((decide ((24 : Int) < ((a2n : Nat) : Int))) = false) ∧ (LoadsAt Try.prog (fun x_ => St w x_ [Res.box blk2 [Value.int .i64 a0, Value.slice a1A a1n a1c, Value.slice a2A a2n a2c] 34]) 32 ⟨blk2, 0 + 2, none⟩ (Value.slice a2A a2n a2c))) (by kernel_rfl) ⟨hb4, hb4, (ld_box (i := 0) rfl rfl (by kernel_rfl))⟩ hS1 ?_
      refine l_opg rfl (b := (decide ((24 : Int) < ((a2n : Nat) : Int)))) (want := false) (by kernel_rfl) hb4 (fun K hK => op_callv (d := some 21) rfl rfl ⟨_, Try.func78, by kernel_rfl, by kernel_rfl⟩ (vs := [Value.slice a2A a2n a2c]) (by kernel_rfl) (v := Value.bool (allK (okB (zs.map (con false))) a2n)) (fitPayload_c a2A a2n a2c (zs.map (con false)) w1 (by omega) (hS1.rdllow hm0)) hS1 (fun w5 hS5 => hK _ _ ?_))
      clear hK K
      refine q_seg (S := (fun x_ => St w x_ [Res.box blk2 [Value.int .i64 a0, Value.slice a1A a1n a1c, Value.slice a2A a2n a2c] 34])) [(24, Value.bool (!(allK (okB (zs.map (con false))) a2n))), (23, Value.bool (!(allK (okB (zs.map (con false))) a2n))), (22, Value.bool (!(allK (okB (zs.map (con false))) a2n)))] [.no, .v (.bool false), .no] (((decide ((24 : Int) < ((a2n : Nat) : Int))) = false) ∧ ((decide ((24 : Int) < ((a2n : Nat) : Int))) = false)) (by kernel_rfl) ⟨hb4, hb4⟩ hS5 ?_
      rcases Bool.eq_false_or_eq_true (allK (okB (zs.map (con false))) a2n) with hb6 | hb6
      · skip
        refine q_seg (S := (fun x_ => St w x_ [Res.box blk2 [Value.int .i64 a0, Value.slice a1A a1n a1c, Value.slice a2A a2n a2c] 34])) [(29, Value.bool (decide ((8 : Int) < ((a1n : Nat) : Int)))), (28, Value.bool (decide ((8 : Int) < ((a1n : Nat) : Int)))), (27, Value.int .i64 ((a1n : Nat) : Int)), (26, Value.slice a1A a1n a1c), (25, Value.pointer (some ⟨blk2, 0 + 1, none⟩))] [.no, .v (Value.slice a1A a1n a1c), .no, .no, .v (.bool false)] (((!(allK (okB (zs.map (con false))) a2n)) = false) ∧ ((!(allK (okB (zs.map (con false))) a2n)) = false) ∧ (LoadsAt Try.prog (fun x_ => St w x_ [Res.box blk2 [Value.int .i64 a0, Value.slice a1A a1n a1c, Value.slice a2A a2n a2c] 34]) 31 ⟨blk2, 0 + 1, none⟩ (Value.slice a1A a1n a1c)) ∧ ((!(allK (okB (zs.map (con false))) a2n)) = false) ∧ ((!(allK (okB (zs.map (con false))) a2n)) = false) ∧ ((!(allK (okB (zs.map (con false))) a2n)) = false)) (by kernel_rfl) ⟨(nb (v := true) hb6), (nb (v := true) hb6), (ld_box (i := 0) rfl rfl (by kernel_rfl)), (nb (v := true) hb6), (nb (v := true) hb6), (nb (v := true) hb6)⟩ hS5 ?_
        refine l_nil rfl ?_
        refine then_n ?_
        rcases Bool.eq_false_or_eq_true (decide ((8 : Int) < ((a1n : Nat) : Int))) with hb7 | hb7
        · skip
          have hb7p := of_decide_eq_true hb7
          refine c_true (b := (decide ((8 : Int) < ((a1n : Nat) : Int)))) (by kernel_rfl) hb7 ?_
          refine wp_seq ?_
          refine c_reg ?_
          refine q_seg (S := (fun x_ => St w x_ [Res.box blk2 [Value.int .i64 a0, Value.slice a1A a1n a1c, Value.slice a2A a2n a2c] 34])) [(2, Value.bool false)] [.no] True (by kernel_rfl) trivial hS5 ?_
          refine l_nil rfl ?_
          refine then_n ?_
          refine wp_ret ?_
          refine then_r ?_
          exact c_end (S := (fun x_ => St w x_ [Res.box blk2 [Value.int .i64 a0, Value.slice a1A a1n a1c, Value.slice a2A a2n a2c] 34])) (rs := [.tmp 2]) rfl [] (v := Value.bool false) (C := True) (by kernel_rfl) trivial hS5 ((hS5.rv (congrArg Value.bool (vr_f4 (n := a1n) (by rw [List.length_map]; exact hln) (by omega)))))
        · skip
          have hb7p := of_decide_eq_false hb7
          refine c_false (b := (decide ((8 : Int) < ((a1n : Nat) : Int)))) (by kernel_rfl) hb7 ?_
          refine wp_skip ?_
          refine then_n ?_
          refine wp_seq ?_
          refine wp_seq ?_
          refine c_reg ?_
          refine q_seg (S := (fun x_ => St w x_ [Res.box blk2 [Value.int .i64 a0, Value.slice a1A a1n a1c, Value.slice a2A a2n a2c] 34])) [(33, Value.int .i64 0), (32, Value.int .i64 ((a1n : Nat) : Int)), (31, Value.slice a1A a1n a1c), (30, Value.pointer (some ⟨blk2, 0 + 1, none⟩))] [.no, .v (Value.slice a1A a1n a1c), .no, .no] ((LoadsAt Try.prog (fun x_ => St w x_ [Res.box blk2 [Value.int .i64 a0, Value.slice a1A a1n a1c, Value.slice a2A a2n a2c] 34]) 31 ⟨blk2, 0 + 1, none⟩ (Value.slice a1A a1n a1c))) (by kernel_rfl) (ld_box (i := 0) rfl rfl (by kernel_rfl)) hS5 ?_
          refine l_nil rfl ?_
          refine then_n ?_
          refine wp_block ?_
          refine c_loop (X := Nat) (fun (k : Nat) => [(1, Value.pointer (some ⟨blk2, 0, none⟩)), (31, Value.slice a1A a1n a1c), (32, Value.int .i64 ((a1n : Nat) : Int)), (33, Value.int .i64 ((k : Nat) : Int))]) (fun (k : Nat) (wr : World) => (k ≤ a1n) ∧ (allK (okR a0 (ys.map (con true))) k = true) ∧ St w wr [Res.box blk2 [Value.int .i64 a0, Value.slice a1A a1n a1c, Value.slice a2A a2n a2c] 34]) (fun (k : Nat) => a1n - k) 0 ?_ ?_ ?_
          · exact (agree_cons (by kernel_rfl) (agree_cons (by kernel_rfl) (agree_cons (by kernel_rfl) (agree_cons (by kernel_rfl) agree_nil))))
          · exact ⟨Nat.zero_le _, rfl, hS5⟩
          rintro k g9 w8 ⟨hkn, htk, hS8⟩
          refine wp_seq ?_
          refine c_reg ?_
          refine q_seg (S := (fun x_ => St w x_ [Res.box blk2 [Value.int .i64 a0, Value.slice a1A a1n a1c, Value.slice a2A a2n a2c] 34])) [(34, Value.bool (decide (((k : Nat) : Int) < ((a1n : Nat) : Int))))] [.no] True (by kernel_rfl) trivial hS8 ?_
          refine l_nil rfl ?_
          refine then_n ?_
          refine wp_seq ?_
          rcases Bool.eq_false_or_eq_true (decide (((k : Nat) : Int) < ((a1n : Nat) : Int))) with hb10 | hb10
          · skip
            have hb10p := of_decide_eq_true hb10
            obtain ⟨b, off, rfl, hbB, hcl⟩ := hr.at (k := k) (by omega)
            obtain ⟨y, hyk, hym⟩ := get_of_lt (l := ys) (k := k) (by have := hr.len; omega)
            obtain ⟨hy1, hy2, hy3⟩ := hr.el y hym
            obtain ⟨hyi, hyz⟩ := hok _ (List.mem_map_of_mem (f := (con true)) hym)
            have hyl : y.zs.length + 1 ≤ wt (ys.map (con true)) := wt_mem (List.mem_map_of_mem (f := (con true)) hym)
            unfold maxLen at hy3
            have hysi : I64 y.s := hyi
            obtain ⟨hysi1, hysi2⟩ := hysi
            refine c_true (b := (decide (((k : Nat) : Int) < ((a1n : Nat) : Int)))) (by kernel_rfl) hb10 ?_
            refine wp_skip ?_
            refine then_n ?_
            refine wp_seq ?_
            refine wp_block ?_
            refine wp_seq ?_
            refine c_reg ?_
            refine q_seg (S := (fun x_ => St w x_ [Res.box blk2 [Value.int .i64 a0, Value.slice (some ⟨b, off, none⟩) a1n a1c, Value.slice a2A a2n a2c] 34])) [(37, Value.agg #[Value.int .i64 y.s, Value.slice y.A y.zs.length y.c]), (36, Value.pointer (some ⟨b, off + Int.toNat ((k : Nat) : Int) * 2, none⟩)), (35, Value.int .i64 ((k : Nat) : Int))] [.no, .no, .v (Value.agg #[Value.int .i64 y.s, Value.slice y.A y.zs.length y.c])] (((0 : Int) ≤ ((k : Nat) : Int)) ∧ (((k : Nat) : Int) < ((a1n : Nat) : Int)) ∧ (LoadsAt Try.prog (fun x_ => St w x_ [Res.box blk2 [Value.int .i64 a0, Value.slice (some ⟨b, off, none⟩) a1n a1c, Value.slice a2A a2n a2c] 34]) 37 ⟨b, off + Int.toNat ((k : Nat) : Int) * 2, none⟩ (Value.agg #[Value.int .i64 y.s, Value.slice y.A y.zs.length y.c]))) (by kernel_rfl) ⟨(by omega), (by omega), (ld_lowN (k := 2) (vs := [Value.int .i64 y.s, Value.slice y.A y.zs.length y.c]) (by kernel_rfl) rfl (flat_cells (p := true) hcl hyk))⟩ hS8 ?_
            refine l_op rfl rfl (fun K hK => op_alloc (d := some 4) rfl rfl [Value.int .i64 0, Value.slice none 0 0] (by kernel_rfl) hS8 (fun blk12 w11 hS11 => hK _ _ ?_))
            clear hK K
            refine q_seg (S := (fun x_ => St w x_ [Res.box blk12 [Value.int .i64 0, Value.slice none 0 0] 37, Res.box blk2 [Value.int .i64 a0, Value.slice (some ⟨b, off, none⟩) a1n a1c, Value.slice a2A a2n a2c] 34])) [(3, Value.int .i64 ((k : Nat) : Int))] [.no] True (by kernel_rfl) trivial hS11 ?_
            refine l_op rfl rfl (fun K hK => op_store (d := none) rfl rfl (i := 0) (b := blk12) (off := 0) (cs := [Value.int .i64 0, Value.slice none 0 0]) (bt := 37) (by kernel_rfl) (by kernel_rfl) [Value.int .i64 y.s, Value.slice y.A y.zs.length y.c] (by kernel_rfl) (by kernel_rfl) (Nat.le_of_ble_eq_true (by kernel_rfl)) (by kernel_rfl) [Res.box blk12 [Value.int .i64 y.s, Value.slice y.A y.zs.length y.c] 37, Res.box blk2 [Value.int .i64 a0, Value.slice (some ⟨b, off, none⟩) a1n a1c, Value.slice a2A a2n a2c] 34] (by kernel_rfl) hS11 (fun w13 hS13 => hK _ _ ?_))
            clear hK K
            refine l_nil rfl ?_
            refine then_n ?_
            refine wp_seq ?_
            refine wp_seq ?_
            refine c_reg ?_
            refine q_seg (S := (fun x_ => St w x_ [Res.box blk12 [Value.int .i64 y.s, Value.slice y.A y.zs.length y.c] 37, Res.box blk2 [Value.int .i64 a0, Value.slice (some ⟨b, off, none⟩) a1n a1c, Value.slice a2A a2n a2c] 34])) [(42, Value.bool (decide ((60 : Int) < ((y.zs.length : Nat) : Int)))), (41, Value.bool (decide ((60 : Int) < ((y.zs.length : Nat) : Int)))), (40, Value.int .i64 ((y.zs.length : Nat) : Int)), (39, Value.slice y.A y.zs.length y.c), (38, Value.pointer (some ⟨blk12, 0 + 1, none⟩))] [.no, .v (Value.slice y.A y.zs.length y.c), .no, .no, .no] ((LoadsAt Try.prog (fun x_ => St w x_ [Res.box blk12 [Value.int .i64 y.s, Value.slice y.A y.zs.length y.c] 37, Res.box blk2 [Value.int .i64 a0, Value.slice (some ⟨b, off, none⟩) a1n a1c, Value.slice a2A a2n a2c] 34]) 26 ⟨blk12, 0 + 1, none⟩ (Value.slice y.A y.zs.length y.c))) (by kernel_rfl) (ld_box (i := 0) rfl rfl (by kernel_rfl)) hS13 ?_
            rcases Bool.eq_false_or_eq_true (decide ((60 : Int) < ((y.zs.length : Nat) : Int))) with hb14 | hb14
            · skip
              have hb14p := of_decide_eq_true hb14
              refine q_seg (S := (fun x_ => St w x_ [Res.box blk12 [Value.int .i64 y.s, Value.slice y.A y.zs.length y.c] 37, Res.box blk2 [Value.int .i64 a0, Value.slice (some ⟨b, off, none⟩) a1n a1c, Value.slice a2A a2n a2c] 34])) [(54, Value.bool true), (53, undef), (52, undef), (51, undef), (50, undef), (49, undef), (48, undef), (47, undef), (46, undef), (45, undef), (44, undef), (43, undef)] [.skip, .skip, .skip, .skip, .skip, .skip, .skip, .skip, .skip, .skip, .skip, .v (.bool true)] (((decide ((60 : Int) < ((y.zs.length : Nat) : Int))) = !false) ∧ ((decide ((60 : Int) < ((y.zs.length : Nat) : Int))) = !false) ∧ ((decide ((60 : Int) < ((y.zs.length : Nat) : Int))) = !false) ∧ ((decide ((60 : Int) < ((y.zs.length : Nat) : Int))) = !false) ∧ ((decide ((60 : Int) < ((y.zs.length : Nat) : Int))) = !false) ∧ ((decide ((60 : Int) < ((y.zs.length : Nat) : Int))) = !false) ∧ ((decide ((60 : Int) < ((y.zs.length : Nat) : Int))) = !false) ∧ ((decide ((60 : Int) < ((y.zs.length : Nat) : Int))) = !false) ∧ ((decide ((60 : Int) < ((y.zs.length : Nat) : Int))) = !false) ∧ ((decide ((60 : Int) < ((y.zs.length : Nat) : Int))) = !false) ∧ ((decide ((60 : Int) < ((y.zs.length : Nat) : Int))) = !false) ∧ ((decide ((60 : Int) < ((y.zs.length : Nat) : Int))) = true)) (by kernel_rfl) ⟨hb14, hb14, hb14, hb14, hb14, hb14, hb14, hb14, hb14, hb14, hb14, hb14⟩ hS13 ?_
              refine l_nil rfl ?_
              refine then_n ?_
              refine c_true (b := true) (by kernel_rfl) rfl ?_
              refine wp_seq ?_
              refine c_reg ?_
              refine q_seg (S := (fun x_ => St w x_ [Res.box blk12 [Value.int .i64 y.s, Value.slice y.A y.zs.length y.c] 37, Res.box blk2 [Value.int .i64 a0, Value.slice (some ⟨b, off, none⟩) a1n a1c, Value.slice a2A a2n a2c] 34])) [(2, Value.bool false)] [.no] True (by kernel_rfl) trivial hS13 ?_
              refine l_nil rfl ?_
              refine then_n ?_
              refine wp_ret ?_
              refine then_r ?_
              refine blk_r ?_
              refine then_r ?_
              refine then_r ?_
              refine blk_r ?_
              refine then_r ?_
              exact c_end (S := (fun x_ => St w x_ [Res.box blk12 [Value.int .i64 y.s, Value.slice y.A y.zs.length y.c] 37, Res.box blk2 [Value.int .i64 a0, Value.slice (some ⟨b, off, none⟩) a1n a1c, Value.slice a2A a2n a2c] 34])) (rs := [.tmp 2]) rfl [] (v := Value.bool false) (C := True) (by kernel_rfl) trivial hS13 ((hS13.rv (congrArg Value.bool (vr_f5 (n := a1n) (k := k) (by rw [List.length_map]; exact hln) (by omega) (okR_f2 (con_get (p := true) hyk) (by show 60 < y.zs.length; omega))))))
            · skip
              have hb14p := of_decide_eq_false hb14
              refine q_seg (S := (fun x_ => St w x_ [Res.box blk12 [Value.int .i64 y.s, Value.slice y.A y.zs.length y.c] 37, Res.box blk2 [Value.int .i64 a0, Value.slice (some ⟨b, off, none⟩) a1n a1c, Value.slice a2A a2n a2c] 34])) [(51, Value.int .i64 ((a0 + (8 : Int)) - (1 : Int))), (50, Value.int .i64 (a0 + (8 : Int))), (49, Value.int .i64 a0), (48, Value.pointer (some ⟨blk2, 0 + 0, none⟩)), (47, Value.int .i64 (a0 + (1 : Int))), (46, Value.int .i64 a0), (45, Value.pointer (some ⟨blk2, 0 + 0, none⟩)), (44, Value.int .i64 y.s), (43, Value.pointer (some ⟨blk12, 0 + 0, none⟩))] [.no, .v (Value.int .i64 y.s), .no, .v (Value.int .i64 a0), .no, .no, .v (Value.int .i64 a0), .no, .no] (((decide ((60 : Int) < ((y.zs.length : Nat) : Int))) = false) ∧ ((decide ((60 : Int) < ((y.zs.length : Nat) : Int))) = false) ∧ (LoadsAt Try.prog (fun x_ => St w x_ [Res.box blk12 [Value.int .i64 y.s, Value.slice y.A y.zs.length y.c] 37, Res.box blk2 [Value.int .i64 a0, Value.slice (some ⟨b, off, none⟩) a1n a1c, Value.slice a2A a2n a2c] 34]) 3 ⟨blk12, 0 + 0, none⟩ (Value.int .i64 y.s)) ∧ ((decide ((60 : Int) < ((y.zs.length : Nat) : Int))) = false) ∧ ((decide ((60 : Int) < ((y.zs.length : Nat) : Int))) = false) ∧ (LoadsAt Try.prog (fun x_ => St w x_ [Res.box blk12 [Value.int .i64 y.s, Value.slice y.A y.zs.length y.c] 37, Res.box blk2 [Value.int .i64 a0, Value.slice (some ⟨b, off, none⟩) a1n a1c, Value.slice a2A a2n a2c] 34]) 3 ⟨blk2, 0 + 0, none⟩ (Value.int .i64 a0)) ∧ ((decide ((60 : Int) < ((y.zs.length : Nat) : Int))) = false) ∧ (InK .i64 (a0 + (1 : Int))) ∧ ((decide ((60 : Int) < ((y.zs.length : Nat) : Int))) = false) ∧ ((decide ((60 : Int) < ((y.zs.length : Nat) : Int))) = false) ∧ (LoadsAt Try.prog (fun x_ => St w x_ [Res.box blk12 [Value.int .i64 y.s, Value.slice y.A y.zs.length y.c] 37, Res.box blk2 [Value.int .i64 a0, Value.slice (some ⟨b, off, none⟩) a1n a1c, Value.slice a2A a2n a2c] 34]) 3 ⟨blk2, 0 + 0, none⟩ (Value.int .i64 a0)) ∧ ((decide ((60 : Int) < ((y.zs.length : Nat) : Int))) = false) ∧ (InK .i64 (a0 + (8 : Int))) ∧ ((decide ((60 : Int) < ((y.zs.length : Nat) : Int))) = false) ∧ (InK .i64 ((a0 + (8 : Int)) - (1 : Int)))) (by kernel_rfl) ⟨hb14, hb14, (ld_box (i := 0) rfl rfl (by kernel_rfl)), hb14, hb14, (ld_box (i := 1) rfl rfl (by kernel_rfl)), hb14, (in64 (by omega) (by omega)), hb14, hb14, (ld_box (i := 1) rfl rfl (by kernel_rfl)), hb14, (in64 (by omega) (by omega)), hb14, (in64 (by omega) (by omega))⟩ hS13 ?_
              refine l_opg rfl (b := (decide ((60 : Int) < ((y.zs.length : Nat) : Int)))) (want := false) (by kernel_rfl) hb14 (fun K hK => op_callv (d := some 52) rfl rfl ⟨_, Try.func69, by kernel_rfl, by kernel_rfl⟩ (vs := [Value.int .i64 y.s, Value.int .i64 (a0 + (1 : Int)), Value.int .i64 ((a0 + (8 : Int)) - (1 : Int))]) (by kernel_rfl) (v := Value.bool (inR y.s (a0 + (1 : Int)) ((a0 + (8 : Int)) - (1 : Int)))) (InRange_c y.s (a0 + (1 : Int)) ((a0 + (8 : Int)) - (1 : Int)) _) hS13 (fun w15 hS15 => hK _ _ ?_))
              clear hK K
              refine q_seg (S := (fun x_ => St w x_ [Res.box blk12 [Value.int .i64 y.s, Value.slice y.A y.zs.length y.c] 37, Res.box blk2 [Value.int .i64 a0, Value.slice (some ⟨b, off, none⟩) a1n a1c, Value.slice a2A a2n a2c] 34])) [(54, Value.bool (!(inR y.s (a0 + (1 : Int)) ((a0 + (8 : Int)) - (1 : Int))))), (53, Value.bool (!(inR y.s (a0 + (1 : Int)) ((a0 + (8 : Int)) - (1 : Int)))))] [.no, .v (.bool false)] (((decide ((60 : Int) < ((y.zs.length : Nat) : Int))) = false) ∧ ((decide ((60 : Int) < ((y.zs.length : Nat) : Int))) = false)) (by kernel_rfl) ⟨hb14, hb14⟩ hS15 ?_
              refine l_nil rfl ?_
              refine then_n ?_
              rcases Bool.eq_false_or_eq_true (inR y.s (a0 + (1 : Int)) ((a0 + (8 : Int)) - (1 : Int))) with hb16 | hb16
              · skip
                obtain ⟨hb16p, hb16q⟩ := inR_iff.1 hb16
                refine c_false (b := (!(inR y.s (a0 + (1 : Int)) ((a0 + (8 : Int)) - (1 : Int))))) (by kernel_rfl) (nb (v := true) hb16) ?_
                refine wp_skip ?_
                refine then_n ?_
                refine wp_seq ?_
                refine c_drawn [] (by kernel_rfl) hS15 (fun w17 hS17 => ?_)
                refine t_seg (S := (fun x_ => St w x_ [Res.box blk12 [Value.int .i64 y.s, Value.slice y.A y.zs.length y.c] 37, Res.box blk2 [Value.int .i64 a0, Value.slice (some ⟨b, off, none⟩) a1n a1c, Value.slice a2A a2n a2c] 34])) [(0, .no), (1, .no), (2, .no)] 11 #[true, true, true, false, false, false, false, false, false, false, false, false, false, false] [(57, Value.bool (decide ((0 : Int) < ((k : Nat) : Int)))), (56, Value.bool (decide ((0 : Int) < ((k : Nat) : Int)))), (55, Value.int .i64 ((k : Nat) : Int))] True (by kernel_rfl) (Qpanic.then (Qpanic.block (Qpanic.then (Qpanic.then (Qpanic.block (Qpanic.then Qpanic.bp)))))) rfl (by kernel_rfl) trivial hS17 ?_
                rcases Bool.eq_false_or_eq_true (decide ((0 : Int) < ((k : Nat) : Int))) with hb18 | hb18
                · skip
                  have hb18p := of_decide_eq_true hb18
                  obtain ⟨x, hxk, hxm⟩ := get_of_lt (l := ys) (k := k - 1) (by have := hr.len; omega)
                  refine t_seg (S := (fun x_ => St w x_ [Res.box blk12 [Value.int .i64 y.s, Value.slice y.A y.zs.length y.c] 37, Res.box blk2 [Value.int .i64 a0, Value.slice (some ⟨b, off, none⟩) a1n a1c, Value.slice a2A a2n a2c] 34])) [(3, .no), (5, .no), (10, .no), (4, .v (Value.slice (some ⟨b, off, none⟩) a1n a1c)), (6, .no), (11, .v (Value.int .i64 y.s)), (7, .no), (8, .no), (9, .v (Value.int .i64 x.s)), (12, .no), (13, .v (.bool true))] 0 #[true, true, true, true, true, true, true, true, true, true, true, true, true, true] [(68, Value.bool (decide (y.s ≤ x.s))), (67, Value.bool (decide (y.s ≤ x.s))), (64, Value.int .i64 x.s), (63, Value.pointer (some ⟨b, off + Int.toNat (((k : Nat) : Int) - (1 : Int)) * 2 + 0, none⟩)), (62, Value.pointer (some ⟨b, off + Int.toNat (((k : Nat) : Int) - (1 : Int)) * 2, none⟩)), (66, Value.int .i64 y.s), (61, Value.int .i64 (((k : Nat) : Int) - (1 : Int))), (59, Value.slice (some ⟨b, off, none⟩) a1n a1c), (65, Value.pointer (some ⟨blk12, 0 + 0, none⟩)), (60, Value.int .i64 ((k : Nat) : Int)), (58, Value.pointer (some ⟨blk2, 0 + 1, none⟩))] (((decide ((0 : Int) < ((k : Nat) : Int))) = true) ∧ ((decide ((0 : Int) < ((k : Nat) : Int))) = true) ∧ ((decide ((0 : Int) < ((k : Nat) : Int))) = true) ∧ ((decide ((0 : Int) < ((k : Nat) : Int))) = true) ∧ (LoadsAt Try.prog (fun x_ => St w x_ [Res.box blk12 [Value.int .i64 y.s, Value.slice y.A y.zs.length y.c] 37, Res.box blk2 [Value.int .i64 a0, Value.slice (some ⟨b, off, none⟩) a1n a1c, Value.slice a2A a2n a2c] 34]) 31 ⟨blk2, 0 + 1, none⟩ (Value.slice (some ⟨b, off, none⟩) a1n a1c)) ∧ ((decide ((0 : Int) < ((k : Nat) : Int))) = true) ∧ (InK .i64 (((k : Nat) : Int) - (1 : Int))) ∧ ((decide ((0 : Int) < ((k : Nat) : Int))) = true) ∧ (LoadsAt Try.prog (fun x_ => St w x_ [Res.box blk12 [Value.int .i64 y.s, Value.slice y.A y.zs.length y.c] 37, Res.box blk2 [Value.int .i64 a0, Value.slice (some ⟨b, off, none⟩) a1n a1c, Value.slice a2A a2n a2c] 34]) 3 ⟨blk12, 0 + 0, none⟩ (Value.int .i64 y.s)) ∧ ((decide ((0 : Int) < ((k : Nat) : Int))) = true) ∧ ((0 : Int) ≤ (((k : Nat) : Int) - (1 : Int))) ∧ ((((k : Nat) : Int) - (1 : Int)) < ((a1n : Nat) : Int)) ∧ ((decide ((0 : Int) < ((k : Nat) : Int))) = true) ∧ ((decide ((0 : Int) < ((k : Nat) : Int))) = true) ∧ (LoadsAt Try.prog (fun x_ => St w x_ [Res.box blk12 [Value.int .i64 y.s, Value.slice y.A y.zs.length y.c] 37, Res.box blk2 [Value.int .i64 a0, Value.slice (some ⟨b, off, none⟩) a1n a1c, Value.slice a2A a2n a2c] 34]) 3 ⟨b, off + Int.toNat (((k : Nat) : Int) - (1 : Int)) * 2 + 0, none⟩ (Value.int .i64 x.s)) ∧ ((decide ((0 : Int) < ((k : Nat) : Int))) = true) ∧ ((decide ((0 : Int) < ((k : Nat) : Int))) = true)) (by kernel_rfl) (Qpanic.then (Qpanic.block (Qpanic.then (Qpanic.then (Qpanic.block (Qpanic.then Qpanic.bp)))))) rfl (by kernel_rfl) ⟨hb18, hb18, hb18, hb18, (ld_box (i := 1) rfl rfl (by kernel_rfl)), hb18, (in64 (by omega) (by omega)), hb18, (ld_box (i := 0) rfl rfl (by kernel_rfl)), hb18, (by omega), (by omega), hb18, hb18, (ld_low (flat_cellI (p := true) (r := 0) hcl (by omega) hxk rfl) (by kernel_rfl)), hb18, hb18⟩ hS17 ?_
                  refine a_done (by kernel_rfl) ?_
                  refine then_n ?_
                  rcases Bool.eq_false_or_eq_true (decide (y.s ≤ x.s)) with hb19 | hb19
                  · skip
                    have hb19p := of_decide_eq_true hb19
                    refine c_true (b := (decide (y.s ≤ x.s))) (by kernel_rfl) hb19 ?_
                    refine wp_seq ?_
                    refine c_reg ?_
                    refine q_seg (S := (fun x_ => St w x_ [Res.box blk12 [Value.int .i64 y.s, Value.slice y.A y.zs.length y.c] 37, Res.box blk2 [Value.int .i64 a0, Value.slice (some ⟨b, off, none⟩) a1n a1c, Value.slice a2A a2n a2c] 34])) [(2, Value.bool false)] [.no] True (by kernel_rfl) trivial hS17 ?_
                    refine l_nil rfl ?_
                    refine then_n ?_
                    refine wp_ret ?_
                    refine blk_r ?_
                    refine then_r ?_
                    refine then_r ?_
                    refine blk_r ?_
                    refine then_r ?_
                    exact c_end (S := (fun x_ => St w x_ [Res.box blk12 [Value.int .i64 y.s, Value.slice y.A y.zs.length y.c] 37, Res.box blk2 [Value.int .i64 a0, Value.slice (some ⟨b, off, none⟩) a1n a1c, Value.slice a2A a2n a2c] 34])) (rs := [.tmp 2]) rfl [] (v := Value.bool false) (C := True) (by kernel_rfl) trivial hS17 ((hS17.rv (congrArg Value.bool (vr_f5 (n := a1n) (k := k) (by rw [List.length_map]; exact hln) (by omega) (okR_f3 (con_get (p := true) hyk) (by omega) (con_get (p := true) hxk) (by show ¬ x.s < y.s; omega))))))
                  · skip
                    have hb19p := of_decide_eq_false hb19
                    refine c_false (b := (decide (y.s ≤ x.s))) (by kernel_rfl) hb19 ?_
                    refine wp_skip ?_
                    refine blk_n ?_
                    refine then_n ?_
                    refine c_reg ?_
                    refine q_seg (S := (fun x_ => St w x_ [Res.box blk12 [Value.int .i64 y.s, Value.slice y.A y.zs.length y.c] 37, Res.box blk2 [Value.int .i64 a0, Value.slice (some ⟨b, off, none⟩) a1n a1c, Value.slice a2A a2n a2c] 34])) [(33, Value.int .i64 (((k : Nat) : Int) + (1 : Int))), (69, Value.int .i64 (((k : Nat) : Int) + (1 : Int)))] [.no, .no] ((InK .i64 (((k : Nat) : Int) + (1 : Int)))) (by kernel_rfl) (in64 (by omega) (by omega)) hS17 ?_
                    refine l_nil rfl ?_
                    refine then_n ?_
                    refine round_end (k + 1) ?_ ?_ ?_
                    · exact (agree_cons (by kernel_rfl) (agree_cons (by kernel_rfl) (agree_cons (by kernel_rfl) (agree_cons (by kernel_rfl) agree_nil))))
                    · exact ⟨(by omega), (allK_step htk (okR_t (con_get (p := true) hyk) hb16 (by show y.zs.length ≤ 60; omega) (.inr ⟨_, (con_get (p := true) hxk), by show x.s < y.s; omega⟩))), hS17.drop⟩
                    · exact (by first | omega | (dsimp only; omega))
                · skip
                  have hb18p := of_decide_eq_false hb18
                  refine t_seg (S := (fun x_ => St w x_ [Res.box blk12 [Value.int .i64 y.s, Value.slice y.A y.zs.length y.c] 37, Res.box blk2 [Value.int .i64 a0, Value.slice (some ⟨b, off, none⟩) a1n a1c, Value.slice a2A a2n a2c] 34])) [(3, .skip), (5, .skip), (10, .skip), (4, .skip), (6, .skip), (11, .skip), (7, .skip), (8, .skip), (9, .skip), (12, .skip), (13, .v (.bool false))] 0 #[true, true, true, true, true, true, true, true, true, true, true, true, true, true] [(68, Value.bool false), (67, undef), (64, undef), (63, undef), (62, undef), (66, undef), (61, undef), (59, undef), (65, undef), (60, undef), (58, undef)] (((decide ((0 : Int) < ((k : Nat) : Int))) = !true) ∧ ((decide ((0 : Int) < ((k : Nat) : Int))) = !true) ∧ ((decide ((0 : Int) < ((k : Nat) : Int))) = !true) ∧ ((decide ((0 : Int) < ((k : Nat) : Int))) = !true) ∧ ((decide ((0 : Int) < ((k : Nat) : Int))) = !true) ∧ ((decide ((0 : Int) < ((k : Nat) : Int))) = !true) ∧ ((decide ((0 : Int) < ((k : Nat) : Int))) = !true) ∧ ((decide ((0 : Int) < ((k : Nat) : Int))) = !true) ∧ ((decide ((0 : Int) < ((k : Nat) : Int))) = !true) ∧ ((decide ((0 : Int) < ((k : Nat) : Int))) = !true) ∧ ((decide ((0 : Int) < ((k : Nat) : Int))) = false)) (by kernel_rfl) (Qpanic.then (Qpanic.block (Qpanic.then (Qpanic.then (Qpanic.block (Qpanic.then Qpanic.bp)))))) rfl (by kernel_rfl) ⟨hb18, hb18, hb18, hb18, hb18, hb18, hb18, hb18, hb18, hb18, hb18⟩ hS17 ?_
                  refine a_done (by kernel_rfl) ?_
                  refine then_n ?_
                  refine c_false (b := false) (by kernel_rfl) rfl ?_
                  refine wp_skip ?_
                  refine blk_n ?_
                  refine then_n ?_
                  refine c_reg ?_
                  refine q_seg (S := (fun x_ => St w x_ [Res.box blk12 [Value.int .i64 y.s, Value.slice y.A y.zs.length y.c] 37, Res.box blk2 [Value.int .i64 a0, Value.slice (some ⟨b, off, none⟩) a1n a1c, Value.slice a2A a2n a2c] 34])) [(33, Value.int .i64 (((k : Nat) : Int) + (1 : Int))), (69, Value.int .i64 (((k : Nat) : Int) + (1 : Int)))] [.no, .no] ((InK .i64 (((k : Nat) : Int) + (1 : Int)))) (by kernel_rfl) (in64 (by omega) (by omega)) hS17 ?_
                  refine l_nil rfl ?_
                  refine then_n ?_
                  refine round_end (k + 1) ?_ ?_ ?_
                  · exact (agree_cons (by kernel_rfl) (agree_cons (by kernel_rfl) (agree_cons (by kernel_rfl) (agree_cons (by kernel_rfl) agree_nil))))
                  · exact ⟨(by omega), (allK_step htk (okR_t (con_get (p := true) hyk) hb16 (by show y.zs.length ≤ 60; omega) (.inl (by omega)))), hS17.drop⟩
                  · exact (by first | omega | (dsimp only; omega))
              · skip
                have hb16p := inR_neg hb16
                refine c_true (b := (!(inR y.s (a0 + (1 : Int)) ((a0 + (8 : Int)) - (1 : Int))))) (by kernel_rfl) (nb (v := false) hb16) ?_
                refine wp_seq ?_
                refine c_reg ?_
                refine q_seg (S := (fun x_ => St w x_ [Res.box blk12 [Value.int .i64 y.s, Value.slice y.A y.zs.length y.c] 37, Res.box blk2 [Value.int .i64 a0, Value.slice (some ⟨b, off, none⟩) a1n a1c, Value.slice a2A a2n a2c] 34])) [(2, Value.bool false)] [.no] True (by kernel_rfl) trivial hS15 ?_
                refine l_nil rfl ?_
                refine then_n ?_
                refine wp_ret ?_
                refine then_r ?_
                refine blk_r ?_
                refine then_r ?_
                refine then_r ?_
                refine blk_r ?_
                refine then_r ?_
                exact c_end (S := (fun x_ => St w x_ [Res.box blk12 [Value.int .i64 y.s, Value.slice y.A y.zs.length y.c] 37, Res.box blk2 [Value.int .i64 a0, Value.slice (some ⟨b, off, none⟩) a1n a1c, Value.slice a2A a2n a2c] 34])) (rs := [.tmp 2]) rfl [] (v := Value.bool false) (C := True) (by kernel_rfl) trivial hS15 ((hS15.rv (congrArg Value.bool (vr_f5 (n := a1n) (k := k) (by rw [List.length_map]; exact hln) (by omega) (okR_f1 (con_get (p := true) hyk) hb16)))))
          · skip
            have hb10p := of_decide_eq_false hb10
            refine c_false (b := (decide (((k : Nat) : Int) < ((a1n : Nat) : Int)))) (by kernel_rfl) hb10 ?_
            refine wp_exit ?_
            refine then_x ?_
            refine then_x ?_
            refine blk_hit ?_
            refine then_n ?_
            refine wp_seq ?_
            refine c_reg ?_
            refine q_seg (S := (fun x_ => St w x_ [Res.box blk2 [Value.int .i64 a0, Value.slice a1A a1n a1c, Value.slice a2A a2n a2c] 34])) [(2, Value.bool true)] [.no] True (by kernel_rfl) trivial hS8 ?_
            refine l_nil rfl ?_
            refine then_n ?_
            refine wp_ret ?_
            exact c_end (S := (fun x_ => St w x_ [Res.box blk2 [Value.int .i64 a0, Value.slice a1A a1n a1c, Value.slice a2A a2n a2c] 34])) (rs := [.tmp 2]) rfl [] (v := Value.bool true) (C := True) (by kernel_rfl) trivial hS8 ((hS8.rv (congrArg Value.bool (vr_t (n := a1n) (m := a2n) (by rw [List.length_map]; exact hln) (by rw [List.length_map]; exact hln2) (by omega) (by omega) (by omega) hb6 (by rw [show k = a1n by omega] at htk; exact htk)))))
      · skip
        refine q_seg (S := (fun x_ => St w x_ [Res.box blk2 [Value.int .i64 a0, Value.slice a1A a1n a1c, Value.slice a2A a2n a2c] 34])) [(29, Value.bool true), (28, undef), (27, undef), (26, undef), (25, undef)] [.skip, .skip, .skip, .skip, .v (.bool true)] (((!(allK (okB (zs.map (con false))) a2n)) = !false) ∧ ((!(allK (okB (zs.map (con false))) a2n)) = !false) ∧ ((!(allK (okB (zs.map (con false))) a2n)) = !false) ∧ ((!(allK (okB (zs.map (con false))) a2n)) = !false) ∧ ((!(allK (okB (zs.map (con false))) a2n)) = true)) (by kernel_rfl) ⟨(nb (v := false) hb6), (nb (v := false) hb6), (nb (v := false) hb6), (nb (v := false) hb6), (nb (v := false) hb6)⟩ hS5 ?_
        refine l_nil rfl ?_
        refine then_n ?_
        refine c_true (b := true) (by kernel_rfl) rfl ?_
        refine wp_seq ?_
        refine c_reg ?_
        refine q_seg (S := (fun x_ => St w x_ [Res.box blk2 [Value.int .i64 a0, Value.slice a1A a1n a1c, Value.slice a2A a2n a2c] 34])) [(2, Value.bool false)] [.no] True (by kernel_rfl) trivial hS5 ?_
        refine l_nil rfl ?_
        refine then_n ?_
        refine wp_ret ?_
        refine then_r ?_
        exact c_end (S := (fun x_ => St w x_ [Res.box blk2 [Value.int .i64 a0, Value.slice a1A a1n a1c, Value.slice a2A a2n a2c] 34])) (rs := [.tmp 2]) rfl [] (v := Value.bool false) (C := True) (by kernel_rfl) trivial hS5 ((hS5.rv (congrArg Value.bool (vr_f3 (m := a2n) (by rw [List.length_map]; exact hln2) hb6))))
  · skip
    have hb3p := of_decide_eq_false hb3
    refine q_seg (S := (fun x_ => St w x_ [Res.box blk2 [Value.int .i64 a0, Value.slice a1A a1n a1c, Value.slice a2A a2n a2c] 34])) [(29, Value.bool true), (28, undef), (27, undef), (26, undef), (25, undef), (24, Value.bool true), (23, Value.bool true), (22, undef), (21, undef), (20, undef), (19, undef), (18, Value.bool true), (17, Value.bool true), (16, undef), (15, undef), (14, undef), (13, undef)] [.skip, .skip, .skip, .skip, .v (.bool true), .no, .skip, .skip, .skip, .skip, .v (.bool true), .no, .skip, .skip, .skip, .skip, .v (.bool true)] (((!(decide (a0 = (((a2n : Nat) : Int) + (1 : Int))))) = !false) ∧ ((!(decide (a0 = (((a2n : Nat) : Int) + (1 : Int))))) = !false) ∧ ((!(decide (a0 = (((a2n : Nat) : Int) + (1 : Int))))) = !false) ∧ ((!(decide (a0 = (((a2n : Nat) : Int) + (1 : Int))))) = !false) ∧ ((!(decide (a0 = (((a2n : Nat) : Int) + (1 : Int))))) = true) ∧ (true = !false) ∧ (true = !false) ∧ (true = !false) ∧ (true = !false) ∧ (true = true) ∧ (true = !false) ∧ (true = !false) ∧ (true = !false) ∧ (true = !false) ∧ (true = true)) (by kernel_rfl) ⟨(nb (v := false) hb3), (nb (v := false) hb3), (nb (v := false) hb3), (nb (v := false) hb3), (nb (v := false) hb3), rfl, rfl, rfl, rfl, rfl, rfl, rfl, rfl, rfl, rfl⟩ hS1 ?_
    refine l_nil rfl ?_
    refine then_n ?_
    refine c_true (b := true) (by kernel_rfl) rfl ?_
    refine wp_seq ?_
    refine c_reg ?_
    refine q_seg (S := (fun x_ => St w x_ [Res.box blk2 [Value.int .i64 a0, Value.slice a1A a1n a1c, Value.slice a2A a2n a2c] 34])) [(2, Value.bool false)] [.no] True (by kernel_rfl) trivial hS1 ?_
    refine l_nil rfl ?_
    refine then_n ?_
    refine wp_ret ?_
    refine then_r ?_
    exact c_end (S := (fun x_ => St w x_ [Res.box blk2 [Value.int .i64 a0, Value.slice a1A a1n a1c, Value.slice a2A a2n a2c] 34])) (rs := [.tmp 2]) rfl [] (v := Value.bool false) (C := True) (by kernel_rfl) trivial hS1 ((hS1.rv (congrArg Value.bool (vr_f1 (m := a2n) (by rw [List.length_map]; exact hln2) hb3p))))
theorem IsValidReceiver_s_in (a0 : Int) (a1A : Option Addr) (a1n a1c : Nat) (a1L : List (Int × List Int)) (a2A : Option Addr) (a2n a2c : Nat) (a2L : List (Int × List Int)) (w : World) (a0h : I64 a0) (a1h : RdL .u8 true w w.heap.size a1A a1n a1L) (a1w : wt a1L ≤ 1099511627776) (a2h : RdL .u8 false w w.heap.size a2A a2n a2L) (a2w : wt a2L ≤ 1099511627776) (hR : a0 = ((a2n : Nat) : Int) + 1) : Calls Try.prog 47 #[Value.agg #[Value.int .i64 a0, Value.slice a1A a1n a1c, Value.slice a2A a2n a2c]] w (RetV w (.bool (vrecv a0 a1L a2L))) := by
  obtain ⟨a0h1, a0h2⟩ := a0h
  have hm0 := a2h
  obtain ⟨hok, ys, hr, rfl⟩ := a1h
  have hwl := wt_len (ys.map (con true))
  have hln := hr.len
  rw [List.length_map] at hwl
  obtain ⟨hok2, zs, hr2, rfl⟩ := a2h
  have hwl2 := wt_len (zs.map (con false))
  have hln2 := hr2.len
  rw [List.length_map] at hwl2
  refine calls_FA Try.func47 rfl (n := 91) rfl (l := [(0, Value.agg #[Value.int .i64 a0, Value.slice a1A a1n a1c, Value.slice a2A a2n a2c])]) rfl (by simp) (fun g => ?_)
  have hS := St.init w
  refine wp_seq ?_
  refine c_reg ?_
  refine l_op rfl rfl (fun K hK => op_box (d := some 1) rfl rfl [Value.int .i64 a0, Value.slice a1A a1n a1c, Value.slice a2A a2n a2c] (by kernel_rfl) hS (fun blk2 w1 hS1 => hK _ _ ?_))
  clear hK K
  refine q_seg (S := (fun x_ => St w x_ [Res.box blk2 [Value.int .i64 a0, Value.slice a1A a1n a1c, Value.slice a2A a2n a2c] 34])) [(2, Value.bool false)] [.no] True (by kernel_rfl) trivial hS1 ?_
  refine l_nil rfl ?_
  refine then_n ?_
  refine wp_seq ?_
  refine wp_seq ?_
  refine c_reg ?_
  refine q_seg (S := (fun x_ => St w x_ [Res.box blk2 [Value.int .i64 a0, Value.slice a1A a1n a1c, Value.slice a2A a2n a2c] 34])) [(3, Value.int .i64 0)] [.no] True (by kernel_rfl) trivial hS1 ?_
  refine l_nil rfl ?_
  refine then_n ?_
  refine wp_block ?_
  refine c_loop (X := Nat) (fun (k : Nat) => [(1, Value.pointer (some ⟨blk2, 0, none⟩)), (3, Value.int .i64 ((k : Nat) : Int))]) (fun (k : Nat) (wr : World) => (k ≤ a1n) ∧ (allK (okR a0 (ys.map (con true))) k = true) ∧ St w wr [Res.box blk2 [Value.int .i64 a0, Value.slice a1A a1n a1c, Value.slice a2A a2n a2c] 34]) (fun (k : Nat) => a1n - k) 0 ?_ ?_ ?_
  · exact (agree_cons (by kernel_rfl) (agree_cons (by kernel_rfl) agree_nil))
  · exact ⟨Nat.zero_le _, rfl, hS1⟩
  rintro k g4 w3 ⟨hkn, htk, hS3⟩
  refine wp_seq ?_
  refine wp_seq ?_
  refine c_reg ?_
  refine q_seg (S := (fun x_ => St w x_ [Res.box blk2 [Value.int .i64 a0, Value.slice a1A a1n a1c, Value.slice a2A a2n a2c] 34])) [(9, Value.bool (decide (((k : Nat) : Int) < ((a1n : Nat) : Int)))), (8, Value.int .i64 ((a1n : Nat) : Int)), (7, Value.slice a1A a1n a1c), (6, Value.pointer (some ⟨blk2, 0 + 1, none⟩)), (5, Value.int .i64 ((k : Nat) : Int))] [.no, .no, .v (Value.slice a1A a1n a1c), .no, .no] ((LoadsAt Try.prog (fun x_ => St w x_ [Res.box blk2 [Value.int .i64 a0, Value.slice a1A a1n a1c, Value.slice a2A a2n a2c] 34]) 31 ⟨blk2, 0 + 1, none⟩ (Value.slice a1A a1n a1c))) (by kernel_rfl) (ld_box (i := 0) rfl rfl (by kernel_rfl)) hS3 ?_
  refine l_nil rfl ?_
  refine then_n ?_
  rcases Bool.eq_false_or_eq_true (decide (((k : Nat) : Int) < ((a1n : Nat) : Int))) with hb5 | hb5
  · skip
    have hb5p := of_decide_eq_true hb5
    obtain ⟨b, off, rfl, hbB, hcl⟩ := hr.at (k := k) (by omega)
    obtain ⟨y, hyk, hym⟩ := get_of_lt (l := ys) (k := k) (by have := hr.len; omega)
    obtain ⟨hy1, hy2, hy3⟩ := hr.el y hym
    obtain ⟨hyi, hyz⟩ := hok _ (List.mem_map_of_mem (f := (con true)) hym)
    have hyl : y.zs.length + 1 ≤ wt (ys.map (con true)) := wt_mem (List.mem_map_of_mem (f := (con true)) hym)
    unfold maxLen at hy3
    have hysi : I64 y.s := hyi
    obtain ⟨hysi1, hysi2⟩ := hysi
    refine c_true (b := (decide (((k : Nat) : Int) < ((a1n : Nat) : Int)))) (by kernel_rfl) hb5 ?_
    refine wp_skip ?_
    refine then_n ?_
    refine wp_seq ?_
    refine wp_block ?_
    refine wp_seq ?_
    refine c_drawn [] (by kernel_rfl) hS3 (fun w6 hS6 => ?_)
    refine t_seg (S := (fun x_ => St w x_ [Res.box blk2 [Value.int .i64 a0, Value.slice (some ⟨b, off, none⟩) a1n a1c, Value.slice a2A a2n a2c] 34])) [(0, .no), (2, .no), (6, .no), (9, .no), (1, .v (Value.slice (some ⟨b, off, none⟩) a1n a1c)), (7, .v (Value.int .i64 a0)), (10, .v (Value.int .i64 a0)), (3, .no), (8, .no), (11, .no), (4, .no), (12, .no), (5, .v (Value.int .i64 y.s))] 32 #[true, true, true, true, true, true, true, true, true, true, true, true, true, false, false, false, false, false, false, false, false, false, false, false, false, false, false, false, false, false, false, false, false, false, false, false, false, false, false, false, false, false, false, false, false] [(17, Value.int .i64 y.s), (24, Value.int .i64 ((a0 + (8 : Int)) - (1 : Int))), (16, Value.pointer (some ⟨b, off + Int.toNat ((k : Nat) : Int) * 2 + 0, none⟩)), (23, Value.int .i64 (a0 + (8 : Int))), (20, Value.int .i64 (a0 + (1 : Int))), (15, Value.pointer (some ⟨b, off + Int.toNat ((k : Nat) : Int) * 2, none⟩)), (22, Value.int .i64 a0), (19, Value.int .i64 a0), (13, Value.slice (some ⟨b, off, none⟩) a1n a1c), (21, Value.pointer (some ⟨blk2, 0 + 0, none⟩)), (18, Value.pointer (some ⟨blk2, 0 + 0, none⟩)), (14, Value.int .i64 ((k : Nat) : Int)), (12, Value.pointer (some ⟨blk2, 0 + 1, none⟩))] ((LoadsAt Try.prog (fun x_ => St w x_ [Res.box blk2 [Value.int .i64 a0, Value.slice (some ⟨b, off, none⟩) a1n a1c, Value.slice a2A a2n a2c] 34]) 31 ⟨blk2, 0 + 1, none⟩ (Value.slice (some ⟨b, off, none⟩) a1n a1c)) ∧ (LoadsAt Try.prog (fun x_ => St w x_ [Res.box blk2 [Value.int .i64 a0, Value.slice (some ⟨b, off, none⟩) a1n a1c, Value.slice a2A a2n a2c] 34]) 3 ⟨blk2, 0 + 0, none⟩ (Value.int .i64 a0)) ∧ (LoadsAt Try.prog (fun x_ => St w x_ [Res.box blk2 [Value.int .i64 a0, Value.slice (some ⟨b, off, none⟩) a1n a1c, Value.slice a2A a2n a2c] 34]) 3 ⟨blk2, 0 + 0, none⟩ (Value.int .i64 a0)) ∧ ((0 : Int) ≤ ((k : Nat) : Int)) ∧ (((k : Nat) : Int) < ((a1n : Nat) : Int)) ∧ (InK .i64 (a0 + (1 : Int))) ∧ (InK .i64 (a0 + (8 : Int))) ∧ (InK .i64 ((a0 + (8 : Int)) - (1 : Int))) ∧ (LoadsAt Try.prog (fun x_ => St w x_ [Res.box blk2 [Value.int .i64 a0, Value.slice (some ⟨b, off, none⟩) a1n a1c, Value.slice a2A a2n a2c] 34]) 3 ⟨b, off + Int.toNat ((k : Nat) : Int) * 2 + 0, none⟩ (Value.int .i64 y.s))) (by kernel_rfl) (Qpanic.then (Qpanic.block (Qpanic.then (Qpanic.then (Qpanic.block (Qpanic.then Qpanic.bp)))))) rfl (by kernel_rfl) ⟨(ld_box (i := 0) rfl rfl (by kernel_rfl)), (ld_box (i := 0) rfl rfl (by kernel_rfl)), (ld_box (i := 0) rfl rfl (by kernel_rfl)), (by omega), (by omega), (in64 (by omega) (by omega)), (in64 (by omega) (by omega)), (in64 (by omega) (by omega)), (ld_low (flat_cell (p := true) (r := 0) hcl hyk rfl) (by kernel_rfl))⟩ hS6 ?_
    refine a_op (i := 13) (fuel := 31) (listed' := #[true, true, true, true, true, true, true, true, true, true, true, true, true, true, false, false, false, false, false, false, false, false, false, false, false, false, false, false, false, false, false, false, false, false, false, false, false, false, false, false, false, false, false, false, false]) rfl rfl (by kernel_rfl) (by kernel_rfl) rfl (fun K hK => op_callv (d := some 25) rfl rfl ⟨_, Try.func64, by kernel_rfl, by kernel_rfl⟩ (vs := [Value.int .i64 y.s, Value.int .i64 (a0 + (1 : Int)), Value.int .i64 ((a0 + (8 : Int)) - (1 : Int))]) (by kernel_rfl) (v := Value.bool (inR y.s (a0 + (1 : Int)) ((a0 + (8 : Int)) - (1 : Int)))) (l1In_c y.s (a0 + (1 : Int)) ((a0 + (8 : Int)) - (1 : Int)) _) hS6 (fun w7 hS7 => hK _ _ (fun _ => hS7) ?_))
    clear hK K
    refine t_seg (S := (fun x_ => St w x_ [Res.box blk2 [Value.int .i64 a0, Value.slice (some ⟨b, off, none⟩) a1n a1c, Value.slice a2A a2n a2c] 34])) [(14, .no), (15, .no)] 29 #[true, true, true, true, true, true, true, true, true, true, true, true, true, true, true, true, false, false, false, false, false, false, false, false, false, false, false, false, false, false, false, false, false, false, false, false, false, false, false, false, false, false, false, false, false] [(27, Value.bool (!(inR y.s (a0 + (1 : Int)) ((a0 + (8 : Int)) - (1 : Int))))), (26, Value.bool (!(inR y.s (a0 + (1 : Int)) ((a0 + (8 : Int)) - (1 : Int)))))] True (by kernel_rfl) (Qpanic.then (Qpanic.block (Qpanic.then (Qpanic.then (Qpanic.block (Qpanic.then Qpanic.bp)))))) rfl (by kernel_rfl) trivial hS7 ?_
    rcases Bool.eq_false_or_eq_true (inR y.s (a0 + (1 : Int)) ((a0 + (8 : Int)) - (1 : Int))) with hb8 | hb8
    · skip
      obtain ⟨hb8p, hb8q⟩ := inR_iff.1 hb8
      refine t_seg (S := (fun x_ => St w x_ [Res.box blk2 [Value.int .i64 a0, Value.slice (some ⟨b, off, none⟩) a1n a1c, Value.slice a2A a2n a2c] 34])) [(16, .no), (17, .no), (18, .no)] 26 #[true, true, true, true, true, true, true, true, true, true, true, true, true, true, true, true, true, true, true, false, false, false, false, false, false, false, false, false, false, false, false, false, false, false, false, false, false, false, false, false, false, false, false, false, false] [(30, Value.bool (decide ((0 : Int) < ((k : Nat) : Int)))), (29, Value.bool (decide ((0 : Int) < ((k : Nat) : Int)))), (28, Value.int .i64 ((k : Nat) : Int))] (((!(inR y.s (a0 + (1 : Int)) ((a0 + (8 : Int)) - (1 : Int)))) = false) ∧ ((!(inR y.s (a0 + (1 : Int)) ((a0 + (8 : Int)) - (1 : Int)))) = false) ∧ ((!(inR y.s (a0 + (1 : Int)) ((a0 + (8 : Int)) - (1 : Int)))) = false)) (by kernel_rfl) (Qpanic.then (Qpanic.block (Qpanic.then (Qpanic.then (Qpanic.block (Qpanic.then Qpanic.bp)))))) rfl (by kernel_rfl) ⟨(nb (v := true) hb8), (nb (v := true) hb8), (nb (v := true) hb8)⟩ hS7 ?_
      rcases Bool.eq_false_or_eq_true (decide ((0 : Int) < ((k : Nat) : Int))) with hb9 | hb9
      · skip
        have hb9p := of_decide_eq_true hb9
        obtain ⟨x, hxk, hxm⟩ := get_of_lt (l := ys) (k := k - 1) (by have := hr.len; omega)
        refine t_seg (S := (fun x_ => St w x_ [Res.box blk2 [Value.int .i64 a0, Value.slice (some ⟨b, off, none⟩) a1n a1c, Value.slice a2A a2n a2c] 34])) [(19, .no), (21, .no), (26, .no), (28, .no), (20, .v (Value.slice (some ⟨b, off, none⟩) a1n a1c)), (22, .no), (27, .v (Value.slice (some ⟨b, off, none⟩) a1n a1c)), (23, .no), (29, .no), (24, .no), (30, .no), (25, .v (Value.int .i64 x.s)), (31, .v (Value.int .i64 y.s)), (32, .no), (33, .v (.bool true)), (34, .v (.bool false)), (35, .no)] 9 #[true, true, true, true, true, true, true, true, true, true, true, true, true, true, true, true, true, true, true, true, true, true, true, true, true, true, true, true, true, true, true, true, true, true, true, true, false, false, false, false, false, false, false, false, false] [(47, Value.bool (decide (y.s ≤ x.s))), (46, Value.bool (decide (y.s ≤ x.s))), (45, Value.bool (decide (y.s ≤ x.s))), (44, Value.bool (decide (y.s ≤ x.s))), (43, Value.int .i64 y.s), (37, Value.int .i64 x.s), (42, Value.pointer (some ⟨b, off + Int.toNat ((k : Nat) : Int) * 2 + 0, none⟩)), (36, Value.pointer (some ⟨b, off + Int.toNat (((k : Nat) : Int) - (1 : Int)) * 2 + 0, none⟩)), (41, Value.pointer (some ⟨b, off + Int.toNat ((k : Nat) : Int) * 2, none⟩)), (35, Value.pointer (some ⟨b, off + Int.toNat (((k : Nat) : Int) - (1 : Int)) * 2, none⟩)), (39, Value.slice (some ⟨b, off, none⟩) a1n a1c), (34, Value.int .i64 (((k : Nat) : Int) - (1 : Int))), (32, Value.slice (some ⟨b, off, none⟩) a1n a1c), (40, Value.int .i64 ((k : Nat) : Int)), (38, Value.pointer (some ⟨blk2, 0 + 1, none⟩)), (33, Value.int .i64 ((k : Nat) : Int)), (31, Value.pointer (some ⟨blk2, 0 + 1, none⟩))] (((decide ((0 : Int) < ((k : Nat) : Int))) = true) ∧ ((decide ((0 : Int) < ((k : Nat) : Int))) = true) ∧ ((decide ((0 : Int) < ((k : Nat) : Int))) = true) ∧ ((decide ((0 : Int) < ((k : Nat) : Int))) = true) ∧ ((decide ((0 : Int) < ((k : Nat) : Int))) = true) ∧ (LoadsAt Try.prog (fun x_ => St w x_ [Res.box blk2 [Value.int .i64 a0, Value.slice (some ⟨b, off, none⟩) a1n a1c, Value.slice a2A a2n a2c] 34]) 31 ⟨blk2, 0 + 1, none⟩ (Value.slice (some ⟨b, off, none⟩) a1n a1c)) ∧ ((decide ((0 : Int) < ((k : Nat) : Int))) = true) ∧ (InK .i64 (((k : Nat) : Int) - (1 : Int))) ∧ ((decide ((0 : Int) < ((k : Nat) : Int))) = true) ∧ (LoadsAt Try.prog (fun x_ => St w x_ [Res.box blk2 [Value.int .i64 a0, Value.slice (some ⟨b, off, none⟩) a1n a1c, Value.slice a2A a2n a2c] 34]) 31 ⟨blk2, 0 + 1, none⟩ (Value.slice (some ⟨b, off, none⟩) a1n a1c)) ∧ ((decide ((0 : Int) < ((k : Nat) : Int))) = true) ∧ ((0 : Int) ≤ (((k : Nat) : Int) - (1 : Int))) ∧ ((((k : Nat) : Int) - (1 : Int)) < ((a1n : Nat) : Int)) ∧ ((decide ((0 : Int) < ((k : Nat) : Int))) = true) ∧ ((0 : Int) ≤ ((k : Nat) : Int)) ∧ (((k : Nat) : Int) < ((a1n : Nat) : Int)) ∧ ((decide ((0 : Int) < ((k : Nat) : Int))) = true) ∧ ((decide ((0 : Int) < ((k : Nat) : Int))) = true) ∧ ((decide ((0 : Int) < ((k : Nat) : Int))) = true) ∧ (LoadsAt Try.prog (fun x_ => St w x_ [Res.box blk2 [Value.int .i64 a0, Value.slice (some ⟨b, off, none⟩) a1n a1c, Value.slice a2A a2n a2c] 34]) 3 ⟨b, off + Int.toNat (((k : Nat) : Int) - (1 : Int)) * 2 + 0, none⟩ (Value.int .i64 x.s)) ∧ ((decide ((0 : Int) < ((k : Nat) : Int))) = true) ∧ (LoadsAt Try.prog (fun x_ => St w x_ [Res.box blk2 [Value.int .i64 a0, Value.slice (some ⟨b, off, none⟩) a1n a1c, Value.slice a2A a2n a2c] 34]) 3 ⟨b, off + Int.toNat ((k : Nat) : Int) * 2 + 0, none⟩ (Value.int .i64 y.s)) ∧ ((decide ((0 : Int) < ((k : Nat) : Int))) = true) ∧ ((!(inR y.s (a0 + (1 : Int)) ((a0 + (8 : Int)) - (1 : Int)))) = false) ∧ ((decide ((0 : Int) < ((k : Nat) : Int))) = true) ∧ ((!(inR y.s (a0 + (1 : Int)) ((a0 + (8 : Int)) - (1 : Int)))) = false)) (by kernel_rfl) (Qpanic.then (Qpanic.block (Qpanic.then (Qpanic.then (Qpanic.block (Qpanic.then Qpanic.bp)))))) rfl (by kernel_rfl) ⟨hb9, hb9, hb9, hb9, hb9, (ld_box (i := 0) rfl rfl (by kernel_rfl)), hb9, (in64 (by omega) (by omega)), hb9, (ld_box (i := 0) rfl rfl (by kernel_rfl)), hb9, (by omega), (by omega), hb9, (by omega), (by omega), hb9, hb9, hb9, (ld_low (flat_cellI (p := true) (r := 0) hcl (by omega) hxk rfl) (by kernel_rfl)), hb9, (ld_low (flat_cell (p := true) (r := 0) hcl hyk rfl) (by kernel_rfl)), hb9, (nb (v := true) hb8), hb9, (nb (v := true) hb8)⟩ hS7 ?_
        rcases Bool.eq_false_or_eq_true (decide (y.s ≤ x.s)) with hb10 | hb10
        · skip
          have hb10p := of_decide_eq_true hb10
          refine t_seg (S := (fun x_ => St w x_ [Res.box blk2 [Value.int .i64 a0, Value.slice (some ⟨b, off, none⟩) a1n a1c, Value.slice a2A a2n a2c] 34])) [(36, .skip), (38, .skip), (37, .skip), (39, .skip), (40, .skip), (41, .skip), (42, .skip), (43, .skip), (44, .v (.bool true))] 0 #[true, true, true, true, true, true, true, true, true, true, true, true, true, true, true, true, true, true, true, true, true, true, true, true, true, true, true, true, true, true, true, true, true, true, true, true, true, true, true, true, true, true, true, true, true] [(56, Value.bool true), (55, undef), (54, undef), (53, undef), (52, undef), (51, undef), (49, undef), (50, undef), (48, undef)] (((decide (y.s ≤ x.s)) = !false) ∧ ((decide (y.s ≤ x.s)) = !false) ∧ ((decide (y.s ≤ x.s)) = !false) ∧ ((decide (y.s ≤ x.s)) = !false) ∧ ((decide (y.s ≤ x.s)) = !false) ∧ ((decide (y.s ≤ x.s)) = !false) ∧ ((decide (y.s ≤ x.s)) = !false) ∧ ((decide (y.s ≤ x.s)) = !false) ∧ ((decide (y.s ≤ x.s)) = true)) (by kernel_rfl) (Qpanic.then (Qpanic.block (Qpanic.then (Qpanic.then (Qpanic.block (Qpanic.then Qpanic.bp)))))) rfl (by kernel_rfl) ⟨hb10, hb10, hb10, hb10, hb10, hb10, hb10, hb10, hb10⟩ hS7 ?_
          refine a_done (by kernel_rfl) ?_
          refine then_n ?_
          refine c_true (b := true) (by kernel_rfl) rfl ?_
          refine wp_seq ?_
          refine c_reg ?_
          refine q_seg (S := (fun x_ => St w x_ [Res.box blk2 [Value.int .i64 a0, Value.slice (some ⟨b, off, none⟩) a1n a1c, Value.slice a2A a2n a2c] 34])) [(2, Value.bool false)] [.no] True (by kernel_rfl) trivial hS7 ?_
          refine l_nil rfl ?_
          refine then_n ?_
          refine wp_ret ?_
          refine blk_r ?_
          refine then_r ?_
          refine then_r ?_
          refine blk_r ?_
          refine then_r ?_
          exact c_end (S := (fun x_ => St w x_ [Res.box blk2 [Value.int .i64 a0, Value.slice (some ⟨b, off, none⟩) a1n a1c, Value.slice a2A a2n a2c] 34])) (rs := [.tmp 2]) rfl [] (v := Value.bool false) (C := True) (by kernel_rfl) trivial hS7 ((hS7.rv (congrArg Value.bool (vr_f5 (n := a1n) (k := k) (by rw [List.length_map]; exact hln) (by omega) (okR_f3 (con_get (p := true) hyk) (by omega) (con_get (p := true) hxk) (by show ¬ x.s < y.s; omega))))))
        · skip
          have hb10p := of_decide_eq_false hb10
          refine t_seg (S := (fun x_ => St w x_ [Res.box blk2 [Value.int .i64 a0, Value.slice (some ⟨b, off, none⟩) a1n a1c, Value.slice a2A a2n a2c] 34])) [(36, .no), (38, .no), (37, .v (Value.slice (some ⟨b, off, none⟩) a1n a1c)), (39, .no), (40, .no), (41, .v (Value.slice y.A y.zs.length y.c)), (42, .no), (43, .no), (44, .v (.bool false))] 0 #[true, true, true, true, true, true, true, true, true, true, true, true, true, true, true, true, true, true, true, true, true, true, true, true, true, true, true, true, true, true, true, true, true, true, true, true, true, true, true, true, true, true, true, true, true] [(56, Value.bool (decide ((60 : Int) < ((y.zs.length : Nat) : Int)))), (55, Value.bool (decide ((60 : Int) < ((y.zs.length : Nat) : Int)))), (54, Value.int .i64 ((y.zs.length : Nat) : Int)), (53, Value.slice y.A y.zs.length y.c), (52, Value.pointer (some ⟨b, off + Int.toNat ((k : Nat) : Int) * 2 + 1, none⟩)), (51, Value.pointer (some ⟨b, off + Int.toNat ((k : Nat) : Int) * 2, none⟩)), (49, Value.slice (some ⟨b, off, none⟩) a1n a1c), (50, Value.int .i64 ((k : Nat) : Int)), (48, Value.pointer (some ⟨blk2, 0 + 1, none⟩))] (((decide (y.s ≤ x.s)) = false) ∧ ((decide (y.s ≤ x.s)) = false) ∧ ((decide (y.s ≤ x.s)) = false) ∧ (LoadsAt Try.prog (fun x_ => St w x_ [Res.box blk2 [Value.int .i64 a0, Value.slice (some ⟨b, off, none⟩) a1n a1c, Value.slice a2A a2n a2c] 34]) 31 ⟨blk2, 0 + 1, none⟩ (Value.slice (some ⟨b, off, none⟩) a1n a1c)) ∧ ((decide (y.s ≤ x.s)) = false) ∧ ((0 : Int) ≤ ((k : Nat) : Int)) ∧ (((k : Nat) : Int) < ((a1n : Nat) : Int)) ∧ ((decide (y.s ≤ x.s)) = false) ∧ ((decide (y.s ≤ x.s)) = false) ∧ (LoadsAt Try.prog (fun x_ => St w x_ [Res.box blk2 [Value.int .i64 a0, Value.slice (some ⟨b, off, none⟩) a1n a1c, Value.slice a2A a2n a2c] 34]) 26 ⟨b, off + Int.toNat ((k : Nat) : Int) * 2 + 1, none⟩ (Value.slice y.A y.zs.length y.c)) ∧ ((decide (y.s ≤ x.s)) = false) ∧ ((decide (y.s ≤ x.s)) = false) ∧ ((decide (y.s ≤ x.s)) = false)) (by kernel_rfl) (Qpanic.then (Qpanic.block (Qpanic.then (Qpanic.then (Qpanic.block (Qpanic.then Qpanic.bp)))))) rfl (by kernel_rfl) ⟨hb10, hb10, hb10, (ld_box (i := 0) rfl rfl (by kernel_rfl)), hb10, (by omega), (by omega), hb10, hb10, (ld_low (flat_cell (p := true) (r := 1) hcl hyk rfl) (by kernel_rfl)), hb10, hb10, hb10⟩ hS7 ?_
          refine a_done (by kernel_rfl) ?_
          refine then_n ?_
          rcases Bool.eq_false_or_eq_true (decide ((60 : Int) < ((y.zs.length : Nat) : Int))) with hb11 | hb11
          · skip
            have hb11p := of_decide_eq_true hb11
            refine c_true (b := (decide ((60 : Int) < ((y.zs.length : Nat) : Int)))) (by kernel_rfl) hb11 ?_
            refine wp_seq ?_
            refine c_reg ?_
            refine q_seg (S := (fun x_ => St w x_ [Res.box blk2 [Value.int .i64 a0, Value.slice (some ⟨b, off, none⟩) a1n a1c, Value.slice a2A a2n a2c] 34])) [(2, Value.bool false)] [.no] True (by kernel_rfl) trivial hS7 ?_
            refine l_nil rfl ?_
            refine then_n ?_
            refine wp_ret ?_
            refine blk_r ?_
            refine then_r ?_
            refine then_r ?_
            refine blk_r ?_
            refine then_r ?_
            exact c_end (S := (fun x_ => St w x_ [Res.box blk2 [Value.int .i64 a0, Value.slice (some ⟨b, off, none⟩) a1n a1c, Value.slice a2A a2n a2c] 34])) (rs := [.tmp 2]) rfl [] (v := Value.bool false) (C := True) (by kernel_rfl) trivial hS7 ((hS7.rv (congrArg Value.bool (vr_f5 (n := a1n) (k := k) (by rw [List.length_map]; exact hln) (by omega) (okR_f2 (con_get (p := true) hyk) (by show 60 < y.zs.length; omega))))))
          · skip
            have hb11p := of_decide_eq_false hb11
            refine c_false (b := (decide ((60 : Int) < ((y.zs.length : Nat) : Int)))) (by kernel_rfl) hb11 ?_
            refine wp_skip ?_
            refine blk_n ?_
            refine then_n ?_
            refine c_reg ?_
            refine q_seg (S := (fun x_ => St w x_ [Res.box blk2 [Value.int .i64 a0, Value.slice (some ⟨b, off, none⟩) a1n a1c, Value.slice a2A a2n a2c] 34])) [(3, Value.int .i64 (((k : Nat) : Int) + (1 : Int))), (11, Value.int .i64 (((k : Nat) : Int) + (1 : Int))), (10, Value.int .i64 ((k : Nat) : Int))] [.no, .no, .no] ((InK .i64 (((k : Nat) : Int) + (1 : Int)))) (by kernel_rfl) (in64 (by omega) (by omega)) hS7 ?_
            refine l_nil rfl ?_
            refine then_n ?_
            refine round_end (k + 1) ?_ ?_ ?_
            · exact (agree_cons (by kernel_rfl) (agree_cons (by kernel_rfl) agree_nil))
            · exact ⟨(by omega), (allK_step htk (okR_t (con_get (p := true) hyk) hb8 (by show y.zs.length ≤ 60; omega) (.inr ⟨_, (con_get (p := true) hxk), by show x.s < y.s; omega⟩))), hS7⟩
            · exact (by first | omega | (dsimp only; omega))
      · skip
        have hb9p := of_decide_eq_false hb9
        refine t_seg (S := (fun x_ => St w x_ [Res.box blk2 [Value.int .i64 a0, Value.slice (some ⟨b, off, none⟩) a1n a1c, Value.slice a2A a2n a2c] 34])) [(19, .skip), (21, .skip), (26, .skip), (28, .skip), (20, .skip), (22, .skip), (27, .skip), (23, .skip), (29, .skip), (24, .skip), (30, .skip), (25, .skip), (31, .skip), (32, .skip), (33, .v (.bool false)), (34, .v (.bool false)), (35, .no), (36, .no), (38, .no), (37, .v (Value.slice (some ⟨b, off, none⟩) a1n a1c)), (39, .no), (40, .no), (41, .v (Value.slice y.A y.zs.length y.c)), (42, .no), (43, .no), (44, .v (.bool false))] 0 #[true, true, true, true, true, true, true, true, true, true, true, true, true, true, true, true, true, true, true, true, true, true, true, true, true, true, true, true, true, true, true, true, true, true, true, true, true, true, true, true, true, true, true, true, true] [(56, Value.bool (decide ((60 : Int) < ((y.zs.length : Nat) : Int)))), (55, Value.bool (decide ((60 : Int) < ((y.zs.length : Nat) : Int)))), (54, Value.int .i64 ((y.zs.length : Nat) : Int)), (53, Value.slice y.A y.zs.length y.c), (52, Value.pointer (some ⟨b, off + Int.toNat ((k : Nat) : Int) * 2 + 1, none⟩)), (51, Value.pointer (some ⟨b, off + Int.toNat ((k : Nat) : Int) * 2, none⟩)), (49, Value.slice (some ⟨b, off, none⟩) a1n a1c), (50, Value.int .i64 ((k : Nat) : Int)), (48, Value.pointer (some ⟨blk2, 0 + 1, none⟩)), (47, Value.bool false), (46, Value.bool false), (45, Value.bool false), (44, undef), (43, undef), (37, undef), (42, undef), (36, undef), (41, undef), (35, undef), (39, undef), (34, undef), (32, undef), (40, undef), (38, undef), (33, undef), (31, undef)] (((decide ((0 : Int) < ((k : Nat) : Int))) = !true) ∧ ((decide ((0 : Int) < ((k : Nat) : Int))) = !true) ∧ ((decide ((0 : Int) < ((k : Nat) : Int))) = !true) ∧ ((decide ((0 : Int) < ((k : Nat) : Int))) = !true) ∧ ((decide ((0 : Int) < ((k : Nat) : Int))) = !true) ∧ ((decide ((0 : Int) < ((k : Nat) : Int))) = !true) ∧ ((decide ((0 : Int) < ((k : Nat) : Int))) = !true) ∧ ((decide ((0 : Int) < ((k : Nat) : Int))) = !true) ∧ ((decide ((0 : Int) < ((k : Nat) : Int))) = !true) ∧ ((decide ((0 : Int) < ((k : Nat) : Int))) = !true) ∧ ((decide ((0 : Int) < ((k : Nat) : Int))) = !true) ∧ ((decide ((0 : Int) < ((k : Nat) : Int))) = !true) ∧ ((decide ((0 : Int) < ((k : Nat) : Int))) = !true) ∧ ((decide ((0 : Int) < ((k : Nat) : Int))) = !true) ∧ ((!(inR y.s (a0 + (1 : Int)) ((a0 + (8 : Int)) - (1 : Int)))) = false) ∧ ((decide ((0 : Int) < ((k : Nat) : Int))) = false) ∧ ((!(inR y.s (a0 + (1 : Int)) ((a0 + (8 : Int)) - (1 : Int)))) = false) ∧ (false = false) ∧ (false = false) ∧ (false = false) ∧ (LoadsAt Try.prog (fun x_ => St w x_ [Res.box blk2 [Value.int .i64 a0, Value.slice (some ⟨b, off, none⟩) a1n a1c, Value.slice a2A a2n a2c] 34]) 31 ⟨blk2, 0 + 1, none⟩ (Value.slice (some ⟨b, off, none⟩) a1n a1c)) ∧ (false = false) ∧ ((0 : Int) ≤ ((k : Nat) : Int)) ∧ (((k : Nat) : Int) < ((a1n : Nat) : Int)) ∧ (false = false) ∧ (false = false) ∧ (LoadsAt Try.prog (fun x_ => St w x_ [Res.box blk2 [Value.int .i64 a0, Value.slice (some ⟨b, off, none⟩) a1n a1c, Value.slice a2A a2n a2c] 34]) 26 ⟨b, off + Int.toNat ((k : Nat) : Int) * 2 + 1, none⟩ (Value.slice y.A y.zs.length y.c)) ∧ (false = false) ∧ (false = false) ∧ (false = false)) (by kernel_rfl) (Qpanic.then (Qpanic.block (Qpanic.then (Qpanic.then (Qpanic.block (Qpanic.then Qpanic.bp)))))) rfl (by kernel_rfl) ⟨hb9, hb9, hb9, hb9, hb9, hb9, hb9, hb9, hb9, hb9, hb9, hb9, hb9, hb9, (nb (v := true) hb8), hb9, (nb (v := true) hb8), rfl, rfl, rfl, (ld_box (i := 0) rfl rfl (by kernel_rfl)), rfl, (by omega), (by omega), rfl, rfl, (ld_low (flat_cell (p := true) (r := 1) hcl hyk rfl) (by kernel_rfl)), rfl, rfl, rfl⟩ hS7 ?_
        refine a_done (by kernel_rfl) ?_
        refine then_n ?_
        rcases Bool.eq_false_or_eq_true (decide ((60 : Int) < ((y.zs.length : Nat) : Int))) with hb12 | hb12
        · skip
          have hb12p := of_decide_eq_true hb12
          refine c_true (b := (decide ((60 : Int) < ((y.zs.length : Nat) : Int)))) (by kernel_rfl) hb12 ?_
          refine wp_seq ?_
          refine c_reg ?_
          refine q_seg (S := (fun x_ => St w x_ [Res.box blk2 [Value.int .i64 a0, Value.slice (some ⟨b, off, none⟩) a1n a1c, Value.slice a2A a2n a2c] 34])) [(2, Value.bool false)] [.no] True (by kernel_rfl) trivial hS7 ?_
          refine l_nil rfl ?_
          refine then_n ?_
          refine wp_ret ?_
          refine blk_r ?_
          refine then_r ?_
          refine then_r ?_
          refine blk_r ?_
          refine then_r ?_
          exact c_end (S := (fun x_ => St w x_ [Res.box blk2 [Value.int .i64 a0, Value.slice (some ⟨b, off, none⟩) a1n a1c, Value.slice a2A a2n a2c] 34])) (rs := [.tmp 2]) rfl [] (v := Value.bool false) (C := True) (by kernel_rfl) trivial hS7 ((hS7.rv (congrArg Value.bool (vr_f5 (n := a1n) (k := k) (by rw [List.length_map]; exact hln) (by omega) (okR_f2 (con_get (p := true) hyk) (by show 60 < y.zs.length; omega))))))
        · skip
          have hb12p := of_decide_eq_false hb12
          refine c_false (b := (decide ((60 : Int) < ((y.zs.length : Nat) : Int)))) (by kernel_rfl) hb12 ?_
          refine wp_skip ?_
          refine blk_n ?_
          refine then_n ?_
          refine c_reg ?_
          refine q_seg (S := (fun x_ => St w x_ [Res.box blk2 [Value.int .i64 a0, Value.slice (some ⟨b, off, none⟩) a1n a1c, Value.slice a2A a2n a2c] 34])) [(3, Value.int .i64 (((k : Nat) : Int) + (1 : Int))), (11, Value.int .i64 (((k : Nat) : Int) + (1 : Int))), (10, Value.int .i64 ((k : Nat) : Int))] [.no, .no, .no] ((InK .i64 (((k : Nat) : Int) + (1 : Int)))) (by kernel_rfl) (in64 (by omega) (by omega)) hS7 ?_
          refine l_nil rfl ?_
          refine then_n ?_
          refine round_end (k + 1) ?_ ?_ ?_
          · exact (agree_cons (by kernel_rfl) (agree_cons (by kernel_rfl) agree_nil))
          · exact ⟨(by omega), (allK_step htk (okR_t (con_get (p := true) hyk) hb8 (by show y.zs.length ≤ 60; omega) (.inl (by omega)))), hS7⟩
          · exact (by first | omega | (dsimp only; omega))
    · skip
      have hb8p := inR_neg hb8
      refine t_seg (S := (fun x_ => St w x_ [Res.box blk2 [Value.int .i64 a0, Value.slice (some ⟨b, off, none⟩) a1n a1c, Value.slice a2A a2n a2c] 34])) [(16, .skip), (17, .skip), (18, .skip), (19, .skip), (21, .skip), (26, .skip), (28, .skip), (20, .skip), (22, .skip), (27, .skip), (23, .skip), (29, .skip), (24, .skip), (30, .skip), (25, .skip), (31, .skip), (32, .skip), (33, .skip), (34, .v (.bool true)), (35, .no), (36, .skip), (38, .skip), (37, .skip), (39, .skip), (40, .skip), (41, .skip), (42, .skip), (43, .skip), (44, .v (.bool true))] 0 #[true, true, true, true, true, true, true, true, true, true, true, true, true, true, true, true, true, true, true, true, true, true, true, true, true, true, true, true, true, true, true, true, true, true, true, true, true, true, true, true, true, true, true, true, true] [(56, Value.bool true), (55, undef), (54, undef), (53, undef), (52, undef), (51, undef), (49, undef), (50, undef), (48, undef), (47, Value.bool true), (46, Value.bool true), (45, undef), (44, undef), (43, undef), (37, undef), (42, undef), (36, undef), (41, undef), (35, undef), (39, undef), (34, undef), (32, undef), (40, undef), (38, undef), (33, undef), (31, undef), (30, undef), (29, undef), (28, undef)] (((!(inR y.s (a0 + (1 : Int)) ((a0 + (8 : Int)) - (1 : Int)))) = !false) ∧ ((!(inR y.s (a0 + (1 : Int)) ((a0 + (8 : Int)) - (1 : Int)))) = !false) ∧ ((!(inR y.s (a0 + (1 : Int)) ((a0 + (8 : Int)) - (1 : Int)))) = !false) ∧ ((!(inR y.s (a0 + (1 : Int)) ((a0 + (8 : Int)) - (1 : Int)))) = !false) ∧ ((!(inR y.s (a0 + (1 : Int)) ((a0 + (8 : Int)) - (1 : Int)))) = true) ∧ (true = !false) ∧ (true = !false) ∧ (true = !false) ∧ (true = !false) ∧ (true = !false) ∧ (true = !false) ∧ (true = !false) ∧ (true = !false) ∧ (true = true)) (by kernel_rfl) (Qpanic.then (Qpanic.block (Qpanic.then (Qpanic.then (Qpanic.block (Qpanic.then Qpanic.bp)))))) rfl (by kernel_rfl) ⟨(nb (v := false) hb8), (nb (v := false) hb8), (nb (v := false) hb8), (nb (v := false) hb8), (nb (v := false) hb8), rfl, rfl, rfl, rfl, rfl, rfl, rfl, rfl, rfl⟩ hS7 ?_
      refine a_done (by kernel_rfl) ?_
      refine then_n ?_
      refine c_true (b := true) (by kernel_rfl) rfl ?_
      refine wp_seq ?_
      refine c_reg ?_
      refine q_seg (S := (fun x_ => St w x_ [Res.box blk2 [Value.int .i64 a0, Value.slice (some ⟨b, off, none⟩) a1n a1c, Value.slice a2A a2n a2c] 34])) [(2, Value.bool false)] [.no] True (by kernel_rfl) trivial hS7 ?_
      refine l_nil rfl ?_
      refine then_n ?_
      refine wp_ret ?_
      refine blk_r ?_
      refine then_r ?_
      refine then_r ?_
      refine blk_r ?_
      refine then_r ?_
      exact c_end (S := (fun x_ => St w x_ [Res.box blk2 [Value.int .i64 a0, Value.slice (some ⟨b, off, none⟩) a1n a1c, Value.slice a2A a2n a2c] 34])) (rs := [.tmp 2]) rfl [] (v := Value.bool false) (C := True) (by kernel_rfl) trivial hS7 ((hS7.rv (congrArg Value.bool (vr_f5 (n := a1n) (k := k) (by rw [List.length_map]; exact hln) (by omega) (okR_f1 (con_get (p := true) hyk) hb8)))))
  · skip
    have hb5p := of_decide_eq_false hb5
    refine c_false (b := (decide (((k : Nat) : Int) < ((a1n : Nat) : Int)))) (by kernel_rfl) hb5 ?_
    refine wp_exit ?_
    refine then_x ?_
    refine then_x ?_
    refine blk_hit ?_
    refine then_n ?_
    refine wp_seq ?_
    refine wp_seq ?_
    refine c_reg ?_
    refine q_seg (S := (fun x_ => St w x_ [Res.box blk2 [Value.int .i64 a0, Value.slice a1A a1n a1c, Value.slice a2A a2n a2c] 34])) [(4, Value.int .i64 0)] [.no] True (by kernel_rfl) trivial hS3 ?_
    refine l_nil rfl ?_
    refine then_n ?_
    refine wp_block ?_
    refine c_loop (X := Nat) (fun (j : Nat) => [(1, Value.pointer (some ⟨blk2, 0, none⟩)), (4, Value.int .i64 ((j : Nat) : Int))]) (fun (j : Nat) (wr : World) => (j ≤ a2n) ∧ (allK (okB (zs.map (con false))) j = true) ∧ St w wr [Res.box blk2 [Value.int .i64 a0, Value.slice a1A a1n a1c, Value.slice a2A a2n a2c] 34]) (fun (j : Nat) => a2n - j) 0 ?_ ?_ ?_
    · exact (agree_cons (by kernel_rfl) (agree_cons (by kernel_rfl) agree_nil))
    · exact ⟨Nat.zero_le _, rfl, hS3⟩
    rintro j g14 w13 ⟨hjn, htj, hS13⟩
    refine wp_seq ?_
    refine wp_seq ?_
    refine c_reg ?_
    refine q_seg (S := (fun x_ => St w x_ [Res.box blk2 [Value.int .i64 a0, Value.slice a1A a1n a1c, Value.slice a2A a2n a2c] 34])) [(61, Value.bool (decide (((j : Nat) : Int) < ((a2n : Nat) : Int)))), (60, Value.int .i64 ((a2n : Nat) : Int)), (59, Value.slice a2A a2n a2c), (58, Value.pointer (some ⟨blk2, 0 + 2, none⟩)), (57, Value.int .i64 ((j : Nat) : Int))] [.no, .no, .v (Value.slice a2A a2n a2c), .no, .no] ((LoadsAt Try.prog (fun x_ => St w x_ [Res.box blk2 [Value.int .i64 a0, Value.slice a1A a1n a1c, Value.slice a2A a2n a2c] 34]) 32 ⟨blk2, 0 + 2, none⟩ (Value.slice a2A a2n a2c))) (by kernel_rfl) (ld_box (i := 0) rfl rfl (by kernel_rfl)) hS13 ?_
    refine l_nil rfl ?_
    refine then_n ?_
    rcases Bool.eq_false_or_eq_true (decide (((j : Nat) : Int) < ((a2n : Nat) : Int))) with hb15 | hb15
    · skip
      have hb15p := of_decide_eq_true hb15
      obtain ⟨b2, off2, rfl, hbB2, hcl2⟩ := hr2.at (k := j) (by omega)
      obtain ⟨z, hzk, hzm⟩ := get_of_lt (l := zs) (k := j) (by have := hr2.len; omega)
      obtain ⟨hz1, hz2, hz3⟩ := hr2.el z hzm
      obtain ⟨hzi, hzz⟩ := hok2 _ (List.mem_map_of_mem (f := (con false)) hzm)
      have hzl : z.zs.length + 1 ≤ wt (zs.map (con false)) := wt_mem (List.mem_map_of_mem (f := (con false)) hzm)
      unfold maxLen at hz3
      refine c_true (b := (decide (((j : Nat) : Int) < ((a2n : Nat) : Int)))) (by kernel_rfl) hb15 ?_
      refine wp_skip ?_
      refine then_n ?_
      refine wp_seq ?_
      refine wp_block ?_
      refine wp_seq ?_
      refine c_reg ?_
      refine q_seg (S := (fun x_ => St w x_ [Res.box blk2 [Value.int .i64 a0, Value.slice a1A a1n a1c, Value.slice (some ⟨b2, off2, none⟩) a2n a2c] 34])) [(71, Value.bool (decide ((60 : Int) < ((z.zs.length : Nat) : Int)))), (70, Value.int .i64 ((z.zs.length : Nat) : Int)), (69, Value.slice z.A z.zs.length z.c), (68, Value.pointer (some ⟨b2, off2 + Int.toNat ((j : Nat) : Int) * 1 + 0, none⟩)), (67, Value.pointer (some ⟨b2, off2 + Int.toNat ((j : Nat) : Int) * 1, none⟩)), (66, Value.int .i64 ((j : Nat) : Int)), (65, Value.slice (some ⟨b2, off2, none⟩) a2n a2c), (64, Value.pointer (some ⟨blk2, 0 + 2, none⟩))] [.no, .v (Value.slice (some ⟨b2, off2, none⟩) a2n a2c), .no, .no, .no, .v (Value.slice z.A z.zs.length z.c), .no, .no] ((LoadsAt Try.prog (fun x_ => St w x_ [Res.box blk2 [Value.int .i64 a0, Value.slice a1A a1n a1c, Value.slice (some ⟨b2, off2, none⟩) a2n a2c] 34]) 32 ⟨blk2, 0 + 2, none⟩ (Value.slice (some ⟨b2, off2, none⟩) a2n a2c)) ∧ ((0 : Int) ≤ ((j : Nat) : Int)) ∧ (((j : Nat) : Int) < ((a2n : Nat) : Int)) ∧ (LoadsAt Try.prog (fun x_ => St w x_ [Res.box blk2 [Value.int .i64 a0, Value.slice a1A a1n a1c, Value.slice (some ⟨b2, off2, none⟩) a2n a2c] 34]) 26 ⟨b2, off2 + Int.toNat ((j : Nat) : Int) * 1 + 0, none⟩ (Value.slice z.A z.zs.length z.c))) (by kernel_rfl) ⟨(ld_box (i := 0) rfl rfl (by kernel_rfl)), (by omega), (by omega), (ld_low (flat_cell (p := false) (r := 0) hcl2 hzk rfl) (by kernel_rfl))⟩ hS13 ?_
      refine l_nil rfl ?_
      refine then_n ?_
      rcases Bool.eq_false_or_eq_true (decide ((60 : Int) < ((z.zs.length : Nat) : Int))) with hb16 | hb16
      · skip
        have hb16p := of_decide_eq_true hb16
        refine c_true (b := (decide ((60 : Int) < ((z.zs.length : Nat) : Int)))) (by kernel_rfl) hb16 ?_
        refine wp_seq ?_
        refine c_reg ?_
        refine q_seg (S := (fun x_ => St w x_ [Res.box blk2 [Value.int .i64 a0, Value.slice a1A a1n a1c, Value.slice (some ⟨b2, off2, none⟩) a2n a2c] 34])) [(2, Value.bool false)] [.no] True (by kernel_rfl) trivial hS13 ?_
        refine l_nil rfl ?_
        refine then_n ?_
        refine wp_ret ?_
        refine blk_r ?_
        refine then_r ?_
        refine then_r ?_
        refine blk_r ?_
        refine then_r ?_
        exact c_end (S := (fun x_ => St w x_ [Res.box blk2 [Value.int .i64 a0, Value.slice a1A a1n a1c, Value.slice (some ⟨b2, off2, none⟩) a2n a2c] 34])) (rs := [.tmp 2]) rfl [] (v := Value.bool false) (C := True) (by kernel_rfl) trivial hS13 ((hS13.rv (congrArg Value.bool (vr_f3 (m := a2n) (by rw [List.length_map]; exact hln2) (allK_bad (k := j) (by omega) (okB_f (con_get (p := false) hzk) (by show 60 < z.zs.length; omega)))))))
      · skip
        have hb16p := of_decide_eq_false hb16
        refine c_false (b := (decide ((60 : Int) < ((z.zs.length : Nat) : Int)))) (by kernel_rfl) hb16 ?_
        refine wp_skip ?_
        refine blk_n ?_
        refine then_n ?_
        refine c_reg ?_
        refine q_seg (S := (fun x_ => St w x_ [Res.box blk2 [Value.int .i64 a0, Value.slice a1A a1n a1c, Value.slice (some ⟨b2, off2, none⟩) a2n a2c] 34])) [(4, Value.int .i64 (((j : Nat) : Int) + (1 : Int))), (63, Value.int .i64 (((j : Nat) : Int) + (1 : Int))), (62, Value.int .i64 ((j : Nat) : Int))] [.no, .no, .no] ((InK .i64 (((j : Nat) : Int) + (1 : Int)))) (by kernel_rfl) (in64 (by omega) (by omega)) hS13 ?_
        refine l_nil rfl ?_
        refine then_n ?_
        refine round_end (j + 1) ?_ ?_ ?_
        · exact (agree_cons (by kernel_rfl) (agree_cons (by kernel_rfl) agree_nil))
        · exact ⟨(by omega), (allK_step htj (okB_t (con_get (p := false) hzk) (by show z.zs.length ≤ 60; omega))), hS13⟩
        · exact (by first | omega | (dsimp only; omega))
    · skip
      have hb15p := of_decide_eq_false hb15
      refine c_false (b := (decide (((j : Nat) : Int) < ((a2n : Nat) : Int)))) (by kernel_rfl) hb15 ?_
      refine wp_exit ?_
      refine then_x ?_
      refine then_x ?_
      refine blk_hit ?_
      refine then_n ?_
      refine wp_seq ?_
      refine c_reg ?_
      refine q_seg (S := (fun x_ => St w x_ [Res.box blk2 [Value.int .i64 a0, Value.slice a1A a1n a1c, Value.slice a2A a2n a2c] 34])) [(85, Value.bool (decide (((a2n : Nat) : Int) ≤ (24 : Int)))), (84, Value.bool (decide (((a2n : Nat) : Int) ≤ (24 : Int)))), (83, Value.bool (decide (((a2n : Nat) : Int) ≤ (24 : Int)))), (82, Value.int .i64 ((a2n : Nat) : Int)), (81, Value.slice a2A a2n a2c), (80, Value.pointer (some ⟨blk2, 0 + 2, none⟩)), (79, Value.bool (decide (a0 = (((a2n : Nat) : Int) + (1 : Int))))), (78, Value.bool (decide (a0 = (((a2n : Nat) : Int) + (1 : Int))))), (77, Value.int .i64 (((a2n : Nat) : Int) + (1 : Int))), (76, Value.int .i64 ((a2n : Nat) : Int)), (75, Value.slice a2A a2n a2c), (74, Value.pointer (some ⟨blk2, 0 + 2, none⟩)), (73, Value.int .i64 a0), (72, Value.pointer (some ⟨blk2, 0 + 0, none⟩))] [.no, .v (Value.int .i64 a0), .no, .v (Value.slice a2A a2n a2c), .no, .no, .no, .no, .no, .v (Value.slice a2A a2n a2c), .no, .no, .v (.bool true), .no] ((LoadsAt Try.prog (fun x_ => St w x_ [Res.box blk2 [Value.int .i64 a0, Value.slice a1A a1n a1c, Value.slice a2A a2n a2c] 34]) 3 ⟨blk2, 0 + 0, none⟩ (Value.int .i64 a0)) ∧ (LoadsAt Try.prog (fun x_ => St w x_ [Res.box blk2 [Value.int .i64 a0, Value.slice a1A a1n a1c, Value.slice a2A a2n a2c] 34]) 32 ⟨blk2, 0 + 2, none⟩ (Value.slice a2A a2n a2c)) ∧ (InK .i64 (((a2n : Nat) : Int) + (1 : Int))) ∧ ((decide (a0 = (((a2n : Nat) : Int) + (1 : Int)))) = true) ∧ ((decide (a0 = (((a2n : Nat) : Int) + (1 : Int)))) = true) ∧ (LoadsAt Try.prog (fun x_ => St w x_ [Res.box blk2 [Value.int .i64 a0, Value.slice a1A a1n a1c, Value.slice a2A a2n a2c] 34]) 32 ⟨blk2, 0 + 2, none⟩ (Value.slice a2A a2n a2c)) ∧ ((decide (a0 = (((a2n : Nat) : Int) + (1 : Int)))) = true) ∧ ((decide (a0 = (((a2n : Nat) : Int) + (1 : Int)))) = true) ∧ ((decide (a0 = (((a2n : Nat) : Int) + (1 : Int)))) = true)) (by kernel_rfl) ⟨(ld_box (i := 0) rfl rfl (by kernel_rfl)), (ld_box (i := 0) rfl rfl (by kernel_rfl)), (in64 (by omega) (by omega)), (decide_eq_true (by omega)), (decide_eq_true (by omega)), (ld_box (i := 0) rfl rfl (by kernel_rfl)), (decide_eq_true (by omega)), (decide_eq_true (by omega)), (decide_eq_true (by omega))⟩ hS13 ?_
      rcases Bool.eq_false_or_eq_true (decide (((a2n : Nat) : Int) ≤ (24 : Int))) with hb17 | hb17
      · skip
        have hb17p := of_decide_eq_true hb17
        refine q_seg (S := (fun x_ => St w x_ [Res.box blk2 [Value.int .i64 a0, Value.slice a1A a1n a1c, Value.slice a2A a2n a2c] 34])) [(2, Value.bool (decide (((a1n : Nat) : Int) ≤ (8 : Int)))), (90, Value.bool (decide (((a1n : Nat) : Int) ≤ (8 : Int)))), (89, Value.bool (decide (((a1n : Nat) : Int) ≤ (8 : Int)))), (88, Value.int .i64 ((a1n : Nat) : Int)), (87, Value.slice a1A a1n a1c), (86, Value.pointer (some ⟨blk2, 0 + 1, none⟩))] [.no, .v (Value.slice a1A a1n a1c), .no, .no, .v (.bool true), .no] (((decide (((a2n : Nat) : Int) ≤ (24 : Int))) = true) ∧ ((decide (((a2n : Nat) : Int) ≤ (24 : Int))) = true) ∧ (LoadsAt Try.prog (fun x_ => St w x_ [Res.box blk2 [Value.int .i64 a0, Value.slice a1A a1n a1c, Value.slice a2A a2n a2c] 34]) 31 ⟨blk2, 0 + 1, none⟩ (Value.slice a1A a1n a1c)) ∧ ((decide (((a2n : Nat) : Int) ≤ (24 : Int))) = true) ∧ ((decide (((a2n : Nat) : Int) ≤ (24 : Int))) = true) ∧ ((decide (((a2n : Nat) : Int) ≤ (24 : Int))) = true)) (by kernel_rfl) ⟨hb17, hb17, (ld_box (i := 0) rfl rfl (by kernel_rfl)), hb17, hb17, hb17⟩ hS13 ?_
        refine l_nil rfl ?_
        refine then_n ?_
        refine wp_ret ?_
        exact c_end (S := (fun x_ => St w x_ [Res.box blk2 [Value.int .i64 a0, Value.slice a1A a1n a1c, Value.slice a2A a2n a2c] 34])) (rs := [.tmp 2]) rfl [] (v := Value.bool (decide (((a1n : Nat) : Int) ≤ (8 : Int)))) (C := True) (by kernel_rfl) trivial hS13 ((hS13.rv (congrArg Value.bool (vr_e (n := a1n) (m := a2n) (by rw [List.length_map]; exact hln) (by rw [List.length_map]; exact hln2) (by omega) (by omega) (by rw [show j = a2n by omega] at htj; exact htj) (by rw [show k = a1n by omega] at htk; exact htk)))))
      · skip
        have hb17p := of_decide_eq_false hb17
        refine q_seg (S := (fun x_ => St w x_ [Res.box blk2 [Value.int .i64 a0, Value.slice a1A a1n a1c, Value.slice a2A a2n a2c] 34])) [(2, Value.bool false), (90, Value.bool false), (89, undef), (88, undef), (87, undef), (86, undef)] [.skip, .skip, .skip, .skip, .v (.bool false), .no] (((decide (((a2n : Nat) : Int) ≤ (24 : Int))) = !true) ∧ ((decide (((a2n : Nat) : Int) ≤ (24 : Int))) = !true) ∧ ((decide (((a2n : Nat) : Int) ≤ (24 : Int))) = !true) ∧ ((decide (((a2n : Nat) : Int) ≤ (24 : Int))) = !true) ∧ ((decide (((a2n : Nat) : Int) ≤ (24 : Int))) = false)) (by kernel_rfl) ⟨hb17, hb17, hb17, hb17, hb17⟩ hS13 ?_
        refine l_nil rfl ?_
        refine then_n ?_
        refine wp_ret ?_
        exact c_end (S := (fun x_ => St w x_ [Res.box blk2 [Value.int .i64 a0, Value.slice a1A a1n a1c, Value.slice a2A a2n a2c] 34])) (rs := [.tmp 2]) rfl [] (v := Value.bool false) (C := True) (by kernel_rfl) trivial hS13 ((hS13.rv (congrArg Value.bool (vr_f2 (m := a2n) (by rw [List.length_map]; exact hln2) (by omega)))))
theorem IsValidReceiver_s_out (a0 : Int) (a1A : Option Addr) (a1n a1c : Nat) (a1L : List (Int × List Int)) (a2A : Option Addr) (a2n a2c : Nat) (a2L : List (Int × List Int)) (w : World) (a0h : I64 a0) (a1h : RdL .u8 true w w.heap.size a1A a1n a1L) (a1w : wt a1L ≤ 1099511627776) (a2h : RdL .u8 false w w.heap.size a2A a2n a2L) (a2w : wt a2L ≤ 1099511627776) (hR : a0 ≠ ((a2n : Nat) : Int) + 1) : Calls Try.prog 47 #[Value.agg #[Value.int .i64 a0, Value.slice a1A a1n a1c, Value.slice a2A a2n a2c]] w (RetV w (.bool (vrecv a0 a1L a2L))) := by
  obtain ⟨a0h1, a0h2⟩ := a0h
  have hm0 := a2h
  obtain ⟨hok, ys, hr, rfl⟩ := a1h
  have hwl := wt_len (ys.map (con true))
  have hln := hr.len
  rw [List.length_map] at hwl
  obtain ⟨hok2, zs, hr2, rfl⟩ := a2h
  have hwl2 := wt_len (zs.map (con false))
  have hln2 := hr2.len
  rw [List.length_map] at hwl2
  refine calls_FA Try.func47 rfl (n := 91) rfl (l := [(0, Value.agg #[Value.int .i64 a0, Value.slice a1A a1n a1c, Value.slice a2A a2n a2c])]) rfl (by simp) (fun g => ?_)
  have hS := St.init w
  refine wp_seq ?_
  refine c_reg ?_
  refine l_op rfl rfl (fun K hK => op_box (d := some 1) rfl rfl [Value.int .i64 a0, Value.slice a1A a1n a1c, Value.slice a2A a2n a2c] (by kernel_rfl) hS (fun blk2 w1 hS1 => hK _ _ ?_))
  clear hK K
  refine q_seg (S := (fun x_ => St w x_ [Res.box blk2 [Value.int .i64 a0, Value.slice a1A a1n a1c, Value.slice a2A a2n a2c] 34])) [(2, Value.bool false)] [.no] True (by kernel_rfl) trivial hS1 ?_
  refine l_nil rfl ?_
  refine then_n ?_
  refine wp_seq ?_
  refine wp_seq ?_
  refine c_reg ?_
  refine q_seg (S := (fun x_ => St w x_ [Res.box blk2 [Value.int .i64 a0, Value.slice a1A a1n a1c, Value.slice a2A a2n a2c] 34])) [(3, Value.int .i64 0)] [.no] True (by kernel_rfl) trivial hS1 ?_
  refine l_nil rfl ?_
  refine then_n ?_
  refine wp_block ?_
  refine c_loop (X := Nat) (fun (k : Nat) => [(1, Value.pointer (some ⟨blk2, 0, none⟩)), (3, Value.int .i64 ((k : Nat) : Int))]) (fun (k : Nat) (wr : World) => (k ≤ a1n) ∧ St w wr [Res.box blk2 [Value.int .i64 a0, Value.slice a1A a1n a1c, Value.slice a2A a2n a2c] 34]) (fun (k : Nat) => a1n - k) 0 ?_ ?_ ?_
  · exact (agree_cons (by kernel_rfl) (agree_cons (by kernel_rfl) agree_nil))
  · exact ⟨Nat.zero_le _, hS1⟩
  rintro k g4 w3 ⟨hkn, hS3⟩
  refine wp_seq ?_
  refine wp_seq ?_
  refine c_reg ?_
  refine q_seg (S := (fun x_ => St w x_ [Res.box blk2 [Value.int .i64 a0, Value.slice a1A a1n a1c, Value.slice a2A a2n a2c] 34])) [(9, Value.bool (decide (((k : Nat) : Int) < ((a1n : Nat) : Int)))), (8, Value.int .i64 ((a1n : Nat) : Int)), (7, Value.slice a1A a1n a1c), (6, Value.pointer (some ⟨blk2, 0 + 1, none⟩)), (5, Value.int .i64 ((k : Nat) : Int))] [.no, .no, .v (Value.slice a1A a1n a1c), .no, .no] ((LoadsAt Try.prog (fun x_ => St w x_ [Res.box blk2 [Value.int .i64 a0, Value.slice a1A a1n a1c, Value.slice a2A a2n a2c] 34]) 31 ⟨blk2, 0 + 1, none⟩ (Value.slice a1A a1n a1c))) (by kernel_rfl) (ld_box (i := 0) rfl rfl (by kernel_rfl)) hS3 ?_
  refine l_nil rfl ?_
  refine then_n ?_
  rcases Bool.eq_false_or_eq_true (decide (((k : Nat) : Int) < ((a1n : Nat) : Int))) with hb5 | hb5
  · skip
    have hb5p := of_decide_eq_true hb5
    obtain ⟨b, off, rfl, hbB, hcl⟩ := hr.at (k := k) (by omega)
    obtain ⟨y, hyk, hym⟩ := get_of_lt (l := ys) (k := k) (by have := hr.len; omega)
    obtain ⟨hy1, hy2, hy3⟩ := hr.el y hym
    obtain ⟨hyi, hyz⟩ := hok _ (List.mem_map_of_mem (f := (con true)) hym)
    have hyl : y.zs.length + 1 ≤ wt (ys.map (con true)) := wt_mem (List.mem_map_of_mem (f := (con true)) hym)
    unfold maxLen at hy3
    have hysi : I64 y.s := hyi
    obtain ⟨hysi1, hysi2⟩ := hysi
    refine c_true (b := (decide (((k : Nat) : Int) < ((a1n : Nat) : Int)))) (by kernel_rfl) hb5 ?_
    refine wp_skip ?_
    refine then_n ?_
    refine wp_seq ?_
    refine wp_block ?_
    refine wp_seq ?_
    refine c_drawn [] (by kernel_rfl) hS3 (fun w6 hS6 => ?_)
    refine t_seg (S := (fun x_ => St w x_ [Res.box blk2 [Value.int .i64 a0, Value.slice (some ⟨b, off, none⟩) a1n a1c, Value.slice a2A a2n a2c] 34])) [(0, .no), (2, .no), (6, .no), (9, .no), (1, .v (Value.slice (some ⟨b, off, none⟩) a1n a1c)), (7, .v (Value.int .i64 a0)), (10, .v (Value.int .i64 a0)), (3, .no), (8, .v (.int .i64 (IntKind.wrap .i64 (a0 + (1 : Int))))), (11, .v (.int .i64 (IntKind.wrap .i64 (a0 + (8 : Int))))), (4, .no), (12, .v (.int .i64 (IntKind.wrap .i64 ((IntKind.wrap .i64 (a0 + (8 : Int))) - (1 : Int))))), (5, .v (Value.int .i64 y.s))] 32 #[true, true, true, true, true, true, true, true, true, true, true, true, true, false, false, false, false, false, false, false, false, false, false, false, false, false, false, false, false, false, false, false, false, false, false, false, false, false, false, false, false, false, false, false, false] [(17, Value.int .i64 y.s), (24, Value.int .i64 (IntKind.wrap .i64 ((IntKind.wrap .i64 (a0 + (8 : Int))) - (1 : Int)))), (16, Value.pointer (some ⟨b, off + Int.toNat ((k : Nat) : Int) * 2 + 0, none⟩)), (23, Value.int .i64 (IntKind.wrap .i64 (a0 + (8 : Int)))), (20, Value.int .i64 (IntKind.wrap .i64 (a0 + (1 : Int)))), (15, Value.pointer (some ⟨b, off + Int.toNat ((k : Nat) : Int) * 2, none⟩)), (22, Value.int .i64 a0), (19, Value.int .i64 a0), (13, Value.slice (some ⟨b, off, none⟩) a1n a1c), (21, Value.pointer (some ⟨blk2, 0 + 0, none⟩)), (18, Value.pointer (some ⟨blk2, 0 + 0, none⟩)), (14, Value.int .i64 ((k : Nat) : Int)), (12, Value.pointer (some ⟨blk2, 0 + 1, none⟩))] ((LoadsAt Try.prog (fun x_ => St w x_ [Res.box blk2 [Value.int .i64 a0, Value.slice (some ⟨b, off, none⟩) a1n a1c, Value.slice a2A a2n a2c] 34]) 31 ⟨blk2, 0 + 1, none⟩ (Value.slice (some ⟨b, off, none⟩) a1n a1c)) ∧ (LoadsAt Try.prog (fun x_ => St w x_ [Res.box blk2 [Value.int .i64 a0, Value.slice (some ⟨b, off, none⟩) a1n a1c, Value.slice a2A a2n a2c] 34]) 3 ⟨blk2, 0 + 0, none⟩ (Value.int .i64 a0)) ∧ (LoadsAt Try.prog (fun x_ => St w x_ [Res.box blk2 [Value.int .i64 a0, Value.slice (some ⟨b, off, none⟩) a1n a1c, Value.slice a2A a2n a2c] 34]) 3 ⟨blk2, 0 + 0, none⟩ (Value.int .i64 a0)) ∧ ((0 : Int) ≤ ((k : Nat) : Int)) ∧ (((k : Nat) : Int) < ((a1n : Nat) : Int)) ∧ (IntKind.wrap .i64 (a0 + (1 : Int)) = (IntKind.wrap .i64 (a0 + (1 : Int)))) ∧ (IntKind.wrap .i64 (a0 + (8 : Int)) = (IntKind.wrap .i64 (a0 + (8 : Int)))) ∧ (IntKind.wrap .i64 ((IntKind.wrap .i64 (a0 + (8 : Int))) - (1 : Int)) = (IntKind.wrap .i64 ((IntKind.wrap .i64 (a0 + (8 : Int))) - (1 : Int)))) ∧ (LoadsAt Try.prog (fun x_ => St w x_ [Res.box blk2 [Value.int .i64 a0, Value.slice (some ⟨b, off, none⟩) a1n a1c, Value.slice a2A a2n a2c] 34]) 3 ⟨b, off + Int.toNat ((k : Nat) : Int) * 2 + 0, none⟩ (Value.int .i64 y.s))) (by kernel_rfl) (Qpanic.then (Qpanic.block (Qpanic.then (Qpanic.then (Qpanic.block (Qpanic.then Qpanic.bp)))))) rfl (by kernel_rfl) ⟨(ld_box (i := 0) rfl rfl (by kernel_rfl)), (ld_box (i := 0) rfl rfl (by kernel_rfl)), (ld_box (i := 0) rfl rfl (by kernel_rfl)), (by omega), (by omega), rfl, rfl, rfl, (ld_low (flat_cell (p := true) (r := 0) hcl hyk rfl) (by kernel_rfl))⟩ hS6 ?_
    refine a_op (i := 13) (fuel := 31) (listed' := #[true, true, true, true, true, true, true, true, true, true, true, true, true, true, false, false, false, false, false, false, false, false, false, false, false, false, false, false, false, false, false, false, false, false, false, false, false, false, false, false, false, false, false, false, false]) rfl rfl (by kernel_rfl) (by kernel_rfl) rfl (fun K hK => op_callv (d := some 25) rfl rfl ⟨_, Try.func64, by kernel_rfl, by kernel_rfl⟩ (vs := [Value.int .i64 y.s, Value.int .i64 (IntKind.wrap .i64 (a0 + (1 : Int))), Value.int .i64 (IntKind.wrap .i64 ((IntKind.wrap .i64 (a0 + (8 : Int))) - (1 : Int)))]) (by kernel_rfl) (v := Value.bool (inR y.s (IntKind.wrap .i64 (a0 + (1 : Int))) (IntKind.wrap .i64 ((IntKind.wrap .i64 (a0 + (8 : Int))) - (1 : Int))))) (l1In_c y.s (IntKind.wrap .i64 (a0 + (1 : Int))) (IntKind.wrap .i64 ((IntKind.wrap .i64 (a0 + (8 : Int))) - (1 : Int))) _) hS6 (fun w7 hS7 => hK _ _ (fun _ => hS7) ?_))
    clear hK K
    refine t_seg (S := (fun x_ => St w x_ [Res.box blk2 [Value.int .i64 a0, Value.slice (some ⟨b, off, none⟩) a1n a1c, Value.slice a2A a2n a2c] 34])) [(14, .no), (15, .no)] 29 #[true, true, true, true, true, true, true, true, true, true, true, true, true, true, true, true, false, false, false, false, false, false, false, false, false, false, false, false, false, false, false, false, false, false, false, false, false, false, false, false, false, false, false, false, false] [(27, Value.bool (!(inR y.s (IntKind.wrap .i64 (a0 + (1 : Int))) (IntKind.wrap .i64 ((IntKind.wrap .i64 (a0 + (8 : Int))) - (1 : Int)))))), (26, Value.bool (!(inR y.s (IntKind.wrap .i64 (a0 + (1 : Int))) (IntKind.wrap .i64 ((IntKind.wrap .i64 (a0 + (8 : Int))) - (1 : Int))))))] True (by kernel_rfl) (Qpanic.then (Qpanic.block (Qpanic.then (Qpanic.then (Qpanic.block (Qpanic.then Qpanic.bp)))))) rfl (by kernel_rfl) trivial hS7 ?_
    rcases Bool.eq_false_or_eq_true (inR y.s (IntKind.wrap .i64 (a0 + (1 : Int))) (IntKind.wrap .i64 ((IntKind.wrap .i64 (a0 + (8 : Int))) - (1 : Int)))) with hb8 | hb8
    · skip
      obtain ⟨hb8p, hb8q⟩ := inR_iff.1 hb8
      refine t_seg (S := (fun x_ => St w x_ [Res.box blk2 [Value.int .i64 a0, Value.slice (some ⟨b, off, none⟩) a1n a1c, Value.slice a2A a2n a2c] 34])) [(16, .no), (17, .no), (18, .no)] 26 #[true, true, true, true, true, true, true, true, true, true, true, true, true, true, true, true, true, true, true, false, false, false, false, false, false, false, false, false, false, false, false, false, false, false, false, false, false, false, false, false, false, false, false, false, false] [(30, Value.bool (decide ((0 : Int) < ((k : Nat) : Int)))), (29, Value.bool (decide ((0 : Int) < ((k : Nat) : Int)))), (28, Value.int .i64 ((k : Nat) : Int))] (((!(inR y.s (IntKind.wrap .i64 (a0 + (1 : Int))) (IntKind.wrap .i64 ((IntKind.wrap .i64 (a0 + (8 : Int))) - (1 : Int))))) = false) ∧ ((!(inR y.s (IntKind.wrap .i64 (a0 + (1 : Int))) (IntKind.wrap .i64 ((IntKind.wrap .i64 (a0 + (8 : Int))) - (1 : Int))))) = false) ∧ ((!(inR y.s (IntKind.wrap .i64 (a0 + (1 : Int))) (IntKind.wrap .i64 ((IntKind.wrap .i64 (a0 + (8 : Int))) - (1 : Int))))) = false)) (by kernel_rfl) (Qpanic.then (Qpanic.block (Qpanic.then (Qpanic.then (Qpanic.block (Qpanic.then Qpanic.bp)))))) rfl (by kernel_rfl) ⟨(nb (v := true) hb8), (nb (v := true) hb8), (nb (v := true) hb8)⟩ hS7 ?_
      rcases Bool.eq_false_or_eq_true (decide ((0 : Int) < ((k : Nat) : Int))) with hb9 | hb9
      · skip
        have hb9p := of_decide_eq_true hb9
        obtain ⟨x, hxk, hxm⟩ := get_of_lt (l := ys) (k := k - 1) (by have := hr.len; omega)
        refine t_seg (S := (fun x_ => St w x_ [Res.box blk2 [Value.int .i64 a0, Value.slice (some ⟨b, off, none⟩) a1n a1c, Value.slice a2A a2n a2c] 34])) [(19, .no), (21, .no), (26, .no), (28, .no), (20, .v (Value.slice (some ⟨b, off, none⟩) a1n a1c)), (22, .no), (27, .v (Value.slice (some ⟨b, off, none⟩) a1n a1c)), (23, .no), (29, .no), (24, .no), (30, .no), (25, .v (Value.int .i64 x.s)), (31, .v (Value.int .i64 y.s)), (32, .no), (33, .v (.bool true)), (34, .v (.bool false)), (35, .no)] 9 #[true, true, true, true, true, true, true, true, true, true, true, true, true, true, true, true, true, true, true, true, true, true, true, true, true, true, true, true, true, true, true, true, true, true, true, true, false, false, false, false, false, false, false, false, false] [(47, Value.bool (decide (y.s ≤ x.s))), (46, Value.bool (decide (y.s ≤ x.s))), (45, Value.bool (decide (y.s ≤ x.s))), (44, Value.bool (decide (y.s ≤ x.s))), (43, Value.int .i64 y.s), (37, Value.int .i64 x.s), (42, Value.pointer (some ⟨b, off + Int.toNat ((k : Nat) : Int) * 2 + 0, none⟩)), (36, Value.pointer (some ⟨b, off + Int.toNat (((k : Nat) : Int) - (1 : Int)) * 2 + 0, none⟩)), (41, Value.pointer (some ⟨b, off + Int.toNat ((k : Nat) : Int) * 2, none⟩)), (35, Value.pointer (some ⟨b, off + Int.toNat (((k : Nat) : Int) - (1 : Int)) * 2, none⟩)), (39, Value.slice (some ⟨b, off, none⟩) a1n a1c), (34, Value.int .i64 (((k : Nat) : Int) - (1 : Int))), (32, Value.slice (some ⟨b, off, none⟩) a1n a1c), (40, Value.int .i64 ((k : Nat) : Int)), (38, Value.pointer (some ⟨blk2, 0 + 1, none⟩)), (33, Value.int .i64 ((k : Nat) : Int)), (31, Value.pointer (some ⟨blk2, 0 + 1, none⟩))] (((decide ((0 : Int) < ((k : Nat) : Int))) = true) ∧ ((decide ((0 : Int) < ((k : Nat) : Int))) = true) ∧ ((decide ((0 : Int) < ((k : Nat) : Int))) = true) ∧ ((decide ((0 : Int) < ((k : Nat) : Int))) = true) ∧ ((decide ((0 : Int) < ((k : Nat) : Int))) = true) ∧ (LoadsAt Try.prog (fun x_ => St w x_ [Res.box blk2 [Value.int .i64 a0, Value.slice (some ⟨b, off, none⟩) a1n a1c, Value.slice a2A a2n a2c] 34]) 31 ⟨blk2, 0 + 1, none⟩ (Value.slice (some ⟨b, off, none⟩) a1n a1c)) ∧ ((decide ((0 : Int) < ((k : Nat) : Int))) = true) ∧ (InK .i64 (((k : Nat) : Int) - (1 : Int))) ∧ ((decide ((0 : Int) < ((k : Nat) : Int))) = true) ∧ (LoadsAt Try.prog (fun x_ => St w x_ [Res.box blk2 [Value.int .i64 a0, Value.slice (some ⟨b, off, none⟩) a1n a1c, Value.slice a2A a2n a2c] 34]) 31 ⟨blk2, 0 + 1, none⟩ (Value.slice (some ⟨b, off, none⟩) a1n a1c)) ∧ ((decide ((0 : Int) < ((k : Nat) : Int))) = true) ∧ ((0 : Int) ≤ (((k : Nat) : Int) - (1 : Int))) ∧ ((((k : Nat) : Int) - (1 : Int)) < ((a1n : Nat) : Int)) ∧ ((decide ((0 : Int) < ((k : Nat) : Int))) = true) ∧ ((0 : Int) ≤ ((k : Nat) : Int)) ∧ (((k : Nat) : Int) < ((a1n : Nat) : Int)) ∧ ((decide ((0 : Int) < ((k : Nat) : Int))) = true) ∧ ((decide ((0 : Int) < ((k : Nat) : Int))) = true) ∧ ((decide ((0 : Int) < ((k : Nat) : Int))) = true) ∧ (LoadsAt Try.prog (fun x_ => St w x_ [Res.box blk2 [Value.int .i64 a0, Value.slice (some ⟨b, off, none⟩) a1n a1c, Value.slice a2A a2n a2c] 34]) 3 ⟨b, off + Int.toNat (((k : Nat) : Int) - (1 : Int)) * 2 + 0, none⟩ (Value.int .i64 x.s)) ∧ ((decide ((0 : Int) < ((k : Nat) : Int))) = true) ∧ (LoadsAt Try.prog (fun x_ => St w x_ [Res.box blk2 [Value.int .i64 a0, Value.slice (some ⟨b, off, none⟩) a1n a1c, Value.slice a2A a2n a2c] 34]) 3 ⟨b, off + Int.toNat ((k : Nat) : Int) * 2 + 0, none⟩ (Value.int .i64 y.s)) ∧ ((decide ((0 : Int) < ((k : Nat) : Int))) = true) ∧ ((!(inR y.s (IntKind.wrap .i64 (a0 + (1 : Int))) (IntKind.wrap .i64 ((IntKind.wrap .i64 (a0 + (8 : Int))) - (1 : Int))))) = false) ∧ ((decide ((0 : Int) < ((k : Nat) : Int))) = true) ∧ ((!(inR y.s (IntKind.wrap .i64 (a0 + (1 : Int))) (IntKind.wrap .i64 ((IntKind.wrap .i64 (a0 + (8 : Int))) - (1 : Int))))) = false)) (by kernel_rfl) (Qpanic.then (Qpanic.block (Qpanic.then (Qpanic.then (Qpanic.block (Qpanic.then Qpanic.bp)))))) rfl (by kernel_rfl) ⟨hb9, hb9, hb9, hb9, hb9, (ld_box (i := 0) rfl rfl (by kernel_rfl)), hb9, (in64 (by omega) (by omega)), hb9, (ld_box (i := 0) rfl rfl (by kernel_rfl)), hb9, (by omega), (by omega), hb9, (by omega), (by omega), hb9, hb9, hb9, (ld_low (flat_cellI (p := true) (r := 0) hcl (by omega) hxk rfl) (by kernel_rfl)), hb9, (ld_low (flat_cell (p := true) (r := 0) hcl hyk rfl) (by kernel_rfl)), hb9, (nb (v := true) hb8), hb9, (nb (v := true) hb8)⟩ hS7 ?_
        rcases Bool.eq_false_or_eq_true (decide (y.s ≤ x.s)) with hb10 | hb10
        · skip
          have hb10p := of_decide_eq_true hb10
          refine t_seg (S := (fun x_ => St w x_ [Res.box blk2 [Value.int .i64 a0, Value.slice (some ⟨b, off, none⟩) a1n a1c, Value.slice a2A a2n a2c] 34])) [(36, .skip), (38, .skip), (37, .skip), (39, .skip), (40, .skip), (41, .skip), (42, .skip), (43, .skip), (44, .v (.bool true))] 0 #[true, true, true, true, true, true, true, true, true, true, true, true, true, true, true, true, true, true, true, true, true, true, true, true, true, true, true, true, true, true, true, true, true, true, true, true, true, true, true, true, true, true, true, true, true] [(56, Value.bool true), (55, undef), (54, undef), (53, undef), (52, undef), (51, undef), (49, undef), (50, undef), (48, undef)] (((decide (y.s ≤ x.s)) = !false) ∧ ((decide (y.s ≤ x.s)) = !false) ∧ ((decide (y.s ≤ x.s)) = !false) ∧ ((decide (y.s ≤ x.s)) = !false) ∧ ((decide (y.s ≤ x.s)) = !false) ∧ ((decide (y.s ≤ x.s)) = !false) ∧ ((decide (y.s ≤ x.s)) = !false) ∧ ((decide (y.s ≤ x.s)) = !false) ∧ ((decide (y.s ≤ x.s)) = true)) (by kernel_rfl) (Qpanic.then (Qpanic.block (Qpanic.then (Qpanic.then (Qpanic.block (Qpanic.then Qpanic.bp)))))) rfl (by kernel_rfl) ⟨hb10, hb10, hb10, hb10, hb10, hb10, hb10, hb10, hb10⟩ hS7 ?_
          refine a_done (by kernel_rfl) ?_
          refine then_n ?_
          refine c_true (b := true) (by kernel_rfl) rfl ?_
          refine wp_seq ?_
          refine c_reg ?_
          refine q_seg (S := (fun x_ => St w x_ [Res.box blk2 [Value.int .i64 a0, Value.slice (some ⟨b, off, none⟩) a1n a1c, Value.slice a2A a2n a2c] 34])) [(2, Value.bool false)] [.no] True (by kernel_rfl) trivial hS7 ?_
          refine l_nil rfl ?_
          refine then_n ?_
          refine wp_ret ?_
          refine blk_r ?_
          refine then_r ?_
          refine then_r ?_
          refine blk_r ?_
          refine then_r ?_
          exact c_end (S := (fun x_ => St w x_ [Res.box blk2 [Value.int .i64 a0, Value.slice (some ⟨b, off, none⟩) a1n a1c, Value.slice a2A a2n a2c] 34])) (rs := [.tmp 2]) rfl [] (v := Value.bool false) (C := True) (by kernel_rfl) trivial hS7 ((hS7.rv (congrArg Value.bool (vr_f1 (m := a2n) (by rw [List.length_map]; exact hln2) hR))))
        · skip
          have hb10p := of_decide_eq_false hb10
          refine t_seg (S := (fun x_ => St w x_ [Res.box blk2 [Value.int .i64 a0, Value.slice (some ⟨b, off, none⟩) a1n a1c, Value.slice a2A a2n a2c] 34])) [(36, .no), (38, .no), (37, .v (Value.slice (some ⟨b, off, none⟩) a1n a1c)), (39, .no), (40, .no), (41, .v (Value.slice y.A y.zs.length y.c)), (42, .no), (43, .no), (44, .v (.bool false))] 0 #[true, true, true, true, true, true, true, true, true, true, true, true, true, true, true, true, true, true, true, true, true, true, true, true, true, true, true, true, true, true, true, true, true, true, true, true, true, true, true, true, true, true, true, true, true] [(56, Value.bool (decide ((60 : Int) < ((y.zs.length : Nat) : Int)))), (55, Value.bool (decide ((60 : Int) < ((y.zs.length : Nat) : Int)))), (54, Value.int .i64 ((y.zs.length : Nat) : Int)), (53, Value.slice y.A y.zs.length y.c), (52, Value.pointer (some ⟨b, off + Int.toNat ((k : Nat) : Int) * 2 + 1, none⟩)), (51, Value.pointer (some ⟨b, off + Int.toNat ((k : Nat) : Int) * 2, none⟩)), (49, Value.slice (some ⟨b, off, none⟩) a1n a1c), (50, Value.int .i64 ((k : Nat) : Int)), (48, Value.pointer (some ⟨blk2, 0 + 1, none⟩))] (((decide (y.s ≤ x.s)) = false) ∧ ((decide (y.s ≤ x.s)) = false) ∧ ((decide (y.s ≤ x.s)) = false) ∧ (LoadsAt Try.prog (fun x_ => St w x_ [Res.box blk2 [Value.int .i64 a0, Value.slice (some ⟨b, off, none⟩) a1n a1c, Value.slice a2A a2n a2c] 34]) 31 ⟨blk2, 0 + 1, none⟩ (Value.slice (some ⟨b, off, none⟩) a1n a1c)) ∧ ((decide (y.s ≤ x.s)) = false) ∧ ((0 : Int) ≤ ((k : Nat) : Int)) ∧ (((k : Nat) : Int) < ((a1n : Nat) : Int)) ∧ ((decide (y.s ≤ x.s)) = false) ∧ ((decide (y.s ≤ x.s)) = false) ∧ (LoadsAt Try.prog (fun x_ => St w x_ [Res.box blk2 [Value.int .i64 a0, Value.slice (some ⟨b, off, none⟩) a1n a1c, Value.slice a2A a2n a2c] 34]) 26 ⟨b, off + Int.toNat ((k : Nat) : Int) * 2 + 1, none⟩ (Value.slice y.A y.zs.length y.c)) ∧ ((decide (y.s ≤ x.s)) = false) ∧ ((decide (y.s ≤ x.s)) = false) ∧ ((decide (y.s ≤ x.s)) = false)) (by kernel_rfl) (Qpanic.then (Qpanic.block (Qpanic.then (Qpanic.then (Qpanic.block (Qpanic.then Qpanic.bp)))))) rfl (by kernel_rfl) ⟨hb10, hb10, hb10, (ld_box (i := 0) rfl rfl (by kernel_rfl)), hb10, (by omega), (by omega), hb10, hb10, (ld_low (flat_cell (p := true) (r := 1) hcl hyk rfl) (by kernel_rfl)), hb10, hb10, hb10⟩ hS7 ?_
          refine a_done (by kernel_rfl) ?_
          refine then_n ?_
          rcases Bool.eq_false_or_eq_true (decide ((60 : Int) < ((y.zs.length : Nat) : Int))) with hb11 | hb11
          · skip
            have hb11p := of_decide_eq_true hb11
            refine c_true (b := (decide ((60 : Int) < ((y.zs.length : Nat) : Int)))) (by kernel_rfl) hb11 ?_
            refine wp_seq ?_
            refine c_reg ?_
            refine q_seg (S := (fun x_ => St w x_ [Res.box blk2 [Value.int .i64 a0, Value.slice (some ⟨b, off, none⟩) a1n a1c, Value.slice a2A a2n a2c] 34])) [(2, Value.bool false)] [.no] True (by kernel_rfl) trivial hS7 ?_
            refine l_nil rfl ?_
            refine then_n ?_
            refine wp_ret ?_
            refine blk_r ?_
            refine then_r ?_
            refine then_r ?_
            refine blk_r ?_
            refine then_r ?_
            exact c_end (S := (fun x_ => St w x_ [Res.box blk2 [Value.int .i64 a0, Value.slice (some ⟨b, off, none⟩) a1n a1c, Value.slice a2A a2n a2c] 34])) (rs := [.tmp 2]) rfl [] (v := Value.bool false) (C := True) (by kernel_rfl) trivial hS7 ((hS7.rv (congrArg Value.bool (vr_f1 (m := a2n) (by rw [List.length_map]; exact hln2) hR))))
          · skip
            have hb11p := of_decide_eq_false hb11
            refine c_false (b := (decide ((60 : Int) < ((y.zs.length : Nat) : Int)))) (by kernel_rfl) hb11 ?_
            refine wp_skip ?_
            refine blk_n ?_
            refine then_n ?_
            refine c_reg ?_
            refine q_seg (S := (fun x_ => St w x_ [Res.box blk2 [Value.int .i64 a0, Value.slice (some ⟨b, off, none⟩) a1n a1c, Value.slice a2A a2n a2c] 34])) [(3, Value.int .i64 (((k : Nat) : Int) + (1 : Int))), (11, Value.int .i64 (((k : Nat) : Int) + (1 : Int))), (10, Value.int .i64 ((k : Nat) : Int))] [.no, .no, .no] ((InK .i64 (((k : Nat) : Int) + (1 : Int)))) (by kernel_rfl) (in64 (by omega) (by omega)) hS7 ?_
            refine l_nil rfl ?_
            refine then_n ?_
            refine round_end (k + 1) ?_ ?_ ?_
            · exact (agree_cons (by kernel_rfl) (agree_cons (by kernel_rfl) agree_nil))
            · exact ⟨(by omega), hS7⟩
            · exact (by first | omega | (dsimp only; omega))
      · skip
        have hb9p := of_decide_eq_false hb9
        refine t_seg (S := (fun x_ => St w x_ [Res.box blk2 [Value.int .i64 a0, Value.slice (some ⟨b, off, none⟩) a1n a1c, Value.slice a2A a2n a2c] 34])) [(19, .skip), (21, .skip), (26, .skip), (28, .skip), (20, .skip), (22, .skip), (27, .skip), (23, .skip), (29, .skip), (24, .skip), (30, .skip), (25, .skip), (31, .skip), (32, .skip), (33, .v (.bool false)), (34, .v (.bool false)), (35, .no), (36, .no), (38, .no), (37, .v (Value.slice (some ⟨b, off, none⟩) a1n a1c)), (39, .no), (40, .no), (41, .v (Value.slice y.A y.zs.length y.c)), (42, .no), (43, .no), (44, .v (.bool false))] 0 #[true, true, true, true, true, true, true, true, true, true, true, true, true, true, true, true, true, true, true, true, true, true, true, true, true, true, true, true, true, true, true, true, true, true, true, true, true, true, true, true, true, true, true, true, true] [(56, Value.bool (decide ((60 : Int) < ((y.zs.length : Nat) : Int)))), (55, Value.bool (decide ((60 : Int) < ((y.zs.length : Nat) : Int)))), (54, Value.int .i64 ((y.zs.length : Nat) : Int)), (53, Value.slice y.A y.zs.length y.c), (52, Value.pointer (some ⟨b, off + Int.toNat ((k : Nat) : Int) * 2 + 1, none⟩)), (51, Value.pointer (some ⟨b, off + Int.toNat ((k : Nat) : Int) * 2, none⟩)), (49, Value.slice (some ⟨b, off, none⟩) a1n a1c), (50, Value.int .i64 ((k : Nat) : Int)), (48, Value.pointer (some ⟨blk2, 0 + 1, none⟩)), (47, Value.bool false), (46, Value.bool false), (45, Value.bool false), (44, undef), (43, undef), (37, undef), (42, undef), (36, undef), (41, undef), (35, undef), (39, undef), (34, undef), (32, undef), (40, undef), (38, undef), (33, undef), (31, undef)] (((decide ((0 : Int) < ((k : Nat) : Int))) = !true) ∧ ((decide ((0 : Int) < ((k : Nat) : Int))) = !true) ∧ ((decide ((0 : Int) < ((k : Nat) : Int))) = !true) ∧ ((decide ((0 : Int) < ((k : Nat) : Int))) = !true) ∧ ((decide ((0 : Int) < ((k : Nat) : Int))) = !true) ∧ ((decide ((0 : Int) < ((k : Nat) : Int))) = !true) ∧ ((decide ((0 : Int) < ((k : Nat) : Int))) = !true) ∧ ((decide ((0 : Int) < ((k : Nat) : Int))) = !true) ∧ ((decide ((0 : Int) < ((k : Nat) : Int))) = !true) ∧ ((decide ((0 : Int) < ((k : Nat) : Int))) = !true) ∧ ((decide ((0 : Int) < ((k : Nat) : Int))) = !true) ∧ ((decide ((0 : Int) < ((k : Nat) : Int))) = !true) ∧ ((decide ((0 : Int) < ((k : Nat) : Int))) = !true) ∧ ((decide ((0 : Int) < ((k : Nat) : Int))) = !true) ∧ ((!(inR y.s (IntKind.wrap .i64 (a0 + (1 : Int))) (IntKind.wrap .i64 ((IntKind.wrap .i64 (a0 + (8 : Int))) - (1 : Int))))) = false) ∧ ((decide ((0 : Int) < ((k : Nat) : Int))) = false) ∧ ((!(inR y.s (IntKind.wrap .i64 (a0 + (1 : Int))) (IntKind.wrap .i64 ((IntKind.wrap .i64 (a0 + (8 : Int))) - (1 : Int))))) = false) ∧ (false = false) ∧ (false = false) ∧ (false = false) ∧ (LoadsAt Try.prog (fun x_ => St w x_ [Res.box blk2 [Value.int .i64 a0, Value.slice (some ⟨b, off, none⟩) a1n a1c, Value.slice a2A a2n a2c] 34]) 31 ⟨blk2, 0 + 1, none⟩ (Value.slice (some ⟨b, off, none⟩) a1n a1c)) ∧ (false = false) ∧ ((0 : Int) ≤ ((k : Nat) : Int)) ∧ (((k : Nat) : Int) < ((a1n : Nat) : Int)) ∧ (false = false) ∧ (false = false) ∧ (LoadsAt Try.prog (fun x_ => St w x_ [Res.box blk2 [Value.int .i64 a0, Value.slice (some ⟨b, off, none⟩) a1n a1c, Value.slice a2A a2n a2c] 34]) 26 ⟨b, off + Int.toNat ((k : Nat) : Int) * 2 + 1, none⟩ (Value.slice y.A y.zs.length y.c)) ∧ (false = false) ∧ (false = false) ∧ (false = false)) (by kernel_rfl) (Qpanic.then (Qpanic.block (Qpanic.then (Qpanic.then (Qpanic.block (Qpanic.then Qpanic.bp)))))) rfl (by kernel_rfl) ⟨hb9, hb9, hb9, hb9, hb9, hb9, hb9, hb9, hb9, hb9, hb9, hb9, hb9, hb9, (nb (v := true) hb8), hb9, (nb (v := true) hb8), rfl, rfl, rfl, (ld_box (i := 0) rfl rfl (by kernel_rfl)), rfl, (by omega), (by omega), rfl, rfl, (ld_low (flat_cell (p := true) (r := 1) hcl hyk rfl) (by kernel_rfl)), rfl, rfl, rfl⟩ hS7 ?_
        refine a_done (by kernel_rfl) ?_
        refine then_n ?_
        rcases Bool.eq_false_or_eq_true (decide ((60 : Int) < ((y.zs.length : Nat) : Int))) with hb12 | hb12
        · skip
          have hb12p := of_decide_eq_true hb12
          refine c_true (b := (decide ((60 : Int) < ((y.zs.length : Nat) : Int)))) (by kernel_rfl) hb12 ?_
          refine wp_seq ?_
          refine c_reg ?_
          refine q_seg (S := (fun x_ => St w x_ [Res.box blk2 [Value.int .i64 a0, Value.slice (some ⟨b, off, none⟩) a1n a1c, Value.slice a2A a2n a2c] 34])) [(2, Value.bool false)] [.no] True (by kernel_rfl) trivial hS7 ?_
          refine l_nil rfl ?_
          refine then_n ?_
          refine wp_ret ?_
          refine blk_r ?_
          refine then_r ?_
          refine then_r ?_
          refine blk_r ?_
          refine then_r ?_
          exact c_end (S := (fun x_ => St w x_ [Res.box blk2 [Value.int .i64 a0, Value.slice (some ⟨b, off, none⟩) a1n a1c, Value.slice a2A a2n a2c] 34])) (rs := [.tmp 2]) rfl [] (v := Value.bool false) (C := True) (by kernel_rfl) trivial hS7 ((hS7.rv (congrArg Value.bool (vr_f1 (m := a2n) (by rw [List.length_map]; exact hln2) hR))))
        · skip
          have hb12p := of_decide_eq_false hb12
          refine c_false (b := (decide ((60 : Int) < ((y.zs.length : Nat) : Int)))) (by kernel_rfl) hb12 ?_
          refine wp_skip ?_
          refine blk_n ?_
          refine then_n ?_
          refine c_reg ?_
          refine q_seg (S := (fun x_ => St w x_ [Res.box blk2 [Value.int .i64 a0, Value.slice (some ⟨b, off, none⟩) a1n a1c, Value.slice a2A a2n a2c] 34])) [(3, Value.int .i64 (((k : Nat) : Int) + (1 : Int))), (11, Value.int .i64 (((k : Nat) : Int) + (1 : Int))), (10, Value.int .i64 ((k : Nat) : Int))] [.no, .no, .no] ((InK .i64 (((k : Nat) : Int) + (1 : Int)))) (by kernel_rfl) (in64 (by omega) (by omega)) hS7 ?_
          refine l_nil rfl ?_
          refine then_n ?_
          refine round_end (k + 1) ?_ ?_ ?_
          · exact (agree_cons (by kernel_rfl) (agree_cons (by kernel_rfl) agree_nil))
          · exact ⟨(by omega), hS7⟩
          · exact (by first | omega | (dsimp only; omega))
    · skip
      have hb8p := inR_neg hb8
      refine t_seg (S := (fun x_ => St w x_ [Res.box blk2 [Value.int .i64 a0, Value.slice (some ⟨b, off, none⟩) a1n a1c, Value.slice a2A a2n a2c] 34])) [(16, .skip), (17, .skip), (18, .skip), (19, .skip), (21, .skip), (26, .skip), (28, .skip), (20, .skip), (22, .skip), (27, .skip), (23, .skip), (29, .skip), (24, .skip), (30, .skip), (25, .skip), (31, .skip), (32, .skip), (33, .skip), (34, .v (.bool true)), (35, .no), (36, .skip), (38, .skip), (37, .skip), (39, .skip), (40, .skip), (41, .skip), (42, .skip), (43, .skip), (44, .v (.bool true))] 0 #[true, true, true, true, true, true, true, true, true, true, true, true, true, true, true, true, true, true, true, true, true, true, true, true, true, true, true, true, true, true, true, true, true, true, true, true, true, true, true, true, true, true, true, true, true] [(56, Value.bool true), (55, undef), (54, undef), (53, undef), (52, undef), (51, undef), (49, undef), (50, undef), (48, undef), (47, Value.bool true), (46, Value.bool true), (45, undef), (44, undef), (43, undef), (37, undef), (42, undef), (36, undef), (41, undef), (35, undef), (39, undef), (34, undef), (32, undef), (40, undef), (38, undef), (33, undef), (31, undef), (30, undef), (29, undef), (28, undef)] (((!(inR y.s (IntKind.wrap .i64 (a0 + (1 : Int))) (IntKind.wrap .i64 ((IntKind.wrap .i64 (a0 + (8 : Int))) - (1 : Int))))) = !false) ∧ ((!(inR y.s (IntKind.wrap .i64 (a0 + (1 : Int))) (IntKind.wrap .i64 ((IntKind.wrap .i64 (a0 + (8 : Int))) - (1 : Int))))) = !false) ∧ ((!(inR y.s (IntKind.wrap .i64 (a0 + (1 : Int))) (IntKind.wrap .i64 ((IntKind.wrap .i64 (a0 + (8 : Int))) - (1 : Int))))) = !false) ∧ ((!(inR y.s (IntKind.wrap .i64 (a0 + (1 : Int))) (IntKind.wrap .i64 ((IntKind.wrap .i64 (a0 + (8 : Int))) - (1 : Int))))) = !false) ∧ ((!(inR y.s (IntKind.wrap .i64 (a0 + (1 : Int))) (IntKind.wrap .i64 ((IntKind.wrap .i64 (a0 + (8 : Int))) - (1 : Int))))) = true) ∧ (true = !false) ∧ (true = !false) ∧ (true = !false) ∧ (true = !false) ∧ (true = !false) ∧ (true = !false) ∧ (true = !false) ∧ (true = !false) ∧ (true = true)) (by kernel_rfl) (Qpanic.then (Qpanic.block (Qpanic.then (Qpanic.then (Qpanic.block (Qpanic.then Qpanic.bp)))))) rfl (by kernel_rfl) ⟨(nb (v := false) hb8), (nb (v := false) hb8), (nb (v := false) hb8), (nb (v := false) hb8), (nb (v := false) hb8), rfl, rfl, rfl, rfl, rfl, rfl, rfl, rfl, rfl⟩ hS7 ?_
      refine a_done (by kernel_rfl) ?_
      refine then_n ?_
      refine c_true (b := true) (by kernel_rfl) rfl ?_
      refine wp_seq ?_
      refine c_reg ?_
      refine q_seg (S := (fun x_ => St w x_ [Res.box blk2 [Value.int .i64 a0, Value.slice (some ⟨b, off, none⟩) a1n a1c, Value.slice a2A a2n a2c] 34])) [(2, Value.bool false)] [.no] True (by kernel_rfl) trivial hS7 ?_
      refine l_nil rfl ?_
      refine then_n ?_
      refine wp_ret ?_
      refine blk_r ?_
      refine then_r ?_
      refine then_r ?_
      refine blk_r ?_
      refine then_r ?_
      exact c_end (S := (fun x_ => St w x_ [Res.box blk2 [Value.int .i64 a0, Value.slice (some ⟨b, off, none⟩) a1n a1c, Value.slice a2A a2n a2c] 34])) (rs := [.tmp 2]) rfl [] (v := Value.bool false) (C := True) (by kernel_rfl) trivial hS7 ((hS7.rv (congrArg Value.bool (vr_f1 (m := a2n) (by rw [List.length_map]; exact hln2) hR))))
  · skip
    have hb5p := of_decide_eq_false hb5
    refine c_false (b := (decide (((k : Nat) : Int) < ((a1n : Nat) : Int)))) (by kernel_rfl) hb5 ?_
    refine wp_exit ?_
    refine then_x ?_
    refine then_x ?_
    refine blk_hit ?_
    refine then_n ?_
    refine wp_seq ?_
    refine wp_seq ?_
    refine c_reg ?_
    refine q_seg (S := (fun x_ => St w x_ [Res.box blk2 [Value.int .i64 a0, Value.slice a1A a1n a1c, Value.slice a2A a2n a2c] 34])) [(4, Value.int .i64 0)] [.no] True (by kernel_rfl) trivial hS3 ?_
    refine l_nil rfl ?_
    refine then_n ?_
    refine wp_block ?_
    refine c_loop (X := Nat) (fun (j : Nat) => [(1, Value.pointer (some ⟨blk2, 0, none⟩)), (4, Value.int .i64 ((j : Nat) : Int))]) (fun (j : Nat) (wr : World) => (j ≤ a2n) ∧ St w wr [Res.box blk2 [Value.int .i64 a0, Value.slice a1A a1n a1c, Value.slice a2A a2n a2c] 34]) (fun (j : Nat) => a2n - j) 0 ?_ ?_ ?_
    · exact (agree_cons (by kernel_rfl) (agree_cons (by kernel_rfl) agree_nil))
    · exact ⟨Nat.zero_le _, hS3⟩
    rintro j g14 w13 ⟨hjn, hS13⟩
    refine wp_seq ?_
    refine wp_seq ?_
    refine c_reg ?_
    refine q_seg (S := (fun x_ => St w x_ [Res.box blk2 [Value.int .i64 a0, Value.slice a1A a1n a1c, Value.slice a2A a2n a2c] 34])) [(61, Value.bool (decide (((j : Nat) : Int) < ((a2n : Nat) : Int)))), (60, Value.int .i64 ((a2n : Nat) : Int)), (59, Value.slice a2A a2n a2c), (58, Value.pointer (some ⟨blk2, 0 + 2, none⟩)), (57, Value.int .i64 ((j : Nat) : Int))] [.no, .no, .v (Value.slice a2A a2n a2c), .no, .no] ((LoadsAt Try.prog (fun x_ => St w x_ [Res.box blk2 [Value.int .i64 a0, Value.slice a1A a1n a1c, Value.slice a2A a2n a2c] 34]) 32 ⟨blk2, 0 + 2, none⟩ (Value.slice a2A a2n a2c))) (by kernel_rfl) (ld_box (i := 0) rfl rfl (by kernel_rfl)) hS13 ?_
    refine l_nil rfl ?_
    refine then_n ?_
    rcases Bool.eq_false_or_eq_true (decide (((j : Nat) : Int) < ((a2n : Nat) : Int))) with hb15 | hb15
    · skip
      have hb15p := of_decide_eq_true hb15
      obtain ⟨b2, off2, rfl, hbB2, hcl2⟩ := hr2.at (k := j) (by omega)
      obtain ⟨z, hzk, hzm⟩ := get_of_lt (l := zs) (k := j) (by have := hr2.len; omega)
      obtain ⟨hz1, hz2, hz3⟩ := hr2.el z hzm
      obtain ⟨hzi, hzz⟩ := hok2 _ (List.mem_map_of_mem (f := (con false)) hzm)
      have hzl : z.zs.length + 1 ≤ wt (zs.map (con false)) := wt_mem (List.mem_map_of_mem (f := (con false)) hzm)
      unfold maxLen at hz3
      refine c_true (b := (decide (((j : Nat) : Int) < ((a2n : Nat) : Int)))) (by kernel_rfl) hb15 ?_
      refine wp_skip ?_
      refine then_n ?_
      refine wp_seq ?_
      refine wp_block ?_
      refine wp_seq ?_
      refine c_reg ?_
      refine q_seg (S := (fun x_ => St w x_ [Res.box blk2 [Value.int .i64 a0, Value.slice a1A a1n a1c, Value.slice (some ⟨b2, off2, none⟩) a2n a2c] 34])) [(71, Value.bool (decide ((60 : Int) < ((z.zs.length : Nat) : Int)))), (70, Value.int .i64 ((z.zs.length : Nat) : Int)), (69, Value.slice z.A z.zs.length z.c), (68, Value.pointer (some ⟨b2, off2 + Int.toNat ((j : Nat) : Int) * 1 + 0, none⟩)), (67, Value.pointer (some ⟨b2, off2 + Int.toNat ((j : Nat) : Int) * 1, none⟩)), (66, Value.int .i64 ((j : Nat) : Int)), (65, Value.slice (some ⟨b2, off2, none⟩) a2n a2c), (64, Value.pointer (some ⟨blk2, 0 + 2, none⟩))] [.no, .v (Value.slice (some ⟨b2, off2, none⟩) a2n a2c), .no, .no, .no, .v (Value.slice z.A z.zs.length z.c), .no, .no] ((LoadsAt Try.prog (fun x_ => St w x_ [Res.box blk2 [Value.int .i64 a0, Value.slice a1A a1n a1c, Value.slice (some ⟨b2, off2, none⟩) a2n a2c] 34]) 32 ⟨blk2, 0 + 2, none⟩ (Value.slice (some ⟨b2, off2, none⟩) a2n a2c)) ∧ ((0 : Int) ≤ ((j : Nat) : Int)) ∧ (((j : Nat) : Int) < ((a2n : Nat) : Int)) ∧ (LoadsAt Try.prog (fun x_ => St w x_ [Res.box blk2 [Value.int .i64 a0, Value.slice a1A a1n a1c, Value.slice (some ⟨b2, off2, none⟩) a2n a2c] 34]) 26 ⟨b2, off2 + Int.toNat ((j : Nat) : Int) * 1 + 0, none⟩ (Value.slice z.A z.zs.length z.c))) (by kernel_rfl) ⟨(ld_box (i := 0) rfl rfl (by kernel_rfl)), (by omega), (by omega), (ld_low (flat_cell (p := false) (r := 0) hcl2 hzk rfl) (by kernel_rfl))⟩ hS13 ?_
      refine l_nil rfl ?_
      refine then_n ?_
      rcases Bool.eq_false_or_eq_true (decide ((60 : Int) < ((z.zs.length : Nat) : Int))) with hb16 | hb16
      · skip
        have hb16p := of_decide_eq_true hb16
        refine c_true (b := (decide ((60 : Int) < ((z.zs.length : Nat) : Int)))) (by kernel_rfl) hb16 ?_
        refine wp_seq ?_
        refine c_reg ?_
        refine q_seg (S := (fun x_ => St w x_ [Res.box blk2 [Value.int .i64 a0, Value.slice a1A a1n a1c, Value.slice (some ⟨b2, off2, none⟩) a2n a2c] 34])) [(2, Value.bool false)] [.no] True (by kernel_rfl) trivial hS13 ?_
        refine l_nil rfl ?_
        refine then_n ?_
        refine wp_ret ?_
        refine blk_r ?_
        refine then_r ?_
        refine then_r ?_
        refine blk_r ?_
        refine then_r ?_
        exact c_end (S := (fun x_ => St w x_ [Res.box blk2 [Value.int .i64 a0, Value.slice a1A a1n a1c, Value.slice (some ⟨b2, off2, none⟩) a2n a2c] 34])) (rs := [.tmp 2]) rfl [] (v := Value.bool false) (C := True) (by kernel_rfl) trivial hS13 ((hS13.rv (congrArg Value.bool (vr_f1 (m := a2n) (by rw [List.length_map]; exact hln2) hR))))
      · skip
        have hb16p := of_decide_eq_false hb16
        refine c_false (b := (decide ((60 : Int) < ((z.zs.length : Nat) : Int)))) (by kernel_rfl) hb16 ?_
        refine wp_skip ?_
        refine blk_n ?_
        refine then_n ?_
        refine c_reg ?_
        refine q_seg (S := (fun x_ => St w x_ [Res.box blk2 [Value.int .i64 a0, Value.slice a1A a1n a1c, Value.slice (some ⟨b2, off2, none⟩) a2n a2c] 34])) [(4, Value.int .i64 (((j : Nat) : Int) + (1 : Int))), (63, Value.int .i64 (((j : Nat) : Int) + (1 : Int))), (62, Value.int .i64 ((j : Nat) : Int))] [.no, .no, .no] ((InK .i64 (((j : Nat) : Int) + (1 : Int)))) (by kernel_rfl) (in64 (by omega) (by omega)) hS13 ?_
        refine l_nil rfl ?_
        refine then_n ?_
        refine round_end (j + 1) ?_ ?_ ?_
        · exact (agree_cons (by kernel_rfl) (agree_cons (by kernel_rfl) agree_nil))
        · exact ⟨(by omega), hS13⟩
        · exact (by first | omega | (dsimp only; omega))
    · skip
      have hb15p := of_decide_eq_false hb15
      refine c_false (b := (decide (((j : Nat) : Int) < ((a2n : Nat) : Int)))) (by kernel_rfl) hb15 ?_
      refine wp_exit ?_
      refine then_x ?_
      refine then_x ?_
      refine blk_hit ?_
      refine then_n ?_
      refine wp_seq ?_
      refine c_reg ?_
      refine q_seg (S := (fun x_ => St w x_ [Res.box blk2 [Value.int .i64 a0, Value.slice a1A a1n a1c, Value.slice a2A a2n a2c] 34])) [(2, Value.bool false), (90, Value.bool false), (89, undef), (88, undef), (87, undef), (86, undef), (85, Value.bool false), (84, Value.bool false), (83, undef), (82, undef), (81, undef), (80, undef), (79, Value.bool (decide (a0 = (((a2n : Nat) : Int) + (1 : Int))))), (78, Value.bool (decide (a0 = (((a2n : Nat) : Int) + (1 : Int))))), (77, Value.int .i64 (((a2n : Nat) : Int) + (1 : Int))), (76, Value.int .i64 ((a2n : Nat) : Int)), (75, Value.slice a2A a2n a2c), (74, Value.pointer (some ⟨blk2, 0 + 2, none⟩)), (73, Value.int .i64 a0), (72, Value.pointer (some ⟨blk2, 0 + 0, none⟩))] [.no, .v (Value.int .i64 a0), .no, .v (Value.slice a2A a2n a2c), .no, .no, .no, .no, .skip, .skip, .skip, .skip, .v (.bool false), .no, .skip, .skip, .skip, .skip, .v (.bool false), .no] ((LoadsAt Try.prog (fun x_ => St w x_ [Res.box blk2 [Value.int .i64 a0, Value.slice a1A a1n a1c, Value.slice a2A a2n a2c] 34]) 3 ⟨blk2, 0 + 0, none⟩ (Value.int .i64 a0)) ∧ (LoadsAt Try.prog (fun x_ => St w x_ [Res.box blk2 [Value.int .i64 a0, Value.slice a1A a1n a1c, Value.slice a2A a2n a2c] 34]) 32 ⟨blk2, 0 + 2, none⟩ (Value.slice a2A a2n a2c)) ∧ (InK .i64 (((a2n : Nat) : Int) + (1 : Int))) ∧ ((decide (a0 = (((a2n : Nat) : Int) + (1 : Int)))) = !true) ∧ ((decide (a0 = (((a2n : Nat) : Int) + (1 : Int)))) = !true) ∧ ((decide (a0 = (((a2n : Nat) : Int) + (1 : Int)))) = !true) ∧ ((decide (a0 = (((a2n : Nat) : Int) + (1 : Int)))) = !true) ∧ ((decide (a0 = (((a2n : Nat) : Int) + (1 : Int)))) = false) ∧ (false = !true) ∧ (false = !true) ∧ (false = !true) ∧ (false = !true) ∧ (false = false)) (by kernel_rfl) ⟨(ld_box (i := 0) rfl rfl (by kernel_rfl)), (ld_box (i := 0) rfl rfl (by kernel_rfl)), (in64 (by omega) (by omega)), (decide_eq_false (by omega)), (decide_eq_false (by omega)), (decide_eq_false (by omega)), (decide_eq_false (by omega)), (decide_eq_false (by omega)), rfl, rfl, rfl, rfl, rfl⟩ hS13 ?_
      refine l_nil rfl ?_
      refine then_n ?_
      refine wp_ret ?_
      exact c_end (S := (fun x_ => St w x_ [Res.box blk2 [Value.int .i64 a0, Value.slice a1A a1n a1c, Value.slice a2A a2n a2c] 34])) (rs := [.tmp 2]) rfl [] (v := Value.bool false) (C := True) (by kernel_rfl) trivial hS13 ((hS13.rv (congrArg Value.bool (vr_f1 (m := a2n) (by rw [List.length_map]; exact hln2) hR))))
theorem IsValidReceiver_s_c (a0 : Int) (a1A : Option Addr) (a1n a1c : Nat) (a1L : List (Int × List Int)) (a2A : Option Addr) (a2n a2c : Nat) (a2L : List (Int × List Int)) (w : World) (a0h : I64 a0) (a1h : RdL .u8 true w w.heap.size a1A a1n a1L) (a1w : wt a1L ≤ 1099511627776) (a2h : RdL .u8 false w w.heap.size a2A a2n a2L) (a2w : wt a2L ≤ 1099511627776) : Calls Try.prog 47 #[Value.agg #[Value.int .i64 a0, Value.slice a1A a1n a1c, Value.slice a2A a2n a2c]] w (RetV w (.bool (vrecv a0 a1L a2L))) := by
  by_cases hR : a0 = ((a2n : Nat) : Int) + 1
  · exact IsValidReceiver_s_in a0 a1A a1n a1c a1L a2A a2n a2c a2L w a0h a1h a1w a2h a2w hR
  · exact IsValidReceiver_s_out a0 a1A a1n a1c a1L a2A a2n a2c a2L w a0h a1h a1w a2h a2w hR
end Go.Proofs.Ytchkiohikhfecaa
