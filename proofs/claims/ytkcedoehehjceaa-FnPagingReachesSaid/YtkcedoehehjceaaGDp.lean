/-
  Copies, comparisons, sizes and marks of nested slices.
-/
import Derived.Test.YtkcedoehehjceaaGSl
import Derived.Test.YtkcedoehehjceaaDeep
namespace Go.Proofs.Ytkcedoehehjceaa
open Go.RowKit
set_option maxRecDepth 100000

theorem el_44 : El Try.prog 30 44 (Value.agg #[Value.int .i64 0, Value.slice none 0 0]) 2 32 := ⟨Try.underlying30, info_parts (by kernel_rfl), rfl, by decide⟩
theorem toCell_c (s : Int) (A : Option Addr) (n c : Nat) (zs : List Int) (w : World) (hn : n ≤ 1099511627776) (hr : Rd w w.heap.size A n (zs.map (Value.int .i64))) : Calls Try.prog 50 #[Value.agg #[Value.int .i64 s, Value.slice A n c]] w (Ret w (fun v new => ∃ b, v = Value.agg #[Value.int .i64 s, Value.slice (some ⟨b, 0, none⟩) n n] ∧ new = [.row (.slice (some ⟨b, 0, none⟩) n n) 3 1 n (zs.map (Value.int .i64))])) := by
  refine calls_FA Try.func50 rfl (n := 12) rfl (l := [(0, Value.agg #[Value.int .i64 s, Value.slice A n c])]) rfl (by simp) (fun g => ?_)
  have hS := St.init w
  refine wp_seq ?_
  refine c_reg ?_
  refine l_op rfl rfl (fun K hK => op_box (d := some 1) rfl rfl [Value.int .i64 s, Value.slice A n c] (by kernel_rfl) hS (fun blk2 w1 hS1 => hK _ _ ?_))
  clear hK K
  refine l_op rfl rfl (fun K hK => op_alloc (d := some 2) rfl rfl [Value.int .i64 0, Value.slice none 0 0] (by kernel_rfl) hS1 (fun blk4 w3 hS3 => hK _ _ ?_))
  clear hK K
  refine l_nil rfl ?_
  refine then_n ?_
  refine wp_seq ?_
  refine c_reg ?_
  refine l_op rfl rfl (fun K hK => op_alloc (d := some 3) rfl rfl [Value.int .i64 0, Value.slice none 0 0] (by kernel_rfl) hS3 (fun blk6 w5 hS5 => hK _ _ ?_))
  clear hK K
  refine l_nil rfl ?_
  refine then_n ?_
  refine wp_seq ?_
  refine c_reg ?_
  refine q_seg (S := (fun x_ => St w x_ [Res.box blk6 [Value.int .i64 0, Value.slice none 0 0] 44, Res.box blk4 [Value.int .i64 0, Value.slice none 0 0] 44, Res.box blk2 [Value.int .i64 s, Value.slice A n c] 74])) [(6, Value.pointer (some ⟨blk6, 0 + 0, none⟩)), (5, Value.int .i64 s), (4, Value.pointer (some ⟨blk2, 0 + 0, none⟩))] [.no, .v (Value.int .i64 s), .no] ((LoadsAt Try.prog (fun x_ => St w x_ [Res.box blk6 [Value.int .i64 0, Value.slice none 0 0] 44, Res.box blk4 [Value.int .i64 0, Value.slice none 0 0] 44, Res.box blk2 [Value.int .i64 s, Value.slice A n c] 74]) 3 ⟨blk2, 0 + 0, none⟩ (Value.int .i64 s))) (by kernel_rfl) (ld_box (i := 2) rfl rfl (by kernel_rfl)) hS5 ?_
  refine l_op rfl rfl (fun K hK => op_store (d := none) rfl rfl (i := 0) (b := blk6) (off := 0 + 0) (cs := [Value.int .i64 0, Value.slice none 0 0]) (bt := 44) (by kernel_rfl) (by kernel_rfl) [Value.int .i64 s] (by kernel_rfl) (by kernel_rfl) (Nat.le_of_ble_eq_true (by kernel_rfl)) (by kernel_rfl) [Res.box blk6 [Value.int .i64 s, Value.slice none 0 0] 44, Res.box blk4 [Value.int .i64 0, Value.slice none 0 0] 44, Res.box blk2 [Value.int .i64 s, Value.slice A n c] 74] (by kernel_rfl) hS5 (fun w7 hS7 => hK _ _ ?_))
  clear hK K
  refine l_nil rfl ?_
  refine then_n ?_
  refine wp_seq ?_
  refine c_reg ?_
  refine q_seg (S := (fun x_ => St w x_ [Res.box blk6 [Value.int .i64 s, Value.slice none 0 0] 44, Res.box blk4 [Value.int .i64 0, Value.slice none 0 0] 44, Res.box blk2 [Value.int .i64 s, Value.slice A n c] 74])) [(8, Value.slice A n c), (7, Value.pointer (some ⟨blk2, 0 + 1, none⟩))] [.no, .v (Value.slice A n c)] ((LoadsAt Try.prog (fun x_ => St w x_ [Res.box blk6 [Value.int .i64 s, Value.slice none 0 0] 44, Res.box blk4 [Value.int .i64 0, Value.slice none 0 0] 44, Res.box blk2 [Value.int .i64 s, Value.slice A n c] 74]) 35 ⟨blk2, 0 + 1, none⟩ (Value.slice A n c))) (by kernel_rfl) (ld_box (i := 2) rfl rfl (by kernel_rfl)) hS7 ?_
  refine l_op rfl rfl (fun K hK => op_call (d := some 9) rfl rfl ⟨_, Try.func55, by kernel_rfl, by kernel_rfl⟩ (vs := [Value.slice A n c]) (by kernel_rfl) (toIntS_c A n c zs w7 (by omega) (hS7.rdlow hr)) hS7 (fun v9 new10 w8 Rw8 hS8 => hK _ _ ?_))
  clear hK K
  obtain ⟨blk11, rfl, rfl⟩ := Rw8
  refine q_seg (S := (fun x_ => St w x_ [Res.row (Value.slice (some ⟨blk11, 0, none⟩) n n) 3 1 n (zs.map (Value.int .i64)), Res.box blk6 [Value.int .i64 s, Value.slice none 0 0] 44, Res.box blk4 [Value.int .i64 0, Value.slice none 0 0] 44, Res.box blk2 [Value.int .i64 s, Value.slice A n c] 74])) [(10, Value.pointer (some ⟨blk6, 0 + 1, none⟩))] [.no] True (by kernel_rfl) trivial hS8 ?_
  refine l_op rfl rfl (fun K hK => op_store (d := none) rfl rfl (i := 1) (b := blk6) (off := 0 + 1) (cs := [Value.int .i64 s, Value.slice none 0 0]) (bt := 44) (by kernel_rfl) (by kernel_rfl) [Value.slice (some ⟨blk11, 0, none⟩) n n] (by kernel_rfl) (by kernel_rfl) (Nat.le_of_ble_eq_true (by kernel_rfl)) (by kernel_rfl) [Res.row (Value.slice (some ⟨blk11, 0, none⟩) n n) 3 1 n (zs.map (Value.int .i64)), Res.box blk6 [Value.int .i64 s, Value.slice (some ⟨blk11, 0, none⟩) n n] 44, Res.box blk4 [Value.int .i64 0, Value.slice none 0 0] 44, Res.box blk2 [Value.int .i64 s, Value.slice A n c] 74] (by kernel_rfl) hS8 (fun w12 hS12 => hK _ _ ?_))
  clear hK K
  refine l_nil rfl ?_
  refine then_n ?_
  refine wp_seq ?_
  refine c_reg ?_
  refine q_seg (S := (fun x_ => St w x_ [Res.row (Value.slice (some ⟨blk11, 0, none⟩) n n) 3 1 n (zs.map (Value.int .i64)), Res.box blk6 [Value.int .i64 s, Value.slice (some ⟨blk11, 0, none⟩) n n] 44, Res.box blk4 [Value.int .i64 0, Value.slice none 0 0] 44, Res.box blk2 [Value.int .i64 s, Value.slice A n c] 74])) [(11, Value.agg #[Value.int .i64 s, Value.slice (some ⟨blk11, 0, none⟩) n n])] [.v (Value.agg #[Value.int .i64 s, Value.slice (some ⟨blk11, 0, none⟩) n n])] ((LoadsAt Try.prog (fun x_ => St w x_ [Res.row (Value.slice (some ⟨blk11, 0, none⟩) n n) 3 1 n (zs.map (Value.int .i64)), Res.box blk6 [Value.int .i64 s, Value.slice (some ⟨blk11, 0, none⟩) n n] 44, Res.box blk4 [Value.int .i64 0, Value.slice none 0 0] 44, Res.box blk2 [Value.int .i64 s, Value.slice A n c] 74]) 44 ⟨blk6, 0, none⟩ (Value.agg #[Value.int .i64 s, Value.slice (some ⟨blk11, 0, none⟩) n n]))) (by kernel_rfl) (ld_boxN (i := 1) (k := 2) rfl rfl rfl (by kernel_rfl)) hS12 ?_
  refine l_op rfl rfl (fun K hK => op_store (d := none) rfl rfl (i := 2) (b := blk4) (off := 0) (cs := [Value.int .i64 0, Value.slice none 0 0]) (bt := 44) (by kernel_rfl) (by kernel_rfl) [Value.int .i64 s, Value.slice (some ⟨blk11, 0, none⟩) n n] (by kernel_rfl) (by kernel_rfl) (Nat.le_of_ble_eq_true (by kernel_rfl)) (by kernel_rfl) [Res.row (Value.slice (some ⟨blk11, 0, none⟩) n n) 3 1 n (zs.map (Value.int .i64)), Res.box blk6 [Value.int .i64 s, Value.slice (some ⟨blk11, 0, none⟩) n n] 44, Res.box blk4 [Value.int .i64 s, Value.slice (some ⟨blk11, 0, none⟩) n n] 44, Res.box blk2 [Value.int .i64 s, Value.slice A n c] 74] (by kernel_rfl) hS12 (fun w13 hS13 => hK _ _ ?_))
  clear hK K
  refine l_nil rfl ?_
  refine then_n ?_
  refine wp_ret ?_
  exact c_end (S := (fun x_ => St w x_ [Res.row (Value.slice (some ⟨blk11, 0, none⟩) n n) 3 1 n (zs.map (Value.int .i64)), Res.box blk6 [Value.int .i64 s, Value.slice (some ⟨blk11, 0, none⟩) n n] 44, Res.box blk4 [Value.int .i64 s, Value.slice (some ⟨blk11, 0, none⟩) n n] 44, Res.box blk2 [Value.int .i64 s, Value.slice A n c] 74])) (rs := [.cell 2 44]) rfl [Value.agg #[Value.int .i64 s, Value.slice (some ⟨blk11, 0, none⟩) n n]] (v := Value.agg #[Value.int .i64 s, Value.slice (some ⟨blk11, 0, none⟩) n n]) (C := ((LoadsAt Try.prog (fun x_ => St w x_ [Res.row (Value.slice (some ⟨blk11, 0, none⟩) n n) 3 1 n (zs.map (Value.int .i64)), Res.box blk6 [Value.int .i64 s, Value.slice (some ⟨blk11, 0, none⟩) n n] 44, Res.box blk4 [Value.int .i64 s, Value.slice (some ⟨blk11, 0, none⟩) n n] 44, Res.box blk2 [Value.int .i64 s, Value.slice A n c] 74]) 44 ⟨blk4, 0, none⟩ (Value.agg #[Value.int .i64 s, Value.slice (some ⟨blk11, 0, none⟩) n n])))) (by kernel_rfl) (ld_boxN (i := 2) (k := 2) rfl rfl rfl (by kernel_rfl)) hS13 ((hS13.sub (List.Sublist.cons_cons _ (List.Sublist.cons _ (List.Sublist.cons _ (List.Sublist.cons _ List.Sublist.slnil))))).rt ⟨_, rfl, rfl⟩)
theorem eqCell_c (s : Int) (A B : Option Addr) (n c d : Nat) (zs : List Int) (w : World) (hn : n ≤ 9223372036854775807) (hr : Rd w w.heap.size A n (zs.map (Value.int .i64))) (hr2 : Rd w w.heap.size B n (zs.map (Value.int .i64))) : Calls Try.prog 51 #[Value.agg #[Value.int .i64 s, Value.slice A n c], Value.agg #[Value.int .i64 s, Value.slice B n d]] w (RetV w (.bool true)) := by
  refine calls_FA Try.func51 rfl (n := 16) rfl (l := [(0, Value.agg #[Value.int .i64 s, Value.slice A n c]), (1, Value.agg #[Value.int .i64 s, Value.slice B n d])]) rfl (by simp) (fun g => ?_)
  have hS := St.init w
  refine wp_seq ?_
  refine c_reg ?_
  refine l_op rfl rfl (fun K hK => op_box (d := some 2) rfl rfl [Value.int .i64 s, Value.slice A n c] (by kernel_rfl) hS (fun blk2 w1 hS1 => hK _ _ ?_))
  clear hK K
  refine l_op rfl rfl (fun K hK => op_box (d := some 3) rfl rfl [Value.int .i64 s, Value.slice B n d] (by kernel_rfl) hS1 (fun blk4 w3 hS3 => hK _ _ ?_))
  clear hK K
  refine q_seg (S := (fun x_ => St w x_ [Res.box blk4 [Value.int .i64 s, Value.slice B n d] 44, Res.box blk2 [Value.int .i64 s, Value.slice A n c] 44])) [(4, Value.bool false)] [.no] True (by kernel_rfl) trivial hS3 ?_
  refine l_nil rfl ?_
  refine then_n ?_
  refine wp_seq ?_
  refine wp_seq ?_
  refine c_reg ?_
  refine q_seg (S := (fun x_ => St w x_ [Res.box blk4 [Value.int .i64 s, Value.slice B n d] 44, Res.box blk2 [Value.int .i64 s, Value.slice A n c] 44])) [(9, Value.bool (!(decide (s = s)))), (8, Value.int .i64 s), (7, Value.pointer (some ⟨blk4, 0 + 0, none⟩)), (6, Value.int .i64 s), (5, Value.pointer (some ⟨blk2, 0 + 0, none⟩))] [.no, .v (Value.int .i64 s), .no, .v (Value.int .i64 s), .no] ((LoadsAt Try.prog (fun x_ => St w x_ [Res.box blk4 [Value.int .i64 s, Value.slice B n d] 44, Res.box blk2 [Value.int .i64 s, Value.slice A n c] 44]) 3 ⟨blk2, 0 + 0, none⟩ (Value.int .i64 s)) ∧ (LoadsAt Try.prog (fun x_ => St w x_ [Res.box blk4 [Value.int .i64 s, Value.slice B n d] 44, Res.box blk2 [Value.int .i64 s, Value.slice A n c] 44]) 3 ⟨blk4, 0 + 0, none⟩ (Value.int .i64 s))) (by kernel_rfl) ⟨(ld_box (i := 1) rfl rfl (by kernel_rfl)), (ld_box (i := 0) rfl rfl (by kernel_rfl))⟩ hS3 ?_
  refine l_nil rfl ?_
  refine then_n ?_
  refine c_false (b := (!(decide (s = s)))) (by kernel_rfl) (nb (v := true) (decide_eq_true rfl)) ?_
  refine wp_skip ?_
  refine then_n ?_
  refine wp_seq ?_
  refine wp_seq ?_
  refine c_reg ?_
  refine q_seg (S := (fun x_ => St w x_ [Res.box blk4 [Value.int .i64 s, Value.slice B n d] 44, Res.box blk2 [Value.int .i64 s, Value.slice A n c] 44])) [(13, Value.slice B n d), (12, Value.pointer (some ⟨blk4, 0 + 1, none⟩)), (11, Value.slice A n c), (10, Value.pointer (some ⟨blk2, 0 + 1, none⟩))] [.no, .v (Value.slice A n c), .no, .v (Value.slice B n d)] ((LoadsAt Try.prog (fun x_ => St w x_ [Res.box blk4 [Value.int .i64 s, Value.slice B n d] 44, Res.box blk2 [Value.int .i64 s, Value.slice A n c] 44]) 35 ⟨blk2, 0 + 1, none⟩ (Value.slice A n c)) ∧ (LoadsAt Try.prog (fun x_ => St w x_ [Res.box blk4 [Value.int .i64 s, Value.slice B n d] 44, Res.box blk2 [Value.int .i64 s, Value.slice A n c] 44]) 35 ⟨blk4, 0 + 1, none⟩ (Value.slice B n d))) (by kernel_rfl) ⟨(ld_box (i := 1) rfl rfl (by kernel_rfl)), (ld_box (i := 0) rfl rfl (by kernel_rfl))⟩ hS3 ?_
  refine l_op rfl rfl (fun K hK => op_callv (d := some 14) rfl rfl ⟨_, Try.func24, by kernel_rfl, by kernel_rfl⟩ (vs := [Value.slice A n c, Value.slice B n d]) (by kernel_rfl) (v := Value.bool true) (eqIntS_c A B n c d zs w3 (by omega) (hS3.rdlow hr) (hS3.rdlow hr2)) hS3 (fun w5 hS5 => hK _ _ ?_))
  clear hK K
  refine q_seg (S := (fun x_ => St w x_ [Res.box blk4 [Value.int .i64 s, Value.slice B n d] 44, Res.box blk2 [Value.int .i64 s, Value.slice A n c] 44])) [(15, Value.bool false)] [.no] True (by kernel_rfl) trivial hS5 ?_
  refine l_nil rfl ?_
  refine then_n ?_
  refine c_false (b := false) (by kernel_rfl) rfl ?_
  refine wp_skip ?_
  refine then_n ?_
  refine wp_seq ?_
  refine c_reg ?_
  refine q_seg (S := (fun x_ => St w x_ [Res.box blk4 [Value.int .i64 s, Value.slice B n d] 44, Res.box blk2 [Value.int .i64 s, Value.slice A n c] 44])) [(4, Value.bool true)] [.no] True (by kernel_rfl) trivial hS5 ?_
  refine l_nil rfl ?_
  refine then_n ?_
  refine wp_ret ?_
  exact c_end (S := (fun x_ => St w x_ [Res.box blk4 [Value.int .i64 s, Value.slice B n d] 44, Res.box blk2 [Value.int .i64 s, Value.slice A n c] 44])) (rs := [.tmp 4]) rfl [] (v := Value.bool true) (C := True) (by kernel_rfl) trivial hS5 ((hS5.rv rfl))
theorem eqCellS_c (A B : Option Addr) (n c d : Nat) (L : List (Int × List Int)) (w : World) (hs : wt L ≤ 1099511627776) (hr : RdL .i64 true w w.heap.size A n L) (hr2 : RdL .i64 true w w.heap.size B n L) : Calls Try.prog 42 #[.slice A n c, .slice B n d] w (RetV w (.bool true)) := by
  obtain ⟨hok, ys, hr, rfl⟩ := hr
  have hwl := wt_len (ys.map (con true))
  have hln := hr.len
  rw [List.length_map] at hwl
  obtain ⟨hok2, zs, hr2, hzy⟩ := hr2
  refine calls_FA Try.func42 rfl (n := 27) rfl (l := [(0, Value.slice A n c), (1, Value.slice B n d)]) rfl (by simp) (fun g => ?_)
  have hS := St.init w
  refine wp_seq ?_
  refine c_reg ?_
  refine q_seg (S := (fun x_ => St w x_ [])) [(4, Value.bool false)] [.no] True (by kernel_rfl) trivial hS ?_
  refine l_nil rfl ?_
  refine then_n ?_
  refine wp_seq ?_
  refine wp_seq ?_
  refine c_reg ?_
  refine q_seg (S := (fun x_ => St w x_ [])) [(10, Value.bool (!(decide (((n : Nat) : Int) = ((n : Nat) : Int))))), (9, Value.int .i64 ((n : Nat) : Int)), (8, Value.slice B n d), (7, Value.int .i64 ((n : Nat) : Int)), (6, Value.slice A n c)] [.no, .no, .no, .no, .no] True (by kernel_rfl) trivial hS ?_
  refine l_nil rfl ?_
  refine then_n ?_
  refine c_false (b := (!(decide (((n : Nat) : Int) = ((n : Nat) : Int))))) (by kernel_rfl) (nb (v := true) (decide_eq_true rfl)) ?_
  refine wp_skip ?_
  refine then_n ?_
  refine wp_seq ?_
  refine wp_seq ?_
  refine c_reg ?_
  refine q_seg (S := (fun x_ => St w x_ [])) [(5, Value.int .i64 0)] [.no] True (by kernel_rfl) trivial hS ?_
  refine l_nil rfl ?_
  refine then_n ?_
  refine wp_block ?_
  refine c_loop (X := Nat) (fun (k : Nat) => [(0, Value.slice A n c), (1, Value.slice B n d), (5, Value.int .i64 ((k : Nat) : Int))]) (fun (k : Nat) (wr : World) => (k ≤ n) ∧ St w wr []) (fun (k : Nat) => n - k) 0 ?_ ?_ ?_
  · exact (agree_cons (by kernel_rfl) (agree_cons (by kernel_rfl) (agree_cons (by kernel_rfl) agree_nil)))
  · exact ⟨Nat.zero_le _, hS⟩
  rintro k g2 w1 ⟨hkn, hS1⟩
  refine wp_seq ?_
  refine wp_seq ?_
  refine c_reg ?_
  refine q_seg (S := (fun x_ => St w x_ [])) [(14, Value.bool (decide (((k : Nat) : Int) < ((n : Nat) : Int)))), (13, Value.int .i64 ((n : Nat) : Int)), (12, Value.slice A n c), (11, Value.int .i64 ((k : Nat) : Int))] [.no, .no, .no, .no] True (by kernel_rfl) trivial hS1 ?_
  refine l_nil rfl ?_
  refine then_n ?_
  rcases Bool.eq_false_or_eq_true (decide (((k : Nat) : Int) < ((n : Nat) : Int))) with hb3 | hb3
  · skip
    have hb3p := of_decide_eq_true hb3
    obtain ⟨b, off, rfl, hbB, hcl⟩ := hr.at (k := k) (by omega)
    obtain ⟨y, hyk, hym⟩ := get_of_lt (l := ys) (k := k) (by have := hr.len; omega)
    obtain ⟨hy1, hy2, hy3⟩ := hr.el y hym
    obtain ⟨hyi, hyz⟩ := hok _ (List.mem_map_of_mem (f := (con true)) hym)
    have hyl : y.zs.length + 1 ≤ wt (ys.map (con true)) := wt_mem (List.mem_map_of_mem (f := (con true)) hym)
    obtain ⟨b2, off2, rfl, hbB2, hcl2⟩ := hr2.at (k := k) (by omega)
    obtain ⟨z, hzk, hzm, hzc⟩ := twin hzy hyk
    obtain ⟨hz1, hz2, hz3⟩ := hr2.el z hzm
    obtain ⟨zs_, zA, zc, zz⟩ := z
    obtain rfl : zz = y.zs := con_zs hzc
    obtain rfl : zs_ = y.s := con_s hzc
    refine c_true (b := (decide (((k : Nat) : Int) < ((n : Nat) : Int)))) (by kernel_rfl) hb3 ?_
    refine wp_skip ?_
    refine then_n ?_
    refine wp_seq ?_
    refine wp_block ?_
    refine wp_seq ?_
    refine c_drawn [] (by kernel_rfl) hS1 (fun w4 hS4 => ?_)
    refine t_seg (S := (fun x_ => St w x_ [])) [(0, .no), (1, .no), (4, .no), (5, .no), (2, .no), (6, .no), (3, .v (Value.agg #[Value.int .i64 y.s, Value.slice y.A y.zs.length y.c])), (7, .v (Value.agg #[Value.int .i64 y.s, Value.slice zA y.zs.length zc]))] 2 #[true, true, true, true, true, true, true, true, false, false] [(24, Value.agg #[Value.int .i64 y.s, Value.slice zA y.zs.length zc]), (20, Value.agg #[Value.int .i64 y.s, Value.slice y.A y.zs.length y.c]), (23, Value.pointer (some ⟨b2, off2 + Int.toNat ((k : Nat) : Int) * 2, none⟩)), (19, Value.pointer (some ⟨b, off + Int.toNat ((k : Nat) : Int) * 2, none⟩)), (22, Value.int .i64 ((k : Nat) : Int)), (21, Value.slice (some ⟨b2, off2, none⟩) n d), (18, Value.int .i64 ((k : Nat) : Int)), (17, Value.slice (some ⟨b, off, none⟩) n c)] (((0 : Int) ≤ ((k : Nat) : Int)) ∧ (((k : Nat) : Int) < ((n : Nat) : Int)) ∧ ((0 : Int) ≤ ((k : Nat) : Int)) ∧ (((k : Nat) : Int) < ((n : Nat) : Int)) ∧ (LoadsAt Try.prog (fun x_ => St w x_ []) 44 ⟨b, off + Int.toNat ((k : Nat) : Int) * 2, none⟩ (Value.agg #[Value.int .i64 y.s, Value.slice y.A y.zs.length y.c])) ∧ (LoadsAt Try.prog (fun x_ => St w x_ []) 44 ⟨b2, off2 + Int.toNat ((k : Nat) : Int) * 2, none⟩ (Value.agg #[Value.int .i64 y.s, Value.slice zA y.zs.length zc]))) (by kernel_rfl) (Qpanic.then (Qpanic.block (Qpanic.then (Qpanic.then (Qpanic.block (Qpanic.then Qpanic.bp)))))) rfl (by kernel_rfl) ⟨(by omega), (by omega), (by omega), (by omega), (ld_lowN (k := 2) (vs := [Value.int .i64 y.s, Value.slice y.A y.zs.length y.c]) (by kernel_rfl) rfl (flat_cells (p := true) hcl hyk)), (ld_lowN (k := 2) (vs := [Value.int .i64 y.s, Value.slice zA y.zs.length zc]) (by kernel_rfl) rfl (flat_cells (p := true) hcl2 hzk))⟩ hS4 ?_
    refine a_op (i := 8) (fuel := 1) (listed' := #[true, true, true, true, true, true, true, true, true, false]) rfl rfl (by kernel_rfl) (by kernel_rfl) rfl (fun K hK => op_callv (d := some 25) rfl rfl ⟨_, Try.func51, by kernel_rfl, by kernel_rfl⟩ (vs := [Value.agg #[Value.int .i64 y.s, Value.slice y.A y.zs.length y.c], Value.agg #[Value.int .i64 y.s, Value.slice zA y.zs.length zc]]) (by kernel_rfl) (v := Value.bool true) (eqCell_c y.s y.A zA y.zs.length y.c zc y.zs w4 (by omega) (hS4.rdlow hy1) (hS4.rdlow hz1)) hS4 (fun w5 hS5 => hK _ _ (fun _ => hS5) ?_))
    clear hK K
    refine t_seg (S := (fun x_ => St w x_ [])) [(9, .no)] 0 #[true, true, true, true, true, true, true, true, true, true] [(26, Value.bool false)] True (by kernel_rfl) (Qpanic.then (Qpanic.block (Qpanic.then (Qpanic.then (Qpanic.block (Qpanic.then Qpanic.bp)))))) rfl (by kernel_rfl) trivial hS5 ?_
    refine a_done (by kernel_rfl) ?_
    refine then_n ?_
    refine c_false (b := false) (by kernel_rfl) rfl ?_
    refine wp_skip ?_
    refine blk_n ?_
    refine then_n ?_
    refine c_reg ?_
    refine q_seg (S := (fun x_ => St w x_ [])) [(5, Value.int .i64 (((k : Nat) : Int) + (1 : Int))), (16, Value.int .i64 (((k : Nat) : Int) + (1 : Int))), (15, Value.int .i64 ((k : Nat) : Int))] [.no, .no, .no] ((InK .i64 (((k : Nat) : Int) + (1 : Int)))) (by kernel_rfl) (in64 (by omega) (by omega)) hS5 ?_
    refine l_nil rfl ?_
    refine then_n ?_
    refine round_end (k + 1) ?_ ?_ ?_
    · exact (agree_cons (by kernel_rfl) (agree_cons (by kernel_rfl) (agree_cons (by kernel_rfl) agree_nil)))
    · exact ⟨(by omega), hS5⟩
    · exact (by first | omega | (dsimp only; omega))
  · skip
    have hb3p := of_decide_eq_false hb3
    refine c_false (b := (decide (((k : Nat) : Int) < ((n : Nat) : Int)))) (by kernel_rfl) hb3 ?_
    refine wp_exit ?_
    refine then_x ?_
    refine then_x ?_
    refine blk_hit ?_
    refine then_n ?_
    refine wp_seq ?_
    refine c_reg ?_
    refine q_seg (S := (fun x_ => St w x_ [])) [(4, Value.bool true)] [.no] True (by kernel_rfl) trivial hS1 ?_
    refine l_nil rfl ?_
    refine then_n ?_
    refine wp_ret ?_
    exact c_end (S := (fun x_ => St w x_ [])) (rs := [.tmp 4]) rfl [] (v := Value.bool true) (C := True) (by kernel_rfl) trivial hS1 ((hS1.rv rfl))
theorem szCell_c (s : Int) (A : Option Addr) (n c : Nat) (lf : Int) (w : World) (h1 : 0 ≤ lf) (h2 : lf ≤ 1099511627776) (hn : n ≤ 9223372036854775807) : Calls Try.prog 49 #[Value.agg #[Value.int .i64 s, Value.slice A n c], .int .i64 lf] w (RetV w (.int .i64 (szl lf n))) := by
  refine calls_FA Try.func49 rfl (n := 12) rfl (l := [(0, Value.agg #[Value.int .i64 s, Value.slice A n c]), (1, Value.int .i64 lf)]) rfl (by simp) (fun g => ?_)
  have hS := St.init w
  refine wp_seq ?_
  refine c_reg ?_
  refine l_op rfl rfl (fun K hK => op_box (d := some 2) rfl rfl [Value.int .i64 s, Value.slice A n c] (by kernel_rfl) hS (fun blk2 w1 hS1 => hK _ _ ?_))
  clear hK K
  refine q_seg (S := (fun x_ => St w x_ [Res.box blk2 [Value.int .i64 s, Value.slice A n c] 74])) [(4, Value.int .i64 0)] [.no] True (by kernel_rfl) trivial hS1 ?_
  refine l_nil rfl ?_
  refine then_n ?_
  refine wp_seq ?_
  refine c_reg ?_
  refine q_seg (S := (fun x_ => St w x_ [Res.box blk2 [Value.int .i64 s, Value.slice A n c] 74])) [(7, Value.int .i64 lf), (6, Value.slice A n c), (5, Value.pointer (some ⟨blk2, 0 + 1, none⟩))] [.no, .v (Value.slice A n c), .no] ((LoadsAt Try.prog (fun x_ => St w x_ [Res.box blk2 [Value.int .i64 s, Value.slice A n c] 74]) 35 ⟨blk2, 0 + 1, none⟩ (Value.slice A n c))) (by kernel_rfl) (ld_box (i := 0) rfl rfl (by kernel_rfl)) hS1 ?_
  refine l_op rfl rfl (fun K hK => op_callv (d := some 8) rfl rfl ⟨_, Try.func54, by kernel_rfl, by kernel_rfl⟩ (vs := [Value.slice A n c, Value.int .i64 lf]) (by kernel_rfl) (v := Value.int .i64 (szl lf n)) (szIntS_c A n c lf w1 (by omega) (by omega) (by omega)) hS1 (fun w3 hS3 => hK _ _ ?_))
  clear hK K
  refine q_seg (S := (fun x_ => St w x_ [Res.box blk2 [Value.int .i64 s, Value.slice A n c] 74])) [(1, Value.int .i64 (szl lf n))] [.no] True (by kernel_rfl) trivial hS3 ?_
  refine l_nil rfl ?_
  refine then_n ?_
  refine wp_seq ?_
  refine wp_seq ?_
  refine c_reg ?_
  refine q_seg (S := (fun x_ => St w x_ [Res.box blk2 [Value.int .i64 s, Value.slice A n c] 74])) [(10, Value.bool (decide ((szl lf n) < (0 : Int)))), (9, Value.int .i64 (szl lf n))] [.no, .no] True (by kernel_rfl) trivial hS3 ?_
  refine l_nil rfl ?_
  refine then_n ?_
  rcases Bool.eq_false_or_eq_true (decide ((szl lf n) < (0 : Int))) with hb4 | hb4
  · skip
    have hb4p := of_decide_eq_true hb4
    refine c_true (b := (decide ((szl lf n) < (0 : Int)))) (by kernel_rfl) hb4 ?_
    refine wp_seq ?_
    refine c_reg ?_
    refine q_seg (S := (fun x_ => St w x_ [Res.box blk2 [Value.int .i64 s, Value.slice A n c] 74])) [(4, Value.int .i64 (-1))] [.no] True (by kernel_rfl) trivial hS3 ?_
    refine l_nil rfl ?_
    refine then_n ?_
    refine wp_ret ?_
    refine then_r ?_
    exact c_end (S := (fun x_ => St w x_ [Res.box blk2 [Value.int .i64 s, Value.slice A n c] 74])) (rs := [.tmp 4]) rfl [] (v := Value.int .i64 (-1)) (C := True) (by kernel_rfl) trivial hS3 ((hS3.rv (congrArg (Value.int .i64) (by unfold szl at *; split <;> omega))))
  · skip
    have hb4p := of_decide_eq_false hb4
    refine c_false (b := (decide ((szl lf n) < (0 : Int)))) (by kernel_rfl) hb4 ?_
    refine wp_skip ?_
    refine then_n ?_
    refine wp_seq ?_
    refine c_reg ?_
    refine q_seg (S := (fun x_ => St w x_ [Res.box blk2 [Value.int .i64 s, Value.slice A n c] 74])) [(4, Value.int .i64 (szl lf n)), (11, Value.int .i64 (szl lf n))] [.no, .no] True (by kernel_rfl) trivial hS3 ?_
    refine l_nil rfl ?_
    refine then_n ?_
    refine wp_ret ?_
    exact c_end (S := (fun x_ => St w x_ [Res.box blk2 [Value.int .i64 s, Value.slice A n c] 74])) (rs := [.tmp 4]) rfl [] (v := Value.int .i64 (szl lf n)) (C := True) (by kernel_rfl) trivial hS3 ((hS3.rv (congrArg (Value.int .i64) (by unfold szl at *; split <;> omega))))
theorem szCellS_c (A : Option Addr) (n c : Nat) (L : List (Int × List Int)) (lf : Int) (w : World) (h1 : 0 ≤ lf) (h2 : lf ≤ 1099511627776) (hn : n ≤ 9223372036854775807) (hr : RdL .i64 true w w.heap.size A n L) : Calls Try.prog 40 #[.slice A n c, .int .i64 lf] w (RetV w (.int .i64 (szI lf L))) := by
  obtain ⟨hok, ys, hr, rfl⟩ := hr
  have hwl := wt_len (ys.map (con true))
  have hln := hr.len
  rw [List.length_map] at hwl
  refine calls_FA Try.func40 rfl (n := 27) rfl (l := [(0, Value.slice A n c), (1, Value.int .i64 lf)]) rfl (by simp) (fun g => ?_)
  have hS := St.init w
  refine wp_seq ?_
  refine c_reg ?_
  refine q_seg (S := (fun x_ => St w x_ [])) [(4, Value.int .i64 0)] [.no] True (by kernel_rfl) trivial hS ?_
  refine l_nil rfl ?_
  refine then_n ?_
  refine wp_seq ?_
  refine c_reg ?_
  refine q_seg (S := (fun x_ => St w x_ [])) [(1, Value.int .i64 (lf - ((n : Nat) : Int))), (9, Value.int .i64 (lf - ((n : Nat) : Int))), (8, Value.int .i64 ((n : Nat) : Int)), (7, Value.slice A n c), (6, Value.int .i64 lf)] [.no, .no, .no, .no, .no] ((InK .i64 (lf - ((n : Nat) : Int)))) (by kernel_rfl) (in64 (by omega) (by omega)) hS ?_
  refine l_nil rfl ?_
  refine then_n ?_
  refine wp_seq ?_
  refine wp_seq ?_
  refine c_reg ?_
  refine q_seg (S := (fun x_ => St w x_ [])) [(11, Value.bool (decide ((lf - ((n : Nat) : Int)) < (0 : Int)))), (10, Value.int .i64 (lf - ((n : Nat) : Int)))] [.no, .no] True (by kernel_rfl) trivial hS ?_
  refine l_nil rfl ?_
  refine then_n ?_
  rcases Bool.eq_false_or_eq_true (decide ((lf - ((n : Nat) : Int)) < (0 : Int))) with hb1 | hb1
  · skip
    have hb1p := of_decide_eq_true hb1
    refine c_true (b := (decide ((lf - ((n : Nat) : Int)) < (0 : Int)))) (by kernel_rfl) hb1 ?_
    refine wp_seq ?_
    refine c_reg ?_
    refine q_seg (S := (fun x_ => St w x_ [])) [(4, Value.int .i64 (-1))] [.no] True (by kernel_rfl) trivial hS ?_
    refine l_nil rfl ?_
    refine then_n ?_
    refine wp_ret ?_
    refine then_r ?_
    exact c_end (S := (fun x_ => St w x_ [])) (rs := [.tmp 4]) rfl [] (v := Value.int .i64 (-1)) (C := True) (by kernel_rfl) trivial hS ((hS.rv (congrArg (Value.int .i64) (by unfold szI; rw [show (((ys.map (con true)).length : Nat) : Int) = ((n : Nat) : Int) by rw [List.length_map, hln]]; rw [if_pos (by omega)]))))
  · skip
    have hb1p := of_decide_eq_false hb1
    refine c_false (b := (decide ((lf - ((n : Nat) : Int)) < (0 : Int)))) (by kernel_rfl) hb1 ?_
    refine wp_skip ?_
    refine then_n ?_
    refine wp_seq ?_
    refine wp_seq ?_
    refine c_reg ?_
    refine q_seg (S := (fun x_ => St w x_ [])) [(5, Value.int .i64 0)] [.no] True (by kernel_rfl) trivial hS ?_
    refine l_nil rfl ?_
    refine then_n ?_
    refine wp_block ?_
    refine c_loop (X := Nat × Int) (fun (x_ : Nat × Int) => match x_ with | (k, x) => [(0, Value.slice A n c), (1, Value.int .i64 x), (5, Value.int .i64 ((k : Nat) : Int))]) (fun (x_ : Nat × Int) (wr : World) => match x_ with | (k, x) => (k ≤ n) ∧ (0 ≤ x) ∧ (x ≤ lf) ∧ (szT (lf - ((n : Nat) : Int)) (ys.map (con true)) = szT x ((ys.map (con true)).drop k)) ∧ St w wr []) (fun (x_ : Nat × Int) => match x_ with | (k, x) => n - k) ((0, (lf - ((n : Nat) : Int)))) ?_ ?_ ?_
    · exact (agree_cons (by kernel_rfl) (agree_cons (by kernel_rfl) (agree_cons (by kernel_rfl) agree_nil)))
    · exact ⟨Nat.zero_le _, (by omega), (by omega), rfl, hS⟩
    rintro ⟨k, x⟩ g3 w2 ⟨hkn, hx1, hx2, hxs, hS2⟩
    refine wp_seq ?_
    refine wp_seq ?_
    refine c_reg ?_
    refine q_seg (S := (fun x_ => St w x_ [])) [(15, Value.bool (decide (((k : Nat) : Int) < ((n : Nat) : Int)))), (14, Value.int .i64 ((n : Nat) : Int)), (13, Value.slice A n c), (12, Value.int .i64 ((k : Nat) : Int))] [.no, .no, .no, .no] True (by kernel_rfl) trivial hS2 ?_
    refine l_nil rfl ?_
    refine then_n ?_
    rcases Bool.eq_false_or_eq_true (decide (((k : Nat) : Int) < ((n : Nat) : Int))) with hb4 | hb4
    · skip
      have hb4p := of_decide_eq_true hb4
      obtain ⟨b, off, rfl, hbB, hcl⟩ := hr.at (k := k) (by omega)
      obtain ⟨y, hyk, hym⟩ := get_of_lt (l := ys) (k := k) (by have := hr.len; omega)
      obtain ⟨hy1, hy2, hy3⟩ := hr.el y hym
      obtain ⟨hyi, hyz⟩ := hok _ (List.mem_map_of_mem (f := (con true)) hym)
      have hyl : y.zs.length + 1 ≤ wt (ys.map (con true)) := wt_mem (List.mem_map_of_mem (f := (con true)) hym)
      have hsn := szT_next (con_get (p := true) hyk) x
      have hsl : szl x y.zs.length = -1 ∨ (szl x y.zs.length = x - y.zs.length ∧ 0 ≤ x - y.zs.length) := by unfold szl; split <;> omega
      unfold maxLen at hy3
      refine c_true (b := (decide (((k : Nat) : Int) < ((n : Nat) : Int)))) (by kernel_rfl) hb4 ?_
      refine wp_skip ?_
      refine then_n ?_
      refine wp_seq ?_
      refine wp_block ?_
      refine wp_seq ?_
      refine c_reg ?_
      refine q_seg (S := (fun x_ => St w x_ [])) [(22, Value.int .i64 x), (21, Value.agg #[Value.int .i64 y.s, Value.slice y.A y.zs.length y.c]), (20, Value.pointer (some ⟨b, off + Int.toNat ((k : Nat) : Int) * 2, none⟩)), (19, Value.int .i64 ((k : Nat) : Int)), (18, Value.slice (some ⟨b, off, none⟩) n c)] [.no, .no, .no, .v (Value.agg #[Value.int .i64 y.s, Value.slice y.A y.zs.length y.c]), .no] (((0 : Int) ≤ ((k : Nat) : Int)) ∧ (((k : Nat) : Int) < ((n : Nat) : Int)) ∧ (LoadsAt Try.prog (fun x_ => St w x_ []) 74 ⟨b, off + Int.toNat ((k : Nat) : Int) * 2, none⟩ (Value.agg #[Value.int .i64 y.s, Value.slice y.A y.zs.length y.c]))) (by kernel_rfl) ⟨(by omega), (by omega), (ld_lowN (k := 2) (vs := [Value.int .i64 y.s, Value.slice y.A y.zs.length y.c]) (by kernel_rfl) rfl (flat_cells (p := true) hcl hyk))⟩ hS2 ?_
      refine l_op rfl rfl (fun K hK => op_callv (d := some 23) rfl rfl ⟨_, Try.func49, by kernel_rfl, by kernel_rfl⟩ (vs := [Value.agg #[Value.int .i64 y.s, Value.slice y.A y.zs.length y.c], Value.int .i64 x]) (by kernel_rfl) (v := Value.int .i64 (szl x y.zs.length)) (szCell_c y.s y.A y.zs.length y.c x w2 (by omega) (by omega) (by omega)) hS2 (fun w5 hS5 => hK _ _ ?_))
      clear hK K
      refine q_seg (S := (fun x_ => St w x_ [])) [(1, Value.int .i64 (szl x y.zs.length))] [.no] True (by kernel_rfl) trivial hS5 ?_
      refine l_nil rfl ?_
      refine then_n ?_
      refine wp_seq ?_
      refine c_reg ?_
      refine q_seg (S := (fun x_ => St w x_ [])) [(25, Value.bool (decide ((szl x y.zs.length) < (0 : Int)))), (24, Value.int .i64 (szl x y.zs.length))] [.no, .no] True (by kernel_rfl) trivial hS5 ?_
      refine l_nil rfl ?_
      refine then_n ?_
      rcases Bool.eq_false_or_eq_true (decide ((szl x y.zs.length) < (0 : Int))) with hb6 | hb6
      · skip
        have hb6p := of_decide_eq_true hb6
        refine c_true (b := (decide ((szl x y.zs.length) < (0 : Int)))) (by kernel_rfl) hb6 ?_
        refine wp_seq ?_
        refine c_reg ?_
        refine q_seg (S := (fun x_ => St w x_ [])) [(4, Value.int .i64 (-1))] [.no] True (by kernel_rfl) trivial hS5 ?_
        refine l_nil rfl ?_
        refine then_n ?_
        refine wp_ret ?_
        refine blk_r ?_
        refine then_r ?_
        refine then_r ?_
        refine blk_r ?_
        refine then_r ?_
        exact c_end (S := (fun x_ => St w x_ [])) (rs := [.tmp 4]) rfl [] (v := Value.int .i64 (-1)) (C := True) (by kernel_rfl) trivial hS5 ((hS5.rv (congrArg (Value.int .i64) (by unfold szI; rw [show (((ys.map (con true)).length : Nat) : Int) = ((n : Nat) : Int) by rw [List.length_map, hln]]; rw [if_neg (by omega), hxs, hsn, if_pos (by show szl x y.zs.length < 0; omega)]))))
      · skip
        have hb6p := of_decide_eq_false hb6
        refine c_false (b := (decide ((szl x y.zs.length) < (0 : Int)))) (by kernel_rfl) hb6 ?_
        refine wp_skip ?_
        refine blk_n ?_
        refine then_n ?_
        refine c_reg ?_
        refine q_seg (S := (fun x_ => St w x_ [])) [(5, Value.int .i64 (((k : Nat) : Int) + (1 : Int))), (17, Value.int .i64 (((k : Nat) : Int) + (1 : Int))), (16, Value.int .i64 ((k : Nat) : Int))] [.no, .no, .no] ((InK .i64 (((k : Nat) : Int) + (1 : Int)))) (by kernel_rfl) (in64 (by omega) (by omega)) hS5 ?_
        refine l_nil rfl ?_
        refine then_n ?_
        refine round_end ((k + 1, (szl x y.zs.length))) ?_ ?_ ?_
        · exact (agree_cons (by kernel_rfl) (agree_cons (by kernel_rfl) (agree_cons (by kernel_rfl) agree_nil)))
        · exact ⟨(by omega), (by omega), (by omega), (by rw [hxs, hsn, if_neg (by show ¬ szl x y.zs.length < 0; omega)]; rfl), hS5⟩
        · exact (by first | omega | (dsimp only; omega))
    · skip
      have hb4p := of_decide_eq_false hb4
      refine c_false (b := (decide (((k : Nat) : Int) < ((n : Nat) : Int)))) (by kernel_rfl) hb4 ?_
      refine wp_exit ?_
      refine then_x ?_
      refine then_x ?_
      refine blk_hit ?_
      refine then_n ?_
      refine wp_seq ?_
      refine c_reg ?_
      refine q_seg (S := (fun x_ => St w x_ [])) [(4, Value.int .i64 x), (26, Value.int .i64 x)] [.no, .no] True (by kernel_rfl) trivial hS2 ?_
      refine l_nil rfl ?_
      refine then_n ?_
      refine wp_ret ?_
      exact c_end (S := (fun x_ => St w x_ [])) (rs := [.tmp 4]) rfl [] (v := Value.int .i64 x) (C := True) (by kernel_rfl) trivial hS2 ((hS2.rv (congrArg (Value.int .i64) (by unfold szI; rw [show (((ys.map (con true)).length : Nat) : Int) = ((n : Nat) : Int) by rw [List.length_map, hln]]; rw [if_neg (by omega), hxs, List.drop_of_length_le (by rw [List.length_map]; omega)]; rfl))))
theorem markCellS_c (A : Option Addr) (n c : Nat) (k0 : Int) (L : List (Int × List Int)) (ys : List It) (tl : List Res) (w0 w : World) (hS : St w0 w (Res.row (Value.slice A n c) 44 2 n (flat true ys) :: ((ys.map (It.row .i64 3)) ++ tl))) (hL : ys.map (con true) = L) (hLn : L.length = n) (hk1 : 0 ≤ k0) (hk2 : k0 + ((totL true L : Nat) : Int) ≤ 1099511627776) : Calls Try.prog 43 #[.slice A n c, .int .i64 k0] w (fun e w' => ∃ v own', e = .returned v ∧ St w0 w' own' ∧ (v = .int .i64 (k0 + ((totL true L : Nat) : Int)) ∧ own' = (Res.row (Value.slice A n c) 44 2 n (flat true (mkI id true k0 ys)) :: (((mkI id true k0 ys).map (It.row .i64 3)) ++ tl)))) := by
  subst hL
  have hln : ys.length = n := by rw [← hLn, List.length_map]
  have hcap := hS.row_cap (i := 0) rfl
  unfold maxLen at hcap
  have htc := tot_con true ys
  refine calls_FA Try.func43 rfl (n := 27) rfl (l := [(0, Value.slice A n c), (1, Value.int .i64 k0)]) rfl (by simp) (fun g => ?_)
  refine wp_seq ?_
  refine c_reg ?_
  refine q_seg (S := (fun x_ => St w0 x_ (Res.row (Value.slice A n c) 44 2 n (flat true ys) :: ((ys.map (It.row .i64 3)) ++ tl)))) [(4, Value.int .i64 0)] [.no] True (by kernel_rfl) trivial hS ?_
  refine l_nil rfl ?_
  refine then_n ?_
  refine wp_seq ?_
  refine wp_seq ?_
  refine c_reg ?_
  refine q_seg (S := (fun x_ => St w0 x_ (Res.row (Value.slice A n c) 44 2 n (flat true ys) :: ((ys.map (It.row .i64 3)) ++ tl)))) [(5, Value.int .i64 0)] [.no] True (by kernel_rfl) trivial hS ?_
  refine l_nil rfl ?_
  refine then_n ?_
  refine wp_block ?_
  refine c_loop (X := Nat) (fun (k : Nat) => [(0, Value.slice A n c), (1, Value.int .i64 (k0 + ((tot true (ys.take k) : Nat) : Int))), (5, Value.int .i64 ((k : Nat) : Int))]) (fun (k : Nat) (wr : World) => (k ≤ n) ∧ St w0 wr (Res.row (Value.slice A n c) 44 2 n (flat true (zat id true k0 ys k)) :: (((zat id true k0 ys k).map (It.row .i64 3)) ++ tl))) (fun (k : Nat) => n - k) 0 ?_ ?_ ?_
  · exact (agree_cons (by kernel_rfl) (agree_eq (v0 := Value.int .i64 k0) (by kernel_rfl) (congrArg (Value.int .i64) (by simp [tot])) (agree_cons (by kernel_rfl) agree_nil)))
  · exact ⟨Nat.zero_le _, (hS.eqv (by rw [zat_zero]))⟩
  rintro k g2 w1 ⟨hkn, hS1⟩
  refine wp_seq ?_
  refine wp_seq ?_
  refine c_reg ?_
  refine q_seg (S := (fun x_ => St w0 x_ (Res.row (Value.slice A n c) 44 2 n (flat true (zat id true k0 ys k)) :: (((zat id true k0 ys k).map (It.row .i64 3)) ++ tl)))) [(9, Value.bool (decide (((k : Nat) : Int) < ((n : Nat) : Int)))), (8, Value.int .i64 ((n : Nat) : Int)), (7, Value.slice A n c), (6, Value.int .i64 ((k : Nat) : Int))] [.no, .no, .no, .no] True (by kernel_rfl) trivial hS1 ?_
  refine l_nil rfl ?_
  refine then_n ?_
  rcases Bool.eq_false_or_eq_true (decide (((k : Nat) : Int) < ((n : Nat) : Int))) with hb3 | hb3
  · skip
    have hb3p := of_decide_eq_true hb3
    obtain ⟨y, hyk, hym⟩ := get_of_lt (l := ys) (k := k) (by omega)
    obtain ⟨blk4, rfl⟩ := hS1.row_at (List.mem_of_getElem? (i := 0) rfl) (by omega)
    have hto := tot_le (p := true) ys (k + 1)
    have htt := tot_take (p := true) hyk
    have hpi : pi true = 1 := rfl
    have hzg := zat_get (f := id) (p := true) (k0 := k0) hyk
    have hS1b : St w0 w1 (Res.row (Value.slice y.A y.zs.length y.c) 3 1 y.zs.length (y.zs.map (Value.int .i64)) :: Res.row (Value.slice (some ⟨blk4, 0, none⟩) n c) 44 2 n (flat true (zat id true k0 ys k)) :: ((((zat id true k0 ys k).eraseIdx k).map (It.row .i64 3)) ++ tl)) := hS1.bor hzg
    have hyb := hS1b.row_cap (i := 0) rfl
    unfold maxLen at hyb
    refine c_true (b := (decide (((k : Nat) : Int) < ((n : Nat) : Int)))) (by kernel_rfl) hb3 ?_
    refine wp_skip ?_
    refine then_n ?_
    refine wp_seq ?_
    refine wp_block ?_
    refine wp_seq ?_
    refine c_reg ?_
    refine q_seg (S := (fun x_ => St w0 x_ (Res.row (Value.slice y.A y.zs.length y.c) 3 1 y.zs.length (y.zs.map (Value.int .i64)) :: Res.row (Value.slice (some ⟨blk4, 0, none⟩) n c) 44 2 n (flat true (zat id true k0 ys k)) :: ((((zat id true k0 ys k).eraseIdx k).map (It.row .i64 3)) ++ tl)))) [(16, Value.pointer (some ⟨blk4, 0 + Int.toNat ((k : Nat) : Int) * 2 + 0, none⟩)), (15, Value.pointer (some ⟨blk4, 0 + Int.toNat ((k : Nat) : Int) * 2, none⟩)), (14, Value.int .i64 (k0 + ((tot true (ys.take k) : Nat) : Int))), (13, Value.int .i64 ((k : Nat) : Int)), (12, Value.slice (some ⟨blk4, 0, none⟩) n c)] [.no, .no, .no, .no, .no] (((0 : Int) ≤ ((k : Nat) : Int)) ∧ (((k : Nat) : Int) < ((n : Nat) : Int))) (by kernel_rfl) ⟨(by omega), (by omega)⟩ hS1b ?_
    have hlnw5 := hS1b.row_len (List.mem_of_getElem? (i := 1) rfl)
    refine l_op rfl rfl (fun K hK => op_storeRow (d := none) rfl rfl (i := 1) (b := blk4) (off := 0 + Int.toNat ((k : Nat) : Int) * 2 + 0) (m := n) (cap := c) (e := 44) (sz := 2) (xs := (flat true (zat id true k0 ys k))) (by kernel_rfl) (by kernel_rfl) [Value.int .i64 (k0 + ((tot true (ys.take k) : Nat) : Int))] (by kernel_rfl) (by kernel_rfl) (by rw [hlnw5]; simp only [List.length_cons, List.length_nil]; omega) (by rfl) (Res.row (Value.slice y.A y.zs.length y.c) 3 1 y.zs.length (y.zs.map (Value.int .i64)) :: Res.row (Value.slice (some ⟨blk4, 0, none⟩) n c) 44 2 n (List.take (0 + Int.toNat ((k : Nat) : Int) * 2 + 0) (flat true (zat id true k0 ys k)) ++ [Value.int .i64 (k0 + ((tot true (ys.take k) : Nat) : Int))] ++ List.drop (0 + Int.toNat ((k : Nat) : Int) * 2 + 0 + List.length [Value.int .i64 (k0 + ((tot true (ys.take k) : Nat) : Int))]) (flat true (zat id true k0 ys k))) :: ((((zat id true k0 ys k).eraseIdx k).map (It.row .i64 3)) ++ tl)) (by kernel_rfl) hS1b (fun w5 hS5 => hK _ _ ?_))
    clear hK K
    replace hS5 := hS5.eqv (own' := (Res.row (Value.slice y.A y.zs.length y.c) 3 1 y.zs.length (y.zs.map (Value.int .i64)) :: Res.row (Value.slice (some ⟨blk4, 0, none⟩) n c) 44 2 n (flat true ((zat id true k0 ys k).set k (It.mk (k0 + ((tot true (ys.take k) : Nat) : Int)) y.A y.c y.zs))) :: ((((zat id true k0 ys k).eraseIdx k).map (It.row .i64 3)) ++ tl))) (by rw [flat_set_s hzg (k0 + ((tot true (ys.take k) : Nat) : Int)) _ (by rw [Int.toNat_natCast]; omega) [Value.int .i64 (k0 + ((tot true (ys.take k) : Nat) : Int))] rfl])
    refine l_nil rfl ?_
    refine then_n ?_
    refine wp_seq ?_
    refine c_reg ?_
    refine q_seg (S := (fun x_ => St w0 x_ (Res.row (Value.slice y.A y.zs.length y.c) 3 1 y.zs.length (y.zs.map (Value.int .i64)) :: Res.row (Value.slice (some ⟨blk4, 0, none⟩) n c) 44 2 n (flat true ((zat id true k0 ys k).set k (It.mk (k0 + ((tot true (ys.take k) : Nat) : Int)) y.A y.c y.zs))) :: ((((zat id true k0 ys k).eraseIdx k).map (It.row .i64 3)) ++ tl)))) [(1, Value.int .i64 ((k0 + ((tot true (ys.take k) : Nat) : Int)) + (1 : Int))), (18, Value.int .i64 ((k0 + ((tot true (ys.take k) : Nat) : Int)) + (1 : Int))), (17, Value.int .i64 (k0 + ((tot true (ys.take k) : Nat) : Int)))] [.no, .no, .no] ((InK .i64 ((k0 + ((tot true (ys.take k) : Nat) : Int)) + (1 : Int)))) (by kernel_rfl) (in64 (by omega) (by omega)) hS5 ?_
    refine l_nil rfl ?_
    refine then_n ?_
    refine c_reg ?_
    refine q_seg (S := (fun x_ => St w0 x_ (Res.row (Value.slice y.A y.zs.length y.c) 3 1 y.zs.length (y.zs.map (Value.int .i64)) :: Res.row (Value.slice (some ⟨blk4, 0, none⟩) n c) 44 2 n (flat true ((zat id true k0 ys k).set k (It.mk (k0 + ((tot true (ys.take k) : Nat) : Int)) y.A y.c y.zs))) :: ((((zat id true k0 ys k).eraseIdx k).map (It.row .i64 3)) ++ tl)))) [(24, Value.int .i64 ((k0 + ((tot true (ys.take k) : Nat) : Int)) + (1 : Int))), (23, Value.slice y.A y.zs.length y.c), (22, Value.pointer (some ⟨blk4, 0 + Int.toNat ((k : Nat) : Int) * 2 + 1, none⟩)), (21, Value.pointer (some ⟨blk4, 0 + Int.toNat ((k : Nat) : Int) * 2, none⟩)), (20, Value.int .i64 ((k : Nat) : Int)), (19, Value.slice (some ⟨blk4, 0, none⟩) n c)] [.no, .no, .no, .no, .v (Value.slice y.A y.zs.length y.c), .no] (((0 : Int) ≤ ((k : Nat) : Int)) ∧ (((k : Nat) : Int) < ((n : Nat) : Int)) ∧ (LoadsAt Try.prog (fun x_ => St w0 x_ (Res.row (Value.slice y.A y.zs.length y.c) 3 1 y.zs.length (y.zs.map (Value.int .i64)) :: Res.row (Value.slice (some ⟨blk4, 0, none⟩) n c) 44 2 n (flat true ((zat id true k0 ys k).set k (It.mk (k0 + ((tot true (ys.take k) : Nat) : Int)) y.A y.c y.zs))) :: ((((zat id true k0 ys k).eraseIdx k).map (It.row .i64 3)) ++ tl))) 35 ⟨blk4, 0 + Int.toNat ((k : Nat) : Int) * 2 + 1, none⟩ (Value.slice y.A y.zs.length y.c))) (by kernel_rfl) ⟨(by omega), (by omega), (ld_row (i := 1) rfl (flat_at0 (p := true) (r := 1) (set_get hzg) rfl) (by kernel_rfl))⟩ hS5 ?_
    refine l_op rfl rfl (fun K hK => op_callm (d := some 25) rfl rfl ⟨_, Try.func27, by kernel_rfl, by kernel_rfl⟩ (vs := [Value.slice y.A y.zs.length y.c, Value.int .i64 ((k0 + ((tot true (ys.take k) : Nat) : Int)) + (1 : Int))]) (by kernel_rfl) (markIntS_c y.A y.zs.length y.c ((k0 + ((tot true (ys.take k) : Nat) : Int)) + (1 : Int)) _ _ w0 w5 (hS5.front 0 rfl) (by omega) (by omega) (by omega)) (fun v7 new8 w6 Rw6 hS6 => hK _ _ ?_))
    clear hK K
    obtain ⟨rfl, rfl⟩ := Rw6
    refine q_seg (S := (fun x_ => St w0 x_ (Res.row (Value.slice y.A y.zs.length y.c) 3 1 y.zs.length ((marks id ((k0 + ((tot true (ys.take k) : Nat) : Int)) + (1 : Int)) y.zs.length).map (Value.int .i64)) :: Res.row (Value.slice (some ⟨blk4, 0, none⟩) n c) 44 2 n (flat true ((zat id true k0 ys k).set k (It.mk (k0 + ((tot true (ys.take k) : Nat) : Int)) y.A y.c y.zs))) :: ((((zat id true k0 ys k).eraseIdx k).map (It.row .i64 3)) ++ tl)))) [(1, Value.int .i64 (((k0 + ((tot true (ys.take k) : Nat) : Int)) + (1 : Int)) + ((y.zs.length : Nat) : Int)))] [.no] True (by kernel_rfl) trivial hS6 ?_
    refine l_nil rfl ?_
    refine blk_n ?_
    refine then_n ?_
    refine c_reg ?_
    refine q_seg (S := (fun x_ => St w0 x_ (Res.row (Value.slice y.A y.zs.length y.c) 3 1 y.zs.length ((marks id ((k0 + ((tot true (ys.take k) : Nat) : Int)) + (1 : Int)) y.zs.length).map (Value.int .i64)) :: Res.row (Value.slice (some ⟨blk4, 0, none⟩) n c) 44 2 n (flat true ((zat id true k0 ys k).set k (It.mk (k0 + ((tot true (ys.take k) : Nat) : Int)) y.A y.c y.zs))) :: ((((zat id true k0 ys k).eraseIdx k).map (It.row .i64 3)) ++ tl)))) [(5, Value.int .i64 (((k : Nat) : Int) + (1 : Int))), (11, Value.int .i64 (((k : Nat) : Int) + (1 : Int))), (10, Value.int .i64 ((k : Nat) : Int))] [.no, .no, .no] ((InK .i64 (((k : Nat) : Int) + (1 : Int)))) (by kernel_rfl) (in64 (by omega) (by omega)) hS6 ?_
    refine l_nil rfl ?_
    refine then_n ?_
    have hSe := hS6
    refine round_end (k + 1) ?_ ?_ ?_
    · exact (agree_cons (by kernel_rfl) (agree_eq (v0 := Value.int .i64 (((k0 + ((tot true (ys.take k) : Nat) : Int)) + (1 : Int)) + ((y.zs.length : Nat) : Int))) (by kernel_rfl) (congrArg (Value.int .i64) (by rw [htt]; omega)) (agree_cons (by kernel_rfl) agree_nil)))
    · exact ⟨(by omega), (St.marked1 hSe hyk)⟩
    · exact (by first | omega | (dsimp only; omega))
  · skip
    have hb3p := of_decide_eq_false hb3
    refine c_false (b := (decide (((k : Nat) : Int) < ((n : Nat) : Int)))) (by kernel_rfl) hb3 ?_
    refine wp_exit ?_
    refine then_x ?_
    refine then_x ?_
    refine blk_hit ?_
    refine then_n ?_
    refine wp_seq ?_
    refine c_reg ?_
    refine q_seg (S := (fun x_ => St w0 x_ (Res.row (Value.slice A n c) 44 2 n (flat true (zat id true k0 ys k)) :: (((zat id true k0 ys k).map (It.row .i64 3)) ++ tl)))) [(4, Value.int .i64 (k0 + ((tot true (ys.take k) : Nat) : Int))), (26, Value.int .i64 (k0 + ((tot true (ys.take k) : Nat) : Int)))] [.no, .no] True (by kernel_rfl) trivial hS1 ?_
    refine l_nil rfl ?_
    refine then_n ?_
    refine wp_ret ?_
    have hkn2 : k = n := by omega
    have hkt : tot true (ys.take k) = totL true (ys.map (con true)) := by rw [List.take_of_length_le (by omega), tot_con]
    exact c_end (S := (fun x_ => St w0 x_ (Res.row (Value.slice A n c) 44 2 n (flat true (zat id true k0 ys k)) :: (((zat id true k0 ys k).map (It.row .i64 3)) ++ tl)))) (rs := [.tmp 4]) rfl [] (v := Value.int .i64 (k0 + ((tot true (ys.take k) : Nat) : Int))) (C := True) (by kernel_rfl) trivial hS1 (⟨_, _, rfl, hS1.eqv (by rw [zat_all (by omega)]), by rw [hkt], rfl⟩)
theorem toCellS_c (A : Option Addr) (n c : Nat) (L : List (Int × List Int)) (w : World) (hs : wt L ≤ 1099511627776) (hr : RdL .i64 true w w.heap.size A n L) : Calls Try.prog 41 #[.slice A n c] w (Ret w (fun v new => ∃ (A0_ : Option Addr) (c0_ : Nat) (y0_ : List It), v = Value.slice A0_ n c0_ ∧ new = Res.row (Value.slice A0_ n c0_) 44 2 n (flat true y0_) :: ((y0_.map (It.row .i64 3)) ++ []) ∧ y0_.map (con true) = L)) := by
  obtain ⟨hok, ys, hr, rfl⟩ := hr
  have hwl := wt_len (ys.map (con true))
  have hln := hr.len
  rw [List.length_map] at hwl
  refine calls_FA Try.func41 rfl (n := 23) rfl (l := [(0, Value.slice A n c)]) rfl (by simp) (fun g => ?_)
  have hS := St.init w
  refine wp_seq ?_
  refine c_reg ?_
  refine q_seg (S := (fun x_ => St w x_ [])) [(2, Value.slice none 0 0)] [.no] True (by kernel_rfl) trivial hS ?_
  refine l_nil rfl ?_
  refine then_n ?_
  refine wp_seq ?_
  refine c_reg ?_
  refine q_seg (S := (fun x_ => St w x_ [])) [(6, Value.int .i64 ((n : Nat) : Int)), (5, Value.slice A n c)] [.no, .no] True (by kernel_rfl) trivial hS ?_
  refine l_op rfl rfl (fun K hK => op_make (d := some 7) rfl rfl (e := 44) (by kernel_rfl) [Value.int .i64 0, Value.slice none 0 0] (by kernel_rfl) 2 (by kernel_rfl) 32 (by kernel_rfl) n n (kl := .i64) (kc := .i64) (by kernel_rfl) (by kernel_rfl) (by omega) (by omega) (by unfold maxLen; omega) hS (fun blk2 w1 hS1 => hK _ _ ?_))
  clear hK K
  refine q_seg (S := (fun x_ => St w x_ [Res.row (Value.slice (some ⟨blk2, 0, none⟩) n n) 44 2 n (zrow [Value.int .i64 0, Value.slice none 0 0] (n * 2))])) [(3, Value.slice (some ⟨blk2, 0, none⟩) n n)] [.no] True (by kernel_rfl) trivial hS1 ?_
  refine l_nil rfl ?_
  refine then_n ?_
  refine wp_seq ?_
  refine wp_seq ?_
  refine c_reg ?_
  refine q_seg (S := (fun x_ => St w x_ [Res.row (Value.slice (some ⟨blk2, 0, none⟩) n n) 44 2 n (zrow [Value.int .i64 0, Value.slice none 0 0] (n * 2))])) [(4, Value.int .i64 0)] [.no] True (by kernel_rfl) trivial hS1 ?_
  refine l_nil rfl ?_
  refine then_n ?_
  refine wp_block ?_
  refine c_loop (X := Nat × List It × List Value) (fun (x_ : Nat × List It × List Value) => match x_ with | (k, zs, rest) => [(0, Value.slice A n c), (3, Value.slice (some ⟨blk2, 0, none⟩) n n), (4, Value.int .i64 ((k : Nat) : Int))]) (fun (x_ : Nat × List It × List Value) (wr : World) => match x_ with | (k, zs, rest) => (k ≤ n) ∧ (zs.map (con true) = (ys.take k).map (con true)) ∧ St w wr (Res.row (Value.slice (some ⟨blk2, 0, none⟩) n n) 44 2 n ((flat true zs) ++ rest) :: ((zs.map (It.row .i64 3)) ++ []))) (fun (x_ : Nat × List It × List Value) => match x_ with | (k, zs, rest) => n - k) ((0, [], (zrow [Value.int .i64 0, Value.slice none 0 0] (n * 2)))) ?_ ?_ ?_
  · exact (agree_cons (by kernel_rfl) (agree_cons (by kernel_rfl) (agree_cons (by kernel_rfl) agree_nil)))
  · exact ⟨Nat.zero_le _, rfl, hS1⟩
  rintro ⟨k, zs, rest⟩ g4 w3 ⟨hkn, hzk, hS3⟩
  have hzl := con_lenk hzk hln hkn
  refine wp_seq ?_
  refine wp_seq ?_
  refine c_reg ?_
  refine q_seg (S := (fun x_ => St w x_ (Res.row (Value.slice (some ⟨blk2, 0, none⟩) n n) 44 2 n ((flat true zs) ++ rest) :: ((zs.map (It.row .i64 3)) ++ [])))) [(11, Value.bool (decide (((k : Nat) : Int) < ((n : Nat) : Int)))), (10, Value.int .i64 ((n : Nat) : Int)), (9, Value.slice A n c), (8, Value.int .i64 ((k : Nat) : Int))] [.no, .no, .no, .no] True (by kernel_rfl) trivial hS3 ?_
  refine l_nil rfl ?_
  refine then_n ?_
  rcases Bool.eq_false_or_eq_true (decide (((k : Nat) : Int) < ((n : Nat) : Int))) with hb5 | hb5
  · skip
    have hb5p := of_decide_eq_true hb5
    obtain ⟨b, off, rfl, hbB, hcl⟩ := hr.at (k := k) (by omega)
    obtain ⟨y, hyk, hym⟩ := get_of_lt (l := ys) (k := k) (by have := hr.len; omega)
    obtain ⟨hy1, hy2, hy3⟩ := hr.el y hym
    obtain ⟨hyi, hyz⟩ := hok _ (List.mem_map_of_mem (f := (con true)) hym)
    have hyl : y.zs.length + 1 ≤ wt (ys.map (con true)) := wt_mem (List.mem_map_of_mem (f := (con true)) hym)
    refine c_true (b := (decide (((k : Nat) : Int) < ((n : Nat) : Int)))) (by kernel_rfl) hb5 ?_
    refine wp_skip ?_
    refine then_n ?_
    refine wp_seq ?_
    refine wp_block ?_
    refine c_reg ?_
    refine q_seg (S := (fun x_ => St w x_ (Res.row (Value.slice (some ⟨blk2, 0, none⟩) n n) 44 2 n ((flat true zs) ++ rest) :: ((zs.map (It.row .i64 3)) ++ [])))) [(19, Value.agg #[Value.int .i64 y.s, Value.slice y.A y.zs.length y.c]), (18, Value.pointer (some ⟨b, off + Int.toNat ((k : Nat) : Int) * 2, none⟩)), (17, Value.int .i64 ((k : Nat) : Int)), (16, Value.slice (some ⟨b, off, none⟩) n c), (15, Value.int .i64 ((k : Nat) : Int)), (14, Value.slice (some ⟨blk2, 0, none⟩) n n)] [.no, .no, .no, .no, .no, .v (Value.agg #[Value.int .i64 y.s, Value.slice y.A y.zs.length y.c])] (((0 : Int) ≤ ((k : Nat) : Int)) ∧ (((k : Nat) : Int) < ((n : Nat) : Int)) ∧ (LoadsAt Try.prog (fun x_ => St w x_ (Res.row (Value.slice (some ⟨blk2, 0, none⟩) n n) 44 2 n ((flat true zs) ++ rest) :: ((zs.map (It.row .i64 3)) ++ []))) 74 ⟨b, off + Int.toNat ((k : Nat) : Int) * 2, none⟩ (Value.agg #[Value.int .i64 y.s, Value.slice y.A y.zs.length y.c]))) (by kernel_rfl) ⟨(by omega), (by omega), (ld_lowN (k := 2) (vs := [Value.int .i64 y.s, Value.slice y.A y.zs.length y.c]) (by kernel_rfl) rfl (flat_cells (p := true) hcl hyk))⟩ hS3 ?_
    refine l_op rfl rfl (fun K hK => op_call (d := some 20) rfl rfl ⟨_, Try.func50, by kernel_rfl, by kernel_rfl⟩ (vs := [Value.agg #[Value.int .i64 y.s, Value.slice y.A y.zs.length y.c]]) (by kernel_rfl) (toCell_c y.s y.A y.zs.length y.c y.zs w3 (by omega) (hS3.rdlow hy1)) hS3 (fun v7 new8 w6 Rw6 hS6 => hK _ _ ?_))
    clear hK K
    obtain ⟨blk9, rfl, rfl⟩ := Rw6
    refine q_seg (S := (fun x_ => St w x_ (Res.row (Value.slice (some ⟨blk9, 0, none⟩) y.zs.length y.zs.length) 3 1 y.zs.length (y.zs.map (Value.int .i64)) :: Res.row (Value.slice (some ⟨blk2, 0, none⟩) n n) 44 2 n ((flat true zs) ++ rest) :: ((zs.map (It.row .i64 3)) ++ [])))) [(21, Value.pointer (some ⟨blk2, 0 + Int.toNat ((k : Nat) : Int) * 2, none⟩))] [.no] (((0 : Int) ≤ ((k : Nat) : Int)) ∧ (((k : Nat) : Int) < ((n : Nat) : Int))) (by kernel_rfl) ⟨(by omega), (by omega)⟩ hS6 ?_
    have hlnw10 := hS6.row_len (List.mem_of_getElem? (i := 1) rfl)
    refine l_op rfl rfl (fun K hK => op_storeRow (d := none) rfl rfl (i := 1) (b := blk2) (off := 0 + Int.toNat ((k : Nat) : Int) * 2) (m := n) (cap := n) (e := 44) (sz := 2) (xs := ((flat true zs) ++ rest)) (by kernel_rfl) (by kernel_rfl) [Value.int .i64 y.s, Value.slice (some ⟨blk9, 0, none⟩) y.zs.length y.zs.length] (by kernel_rfl) (by kernel_rfl) (by rw [hlnw10]; simp only [List.length_cons, List.length_nil]; omega) (by rfl) (Res.row (Value.slice (some ⟨blk9, 0, none⟩) y.zs.length y.zs.length) 3 1 y.zs.length (y.zs.map (Value.int .i64)) :: Res.row (Value.slice (some ⟨blk2, 0, none⟩) n n) 44 2 n (List.take (0 + Int.toNat ((k : Nat) : Int) * 2) ((flat true zs) ++ rest) ++ [Value.int .i64 y.s, Value.slice (some ⟨blk9, 0, none⟩) y.zs.length y.zs.length] ++ List.drop (0 + Int.toNat ((k : Nat) : Int) * 2 + List.length [Value.int .i64 y.s, Value.slice (some ⟨blk9, 0, none⟩) y.zs.length y.zs.length]) ((flat true zs) ++ rest)) :: ((zs.map (It.row .i64 3)) ++ [])) (by kernel_rfl) hS6 (fun w10 hS10 => hK _ _ ?_))
    clear hK K
    replace hS10 := hS10.eqv (own' := (Res.row (Value.slice (some ⟨blk9, 0, none⟩) y.zs.length y.zs.length) 3 1 y.zs.length (y.zs.map (Value.int .i64)) :: Res.row (Value.slice (some ⟨blk2, 0, none⟩) n n) 44 2 n ((flat true (zs ++ [(It.mk y.s (some ⟨blk9, 0, none⟩) y.zs.length y.zs)])) ++ rest.drop 2) :: ((zs.map (It.row .i64 3)) ++ []))) (by rw [deep_fill (p := true) (y := (It.mk y.s (some ⟨blk9, 0, none⟩) y.zs.length y.zs)) hzl _ (by rw [Int.toNat_natCast, Nat.zero_add]; rfl) [Value.int .i64 y.s, Value.slice (some ⟨blk9, 0, none⟩) y.zs.length y.zs.length] rfl 2 rfl])
    refine l_nil rfl ?_
    refine blk_n ?_
    refine then_n ?_
    refine c_reg ?_
    refine q_seg (S := (fun x_ => St w x_ (Res.row (Value.slice (some ⟨blk9, 0, none⟩) y.zs.length y.zs.length) 3 1 y.zs.length (y.zs.map (Value.int .i64)) :: Res.row (Value.slice (some ⟨blk2, 0, none⟩) n n) 44 2 n ((flat true (zs ++ [(It.mk y.s (some ⟨blk9, 0, none⟩) y.zs.length y.zs)])) ++ rest.drop 2) :: ((zs.map (It.row .i64 3)) ++ [])))) [(4, Value.int .i64 (((k : Nat) : Int) + (1 : Int))), (13, Value.int .i64 (((k : Nat) : Int) + (1 : Int))), (12, Value.int .i64 ((k : Nat) : Int))] [.no, .no, .no] ((InK .i64 (((k : Nat) : Int) + (1 : Int)))) (by kernel_rfl) (in64 (by omega) (by omega)) hS10 ?_
    refine l_nil rfl ?_
    refine then_n ?_
    have hSe := (hS10.sub (List.Sublist.cons_cons _ (List.Sublist.cons_cons _ (List.Sublist.append (List.Sublist.refl _) List.Sublist.slnil))))
    refine round_end ((k + 1, zs ++ [(It.mk y.s (some ⟨blk9, 0, none⟩) y.zs.length y.zs)], rest.drop 2)) ?_ ?_ ?_
    · exact (agree_cons (by kernel_rfl) (agree_cons (by kernel_rfl) (agree_cons (by kernel_rfl) agree_nil)))
    · exact ⟨(by omega), (con_take hzk hyk rfl), (St.pickI (κ := .i64) (tb := 3) [Res.row (Value.slice (some ⟨blk2, 0, none⟩) n n) 44 2 n ((flat true (zs ++ [(It.mk y.s (some ⟨blk9, 0, none⟩) y.zs.length y.zs)])) ++ rest.drop 2)] [] zs (It.mk y.s (some ⟨blk9, 0, none⟩) y.zs.length y.zs) hSe)⟩
    · exact (by first | omega | (dsimp only; omega))
  · skip
    have hb5p := of_decide_eq_false hb5
    refine c_false (b := (decide (((k : Nat) : Int) < ((n : Nat) : Int)))) (by kernel_rfl) hb5 ?_
    refine wp_exit ?_
    refine then_x ?_
    refine then_x ?_
    refine blk_hit ?_
    refine then_n ?_
    refine wp_seq ?_
    refine c_reg ?_
    refine q_seg (S := (fun x_ => St w x_ (Res.row (Value.slice (some ⟨blk2, 0, none⟩) n n) 44 2 n ((flat true zs) ++ rest) :: ((zs.map (It.row .i64 3)) ++ [])))) [(2, Value.slice (some ⟨blk2, 0, none⟩) n n), (22, Value.slice (some ⟨blk2, 0, none⟩) n n)] [.no, .no] True (by kernel_rfl) trivial hS3 ?_
    refine l_nil rfl ?_
    refine then_n ?_
    refine wp_ret ?_
    have hkn2 : k = n := by omega
    have hrl := hS3.row_len (List.mem_of_getElem? (i := 0) rfl)
    rw [List.length_append, flat_length, hzl, hkn2] at hrl
    have hr0 : rest = [] := List.eq_nil_of_length_eq_zero (by simp only [csz] at hrl; omega)
    rw [hkn2] at hzk
    exact c_end (S := (fun x_ => St w x_ (Res.row (Value.slice (some ⟨blk2, 0, none⟩) n n) 44 2 n ((flat true zs) ++ rest) :: ((zs.map (It.row .i64 3)) ++ [])))) (rs := [.tmp 2]) rfl [] (v := Value.slice (some ⟨blk2, 0, none⟩) n n) (C := True) (by kernel_rfl) trivial hS3 ((hS3.eqv (by rw [hr0, List.append_nil (flat true zs)])).rt ⟨_, _, zs, rfl, rfl, by rw [con_all hzk hln (Nat.le_refl _)]⟩)
end Go.Proofs.Ytkcedoehehjceaa
