/-
  Contracts of AcknowledgeBelow, of the program and of the reference.
-/
import Derived.Test.YtchkiohikhfecaaGSp
import Derived.Test.YtchkiohikhfecaaAck
namespace Go.Proofs.Ytchkiohikhfecaa
open Go.RowKit
set_option maxRecDepth 100000

theorem AcknowledgeBelow_i_c (a0 : Int) (a1A : Option Addr) (a1n a1c : Nat) (a1L : List (Int × List Int)) (b0 : Int) (w : World) (a1h : RdL .u8 true w w.heap.size a1A a1n a1L) (a1w : wt a1L ≤ 1099511627776) : Calls Try.prog 45 #[Value.agg #[Value.int .i64 a0, Value.slice a1A a1n a1c], .int .i64 b0] w (Ret w (fun v new => ∃ (A0_ : Option Addr) (c0_ : Nat) (y0_ : List It), v = Value.agg #[Value.int .i64 a0, Value.slice A0_ (List.length (ackL b0 a0 a1L)) c0_] ∧ new = Res.row (Value.slice A0_ (List.length (ackL b0 a0 a1L)) c0_) 37 2 (List.length (ackL b0 a0 a1L)) (flat true y0_) :: ((y0_.map (It.row .u8 5)) ++ []) ∧ y0_.map (con true) = (ackL b0 a0 a1L))) := by
  have hm0 := a1h
  obtain ⟨hok, ys, hr, rfl⟩ := a1h
  have hwl := wt_len (ys.map (con true))
  have hln := hr.len
  rw [List.length_map] at hwl
  refine calls_FA Try.func45 rfl (n := 36) rfl (l := [(0, Value.agg #[Value.int .i64 a0, Value.slice a1A a1n a1c]), (1, Value.int .i64 b0)]) rfl (by simp) (fun g => ?_)
  have hS := St.init w
  refine wp_seq ?_
  refine c_reg ?_
  refine l_op rfl rfl (fun K hK => op_box (d := some 2) rfl rfl [Value.int .i64 a0, Value.slice a1A a1n a1c] (by kernel_rfl) hS (fun blk2 w1 hS1 => hK _ _ ?_))
  clear hK K
  refine l_op rfl rfl (fun K hK => op_alloc (d := some 4) rfl rfl [Value.int .i64 0, Value.slice none 0 0] (by kernel_rfl) hS1 (fun blk4 w3 hS3 => hK _ _ ?_))
  clear hK K
  refine l_nil rfl ?_
  refine then_n ?_
  refine wp_seq ?_
  refine wp_seq ?_
  refine c_reg ?_
  refine q_seg (S := (fun x_ => St w x_ [Res.box blk4 [Value.int .i64 0, Value.slice none 0 0] 55, Res.box blk2 [Value.int .i64 a0, Value.slice a1A a1n a1c] 55])) [(11, Value.bool (decide (a0 < b0))), (10, Value.int .i64 a0), (9, Value.pointer (some ⟨blk2, 0 + 0, none⟩)), (8, Value.int .i64 b0)] [.no, .no, .v (Value.int .i64 a0), .no] ((LoadsAt Try.prog (fun x_ => St w x_ [Res.box blk4 [Value.int .i64 0, Value.slice none 0 0] 55, Res.box blk2 [Value.int .i64 a0, Value.slice a1A a1n a1c] 55]) 3 ⟨blk2, 0 + 0, none⟩ (Value.int .i64 a0))) (by kernel_rfl) (ld_box (i := 1) rfl rfl (by kernel_rfl)) hS3 ?_
  refine l_nil rfl ?_
  refine then_n ?_
  rcases Bool.eq_false_or_eq_true (decide (a0 < b0)) with hb5 | hb5
  · skip
    have hb5p := of_decide_eq_true hb5
    refine c_true (b := (decide (a0 < b0))) (by kernel_rfl) hb5 ?_
    refine wp_seq ?_
    refine c_reg ?_
    refine q_seg (S := (fun x_ => St w x_ [Res.box blk4 [Value.int .i64 0, Value.slice none 0 0] 55, Res.box blk2 [Value.int .i64 a0, Value.slice a1A a1n a1c] 55])) [(12, Value.agg #[Value.int .i64 a0, Value.slice a1A a1n a1c])] [.v (Value.agg #[Value.int .i64 a0, Value.slice a1A a1n a1c])] ((LoadsAt Try.prog (fun x_ => St w x_ [Res.box blk4 [Value.int .i64 0, Value.slice none 0 0] 55, Res.box blk2 [Value.int .i64 a0, Value.slice a1A a1n a1c] 55]) 55 ⟨blk2, 0, none⟩ (Value.agg #[Value.int .i64 a0, Value.slice a1A a1n a1c]))) (by kernel_rfl) (ld_boxN (i := 1) (k := 2) rfl rfl rfl (by kernel_rfl)) hS3 ?_
    refine l_op rfl rfl (fun K hK => op_call (d := some 13) rfl rfl ⟨_, Try.func87, by kernel_rfl, by kernel_rfl⟩ (vs := [Value.agg #[Value.int .i64 a0, Value.slice a1A a1n a1c]]) (by kernel_rfl) (copySender_i_c a0 a1A a1n a1c (ys.map (con true)) w3 (hS3.rdllow hm0) a1w) hS3 (fun v7 new8 w6 Rw6 hS6 => hK _ _ ?_))
    clear hK K
    obtain ⟨Aq9, cq10, yq11, rfl, rfl, hcq12⟩ := Rw6
    have hS6r : St w w6 (Res.row (Value.slice Aq9 a1n cq10) 37 2 a1n (flat true yq11) :: Res.box blk4 [Value.int .i64 0, Value.slice none 0 0] 55 :: Res.box blk2 [Value.int .i64 a0, Value.slice a1A a1n a1c] 55 :: ((yq11.map (It.row .u8 5)) ++ [])) := St.rot_1 [Res.row (Value.slice Aq9 a1n cq10) 37 2 a1n (flat true yq11)] [Res.box blk4 [Value.int .i64 0, Value.slice none 0 0] 55, Res.box blk2 [Value.int .i64 a0, Value.slice a1A a1n a1c] 55] [] (yq11.map (It.row .u8 5)) hS6
    refine l_op rfl rfl (fun K hK => op_store (d := none) rfl rfl (i := 1) (b := blk4) (off := 0) (cs := [Value.int .i64 0, Value.slice none 0 0]) (bt := 55) (by kernel_rfl) (by kernel_rfl) [Value.int .i64 a0, Value.slice Aq9 a1n cq10] (by kernel_rfl) (by kernel_rfl) (Nat.le_of_ble_eq_true (by kernel_rfl)) (by kernel_rfl) (Res.row (Value.slice Aq9 a1n cq10) 37 2 a1n (flat true yq11) :: Res.box blk4 [Value.int .i64 a0, Value.slice Aq9 a1n cq10] 55 :: Res.box blk2 [Value.int .i64 a0, Value.slice a1A a1n a1c] 55 :: ((yq11.map (It.row .u8 5)) ++ [])) (by kernel_rfl) hS6r (fun w13 hS13 => hK _ _ ?_))
    clear hK K
    refine l_nil rfl ?_
    refine then_n ?_
    refine wp_ret ?_
    refine then_r ?_
    have hS13s1 : St w w13 (Res.row (Value.slice Aq9 a1n cq10) 37 2 a1n (flat true yq11) :: ((yq11.map (It.row .u8 5)) ++ [])) := (hS13.sub (List.Sublist.cons_cons _ (List.Sublist.cons _ (List.Sublist.cons _ (List.Sublist.append (List.Sublist.refl _) List.Sublist.slnil)))))
    exact c_end (S := (fun x_ => St w x_ (Res.row (Value.slice Aq9 a1n cq10) 37 2 a1n (flat true yq11) :: Res.box blk4 [Value.int .i64 a0, Value.slice Aq9 a1n cq10] 55 :: Res.box blk2 [Value.int .i64 a0, Value.slice a1A a1n a1c] 55 :: ((yq11.map (It.row .u8 5)) ++ [])))) (rs := [.cell 4 55]) rfl [Value.agg #[Value.int .i64 a0, Value.slice Aq9 a1n cq10]] (v := Value.agg #[Value.int .i64 a0, Value.slice Aq9 a1n cq10]) (C := ((LoadsAt Try.prog (fun x_ => St w x_ (Res.row (Value.slice Aq9 a1n cq10) 37 2 a1n (flat true yq11) :: Res.box blk4 [Value.int .i64 a0, Value.slice Aq9 a1n cq10] 55 :: Res.box blk2 [Value.int .i64 a0, Value.slice a1A a1n a1c] 55 :: ((yq11.map (It.row .u8 5)) ++ []))) 55 ⟨blk4, 0, none⟩ (Value.agg #[Value.int .i64 a0, Value.slice Aq9 a1n cq10])))) (by kernel_rfl) (ld_boxN (i := 1) (k := 2) rfl rfl rfl (by kernel_rfl)) hS13 (by rw [show ackL b0 a0 (ys.map (con true)) = (ys.map (con true)) from if_pos hb5p]; first | exact hS13s1.rt ⟨_, _, _, rfl, rfl, hcq12⟩ | (rw [show List.length (ys.map (con true)) = a1n from by rw [List.length_map]; exact hln]; exact hS13s1.rt ⟨_, _, _, rfl, rfl, hcq12⟩))
  · skip
    have hb5p := of_decide_eq_false hb5
    refine c_false (b := (decide (a0 < b0))) (by kernel_rfl) hb5 ?_
    refine wp_skip ?_
    refine then_n ?_
    refine wp_seq ?_
    refine c_reg ?_
    refine l_op rfl rfl (fun K hK => op_buildSlice (d := some 14) rfl rfl (e := 37) (by kernel_rfl) 2 (by kernel_rfl) (by decide) (by decide) [] (by kernel_rfl) rfl hS3 (fun blk15 w14 hS14 => hK _ _ ?_))
    clear hK K
    refine q_seg (S := (fun x_ => St w x_ [Res.row (Value.slice (some ⟨blk15, 0, none⟩) 0 0) 37 2 0 ([]), Res.box blk4 [Value.int .i64 0, Value.slice none 0 0] 55, Res.box blk2 [Value.int .i64 a0, Value.slice a1A a1n a1c] 55])) [(5, Value.slice (some ⟨blk15, 0, none⟩) 0 0)] [.no] True (by kernel_rfl) trivial hS14 ?_
    refine l_nil rfl ?_
    refine then_n ?_
    refine wp_seq ?_
    refine wp_seq ?_
    refine c_reg ?_
    refine q_seg (S := (fun x_ => St w x_ [Res.row (Value.slice (some ⟨blk15, 0, none⟩) 0 0) 37 2 0 ([]), Res.box blk4 [Value.int .i64 0, Value.slice none 0 0] 55, Res.box blk2 [Value.int .i64 a0, Value.slice a1A a1n a1c] 55])) [(18, Value.int .i64 0), (17, Value.int .i64 ((a1n : Nat) : Int)), (16, Value.slice a1A a1n a1c), (15, Value.pointer (some ⟨blk2, 0 + 1, none⟩))] [.no, .v (Value.slice a1A a1n a1c), .no, .no] ((LoadsAt Try.prog (fun x_ => St w x_ [Res.row (Value.slice (some ⟨blk15, 0, none⟩) 0 0) 37 2 0 ([]), Res.box blk4 [Value.int .i64 0, Value.slice none 0 0] 55, Res.box blk2 [Value.int .i64 a0, Value.slice a1A a1n a1c] 55]) 31 ⟨blk2, 0 + 1, none⟩ (Value.slice a1A a1n a1c))) (by kernel_rfl) (ld_box (i := 2) rfl rfl (by kernel_rfl)) hS14 ?_
    refine l_nil rfl ?_
    refine then_n ?_
    refine wp_block ?_
    refine c_loop (X := Nat × Option Addr × Nat) (fun (x_ : Nat × Option Addr × Nat) => match x_ with | (k, A2, c2) => [(1, Value.int .i64 b0), (2, Value.pointer (some ⟨blk2, 0, none⟩)), (4, Value.pointer (some ⟨blk4, 0, none⟩)), (5, Value.slice A2 (List.length (fI b0 (ys.take k))) c2), (16, Value.slice a1A a1n a1c), (17, Value.int .i64 ((a1n : Nat) : Int)), (18, Value.int .i64 ((k : Nat) : Int))]) (fun (x_ : Nat × Option Addr × Nat) (wr : World) => match x_ with | (k, A2, c2) => (k ≤ a1n) ∧ St w wr [Res.row (Value.slice A2 (List.length (fI b0 (ys.take k))) c2) 37 2 (List.length (fI b0 (ys.take k))) (flat true (fI b0 (ys.take k))), Res.box blk4 [Value.int .i64 0, Value.slice none 0 0] 55, Res.box blk2 [Value.int .i64 a0, Value.slice a1A a1n a1c] 55]) (fun (x_ : Nat × Option Addr × Nat) => match x_ with | (k, A2, c2) => a1n - k) ((0, (some ⟨blk15, 0, none⟩), 0)) ?_ ?_ ?_
    · exact (agree_cons (by kernel_rfl) (agree_cons (by kernel_rfl) (agree_cons (by kernel_rfl) (agree_cons (by kernel_rfl) (agree_cons (by kernel_rfl) (agree_cons (by kernel_rfl) (agree_cons (by kernel_rfl) agree_nil)))))))
    · exact ⟨Nat.zero_le _, hS14⟩
    rintro ⟨k, A2, c2⟩ g17 w16 ⟨hkn, hS16⟩
    have hfl : (fI b0 (ys.take k)).length ≤ a1n := by have := List.length_filter_le (fun y : It => decide (b0 ≤ y.s)) (ys.take k); have := List.length_take_le k ys; unfold fI; omega
    refine wp_seq ?_
    refine c_reg ?_
    refine q_seg (S := (fun x_ => St w x_ [Res.row (Value.slice A2 (List.length (fI b0 (ys.take k))) c2) 37 2 (List.length (fI b0 (ys.take k))) (flat true (fI b0 (ys.take k))), Res.box blk4 [Value.int .i64 0, Value.slice none 0 0] 55, Res.box blk2 [Value.int .i64 a0, Value.slice a1A a1n a1c] 55])) [(19, Value.bool (decide (((k : Nat) : Int) < ((a1n : Nat) : Int))))] [.no] True (by kernel_rfl) trivial hS16 ?_
    refine l_nil rfl ?_
    refine then_n ?_
    refine wp_seq ?_
    rcases Bool.eq_false_or_eq_true (decide (((k : Nat) : Int) < ((a1n : Nat) : Int))) with hb18 | hb18
    · skip
      have hb18p := of_decide_eq_true hb18
      obtain ⟨b, off, rfl, hbB, hcl⟩ := hr.at (k := k) (by omega)
      obtain ⟨y, hyk, hym⟩ := get_of_lt (l := ys) (k := k) (by have := hr.len; omega)
      obtain ⟨hy1, hy2, hy3⟩ := hr.el y hym
      obtain ⟨hyi, hyz⟩ := hok _ (List.mem_map_of_mem (f := (con true)) hym)
      have hyl : y.zs.length + 1 ≤ wt (ys.map (con true)) := wt_mem (List.mem_map_of_mem (f := (con true)) hym)
      unfold maxLen at hy3
      refine c_true (b := (decide (((k : Nat) : Int) < ((a1n : Nat) : Int)))) (by kernel_rfl) hb18 ?_
      refine wp_skip ?_
      refine then_n ?_
      refine wp_seq ?_
      refine wp_block ?_
      refine wp_seq ?_
      refine c_reg ?_
      refine q_seg (S := (fun x_ => St w x_ [Res.row (Value.slice A2 (List.length (fI b0 (ys.take k))) c2) 37 2 (List.length (fI b0 (ys.take k))) (flat true (fI b0 (ys.take k))), Res.box blk4 [Value.int .i64 0, Value.slice none 0 0] 55, Res.box blk2 [Value.int .i64 a0, Value.slice (some ⟨b, off, none⟩) a1n a1c] 55])) [(21, Value.agg #[Value.int .i64 y.s, Value.slice y.A y.zs.length y.c]), (20, Value.pointer (some ⟨b, off + Int.toNat ((k : Nat) : Int) * 2, none⟩))] [.no, .v (Value.agg #[Value.int .i64 y.s, Value.slice y.A y.zs.length y.c])] (((0 : Int) ≤ ((k : Nat) : Int)) ∧ (((k : Nat) : Int) < ((a1n : Nat) : Int)) ∧ (LoadsAt Try.prog (fun x_ => St w x_ [Res.row (Value.slice A2 (List.length (fI b0 (ys.take k))) c2) 37 2 (List.length (fI b0 (ys.take k))) (flat true (fI b0 (ys.take k))), Res.box blk4 [Value.int .i64 0, Value.slice none 0 0] 55, Res.box blk2 [Value.int .i64 a0, Value.slice (some ⟨b, off, none⟩) a1n a1c] 55]) 37 ⟨b, off + Int.toNat ((k : Nat) : Int) * 2, none⟩ (Value.agg #[Value.int .i64 y.s, Value.slice y.A y.zs.length y.c]))) (by kernel_rfl) ⟨(by omega), (by omega), (ld_lowN (k := 2) (vs := [Value.int .i64 y.s, Value.slice y.A y.zs.length y.c]) (by kernel_rfl) rfl (flat_cells (p := true) hcl hyk))⟩ hS16 ?_
      refine l_op rfl rfl (fun K hK => op_alloc (d := some 7) rfl rfl [Value.int .i64 0, Value.slice none 0 0] (by kernel_rfl) hS16 (fun blk20 w19 hS19 => hK _ _ ?_))
      clear hK K
      refine l_op rfl rfl (fun K hK => op_store (d := none) rfl rfl (i := 0) (b := blk20) (off := 0) (cs := [Value.int .i64 0, Value.slice none 0 0]) (bt := 37) (by kernel_rfl) (by kernel_rfl) [Value.int .i64 y.s, Value.slice y.A y.zs.length y.c] (by kernel_rfl) (by kernel_rfl) (Nat.le_of_ble_eq_true (by kernel_rfl)) (by kernel_rfl) [Res.box blk20 [Value.int .i64 y.s, Value.slice y.A y.zs.length y.c] 37, Res.row (Value.slice A2 (List.length (fI b0 (ys.take k))) c2) 37 2 (List.length (fI b0 (ys.take k))) (flat true (fI b0 (ys.take k))), Res.box blk4 [Value.int .i64 0, Value.slice none 0 0] 55, Res.box blk2 [Value.int .i64 a0, Value.slice (some ⟨b, off, none⟩) a1n a1c] 55] (by kernel_rfl) hS19 (fun w21 hS21 => hK _ _ ?_))
      clear hK K
      refine l_nil rfl ?_
      refine then_n ?_
      refine wp_seq ?_
      refine c_reg ?_
      refine q_seg (S := (fun x_ => St w x_ [Res.box blk20 [Value.int .i64 y.s, Value.slice y.A y.zs.length y.c] 37, Res.row (Value.slice A2 (List.length (fI b0 (ys.take k))) c2) 37 2 (List.length (fI b0 (ys.take k))) (flat true (fI b0 (ys.take k))), Res.box blk4 [Value.int .i64 0, Value.slice none 0 0] 55, Res.box blk2 [Value.int .i64 a0, Value.slice (some ⟨b, off, none⟩) a1n a1c] 55])) [(25, Value.bool (decide (b0 ≤ y.s))), (24, Value.int .i64 b0), (23, Value.int .i64 y.s), (22, Value.pointer (some ⟨blk20, 0 + 0, none⟩))] [.no, .v (Value.int .i64 y.s), .no, .no] ((LoadsAt Try.prog (fun x_ => St w x_ [Res.box blk20 [Value.int .i64 y.s, Value.slice y.A y.zs.length y.c] 37, Res.row (Value.slice A2 (List.length (fI b0 (ys.take k))) c2) 37 2 (List.length (fI b0 (ys.take k))) (flat true (fI b0 (ys.take k))), Res.box blk4 [Value.int .i64 0, Value.slice none 0 0] 55, Res.box blk2 [Value.int .i64 a0, Value.slice (some ⟨b, off, none⟩) a1n a1c] 55]) 3 ⟨blk20, 0 + 0, none⟩ (Value.int .i64 y.s))) (by kernel_rfl) (ld_box (i := 0) rfl rfl (by kernel_rfl)) hS21 ?_
      refine l_nil rfl ?_
      refine then_n ?_
      rcases Bool.eq_false_or_eq_true (decide (b0 ≤ y.s)) with hb22 | hb22
      · skip
        have hb22p := of_decide_eq_true hb22
        refine c_true (b := (decide (b0 ≤ y.s))) (by kernel_rfl) hb22 ?_
        refine c_reg ?_
        refine q_seg (S := (fun x_ => St w x_ [Res.box blk20 [Value.int .i64 y.s, Value.slice y.A y.zs.length y.c] 37, Res.row (Value.slice A2 (List.length (fI b0 (ys.take k))) c2) 37 2 (List.length (fI b0 (ys.take k))) (flat true (fI b0 (ys.take k))), Res.box blk4 [Value.int .i64 0, Value.slice none 0 0] 55, Res.box blk2 [Value.int .i64 a0, Value.slice (some ⟨b, off, none⟩) a1n a1c] 55])) [(27, Value.agg #[Value.int .i64 y.s, Value.slice y.A y.zs.length y.c]), (26, Value.slice A2 (List.length (fI b0 (ys.take k))) c2)] [.no, .v (Value.agg #[Value.int .i64 y.s, Value.slice y.A y.zs.length y.c])] ((LoadsAt Try.prog (fun x_ => St w x_ [Res.box blk20 [Value.int .i64 y.s, Value.slice y.A y.zs.length y.c] 37, Res.row (Value.slice A2 (List.length (fI b0 (ys.take k))) c2) 37 2 (List.length (fI b0 (ys.take k))) (flat true (fI b0 (ys.take k))), Res.box blk4 [Value.int .i64 0, Value.slice none 0 0] 55, Res.box blk2 [Value.int .i64 a0, Value.slice (some ⟨b, off, none⟩) a1n a1c] 55]) 37 ⟨blk20, 0, none⟩ (Value.agg #[Value.int .i64 y.s, Value.slice y.A y.zs.length y.c]))) (by kernel_rfl) (ld_boxN (i := 0) (k := 2) rfl rfl rfl (by kernel_rfl)) hS21 ?_
        refine l_op rfl rfl (fun K hK => op_buildSlice (d := some 28) rfl rfl (e := 37) (by kernel_rfl) 2 (by kernel_rfl) (by decide) (by decide) [Value.int .i64 y.s, Value.slice y.A y.zs.length y.c] (by kernel_rfl) rfl hS21 (fun blk24 w23 hS23 => hK _ _ ?_))
        clear hK K
        refine l_op rfl rfl (fun K hK => op_append (d := some 29) rfl rfl el_37 hS23 (i := 2) rfl rfl rfl (news := [Value.int .i64 y.s, Value.slice y.A y.zs.length y.c]) (hS23.rd (List.mem_of_getElem? (i := 0) rfl)) (all_one (by rfl)) (by omega) (by omega) (fun v26 w25 hS25 => hK _ _ ?_))
        clear hK K
        obtain ⟨hlv26, Av26, cv26, hvv26, hnv26, hmv26⟩ := hS25.row_slice (List.mem_of_getElem? (i := 2) rfl)
        subst hvv26
        refine q_seg (S := (fun x_ => St w x_ [Res.row (Value.slice (some ⟨blk24, 0, none⟩) 1 1) 37 2 1 ([Value.int .i64 y.s, Value.slice y.A y.zs.length y.c]), Res.box blk20 [Value.int .i64 y.s, Value.slice y.A y.zs.length y.c] 37, Res.row (Value.slice Av26 ((List.length (fI b0 (ys.take k))) + 1) cv26) 37 2 ((List.length (fI b0 (ys.take k))) + 1) ((flat true (fI b0 (ys.take k))) ++ [Value.int .i64 y.s, Value.slice y.A y.zs.length y.c]), Res.box blk4 [Value.int .i64 0, Value.slice none 0 0] 55, Res.box blk2 [Value.int .i64 a0, Value.slice (some ⟨b, off, none⟩) a1n a1c] 55])) [(5, Value.slice Av26 ((List.length (fI b0 (ys.take k))) + 1) cv26)] [.no] True (by kernel_rfl) trivial hS25 ?_
        refine l_nil rfl ?_
        refine blk_n ?_
        refine then_n ?_
        refine c_reg ?_
        refine q_seg (S := (fun x_ => St w x_ [Res.row (Value.slice (some ⟨blk24, 0, none⟩) 1 1) 37 2 1 ([Value.int .i64 y.s, Value.slice y.A y.zs.length y.c]), Res.box blk20 [Value.int .i64 y.s, Value.slice y.A y.zs.length y.c] 37, Res.row (Value.slice Av26 ((List.length (fI b0 (ys.take k))) + 1) cv26) 37 2 ((List.length (fI b0 (ys.take k))) + 1) ((flat true (fI b0 (ys.take k))) ++ [Value.int .i64 y.s, Value.slice y.A y.zs.length y.c]), Res.box blk4 [Value.int .i64 0, Value.slice none 0 0] 55, Res.box blk2 [Value.int .i64 a0, Value.slice (some ⟨b, off, none⟩) a1n a1c] 55])) [(18, Value.int .i64 (((k : Nat) : Int) + (1 : Int))), (30, Value.int .i64 (((k : Nat) : Int) + (1 : Int)))] [.no, .no] ((InK .i64 (((k : Nat) : Int) + (1 : Int)))) (by kernel_rfl) (in64 (by omega) (by omega)) hS25 ?_
        refine l_nil rfl ?_
        refine then_n ?_
        have hS25s2 : St w w25 [Res.row (Value.slice Av26 ((List.length (fI b0 (ys.take k))) + 1) cv26) 37 2 ((List.length (fI b0 (ys.take k))) + 1) ((flat true (fI b0 (ys.take k))) ++ [Value.int .i64 y.s, Value.slice y.A y.zs.length y.c]), Res.box blk4 [Value.int .i64 0, Value.slice none 0 0] 55, Res.box blk2 [Value.int .i64 a0, Value.slice (some ⟨b, off, none⟩) a1n a1c] 55] := (hS25.sub (List.Sublist.cons _ (List.Sublist.cons _ (List.Sublist.cons_cons _ (List.Sublist.cons_cons _ (List.Sublist.cons_cons _ List.Sublist.slnil))))))
        have hfk := fI_t (nx := b0) hyk hb22p
        refine round_end ((k + 1, Av26, cv26)) ?_ ?_ ?_
        · exact (agree_cons (by kernel_rfl) (agree_cons (by kernel_rfl) (agree_cons (by kernel_rfl) (agree_eq (v0 := Value.slice Av26 ((List.length (fI b0 (ys.take k))) + 1) cv26) (by kernel_rfl) (congrArg (fun m => Value.slice Av26 m cv26) (by rw [hfk, List.length_append]; rfl)) (agree_cons (by kernel_rfl) (agree_cons (by kernel_rfl) (agree_cons (by kernel_rfl) agree_nil)))))))
        · exact ⟨(by omega), (hS25s2.eqv (by rw [hfk, List.length_append, flat_snoc]; rfl))⟩
        · exact (by first | omega | (dsimp only; omega))
      · skip
        have hb22p := of_decide_eq_false hb22
        refine c_false (b := (decide (b0 ≤ y.s))) (by kernel_rfl) hb22 ?_
        refine wp_skip ?_
        refine blk_n ?_
        refine then_n ?_
        refine c_reg ?_
        refine q_seg (S := (fun x_ => St w x_ [Res.box blk20 [Value.int .i64 y.s, Value.slice y.A y.zs.length y.c] 37, Res.row (Value.slice A2 (List.length (fI b0 (ys.take k))) c2) 37 2 (List.length (fI b0 (ys.take k))) (flat true (fI b0 (ys.take k))), Res.box blk4 [Value.int .i64 0, Value.slice none 0 0] 55, Res.box blk2 [Value.int .i64 a0, Value.slice (some ⟨b, off, none⟩) a1n a1c] 55])) [(18, Value.int .i64 (((k : Nat) : Int) + (1 : Int))), (30, Value.int .i64 (((k : Nat) : Int) + (1 : Int)))] [.no, .no] ((InK .i64 (((k : Nat) : Int) + (1 : Int)))) (by kernel_rfl) (in64 (by omega) (by omega)) hS21 ?_
        refine l_nil rfl ?_
        refine then_n ?_
        have hS21s3 : St w w21 [Res.row (Value.slice A2 (List.length (fI b0 (ys.take k))) c2) 37 2 (List.length (fI b0 (ys.take k))) (flat true (fI b0 (ys.take k))), Res.box blk4 [Value.int .i64 0, Value.slice none 0 0] 55, Res.box blk2 [Value.int .i64 a0, Value.slice (some ⟨b, off, none⟩) a1n a1c] 55] := (hS21.sub (List.Sublist.cons _ (List.Sublist.cons_cons _ (List.Sublist.cons_cons _ (List.Sublist.cons_cons _ List.Sublist.slnil)))))
        have hfk := fI_f (nx := b0) hyk hb22p
        refine round_end ((k + 1, A2, c2)) ?_ ?_ ?_
        · exact (agree_cons (by kernel_rfl) (agree_cons (by kernel_rfl) (agree_cons (by kernel_rfl) (agree_eq (v0 := Value.slice A2 (List.length (fI b0 (ys.take k))) c2) (by kernel_rfl) (congrArg (fun m => Value.slice A2 m c2) (by rw [hfk])) (agree_cons (by kernel_rfl) (agree_cons (by kernel_rfl) (agree_cons (by kernel_rfl) agree_nil)))))))
        · exact ⟨(by omega), (hS21s3.eqv (by rw [hfk]))⟩
        · exact (by first | omega | (dsimp only; omega))
    · skip
      have hb18p := of_decide_eq_false hb18
      refine c_false (b := (decide (((k : Nat) : Int) < ((a1n : Nat) : Int)))) (by kernel_rfl) hb18 ?_
      refine wp_exit ?_
      refine then_x ?_
      refine then_x ?_
      refine blk_hit ?_
      refine then_n ?_
      refine wp_seq ?_
      refine c_drawn [5] (by kernel_rfl) hS16 (fun w27 hS27 => ?_)
      refine t_seg (S := (fun x_ => St w x_ [Res.row (Value.slice A2 (List.length (fI b0 (ys.take k))) c2) 37 2 (List.length (fI b0 (ys.take k))) (flat true (fI b0 (ys.take k))), Res.box blk4 [Value.int .i64 0, Value.slice none 0 0] 55, Res.box blk2 [Value.int .i64 a0, Value.slice a1A a1n a1c] 55])) [(0, .no), (2, .no), (1, .v (Value.int .i64 a0))] 3 #[true, true, true, false, false, false] [(32, Value.int .i64 a0), (33, Value.slice A2 (List.length (fI b0 (ys.take k))) c2), (31, Value.pointer (some ⟨blk2, 0 + 0, none⟩))] ((LoadsAt Try.prog (fun x_ => St w x_ [Res.row (Value.slice A2 (List.length (fI b0 (ys.take k))) c2) 37 2 (List.length (fI b0 (ys.take k))) (flat true (fI b0 (ys.take k))), Res.box blk4 [Value.int .i64 0, Value.slice none 0 0] 55, Res.box blk2 [Value.int .i64 a0, Value.slice a1A a1n a1c] 55]) 3 ⟨blk2, 0 + 0, none⟩ (Value.int .i64 a0))) (by kernel_rfl) (Qpanic.then Qpanic.bp) rfl (by kernel_rfl) (ld_box (i := 2) rfl rfl (by kernel_rfl)) hS27 ?_
      refine a_op (i := 3) (fuel := 2) (listed' := #[true, true, true, true, false, false]) rfl rfl (by kernel_rfl) (by kernel_rfl) rfl (fun K hK => op_call (d := some 34) rfl rfl ⟨_, Try.func89, by kernel_rfl, by kernel_rfl⟩ (vs := [Value.slice A2 (List.length (fI b0 (ys.take k))) c2]) (by kernel_rfl) (copyNumbered_i_c A2 (List.length (fI b0 (ys.take k))) c2 (fL b0 ((ys.take k).map (con true))) w27 (Nat.le_trans (fL_wt _ _) (Nat.le_trans (wt_takeI ys k) a1w)) (St.rdmix (κ := .u8) (k := k) (nx := b0) (ys := ys) hS27 (List.mem_of_getElem? (i := 0) rfl) hr hok rfl)) hS27 (fun v30 new31 w28 Rw28 hS28 => hK _ _ (fun _ => hS28.after) ?_))
      clear hK K
      obtain ⟨Aq32, cq33, yq34, rfl, rfl, hcq35⟩ := Rw28
      have hS28r : St w w28 (Res.row (Value.slice Aq32 (List.length (fI b0 (ys.take k))) cq33) 37 2 (List.length (fI b0 (ys.take k))) (flat true yq34) :: Res.row (Value.slice A2 (List.length (fI b0 (ys.take k))) c2) 37 2 (List.length (fI b0 (ys.take k))) (flat true (fI b0 (ys.take k))) :: Res.box blk4 [Value.int .i64 0, Value.slice none 0 0] 55 :: Res.box blk2 [Value.int .i64 a0, Value.slice a1A a1n a1c] 55 :: ((yq34.map (It.row .u8 5)) ++ [])) := St.rot_1 [Res.row (Value.slice Aq32 (List.length (fI b0 (ys.take k))) cq33) 37 2 (List.length (fI b0 (ys.take k))) (flat true yq34)] [Res.row (Value.slice A2 (List.length (fI b0 (ys.take k))) c2) 37 2 (List.length (fI b0 (ys.take k))) (flat true (fI b0 (ys.take k))), Res.box blk4 [Value.int .i64 0, Value.slice none 0 0] 55, Res.box blk2 [Value.int .i64 a0, Value.slice a1A a1n a1c] 55] [] (yq34.map (It.row .u8 5)) hS28
      refine t_seg (S := (fun x_ => St w x_ [Res.row (Value.slice A2 (List.length (fI b0 (ys.take k))) c2) 37 2 (List.length (fI b0 (ys.take k))) (flat true (fI b0 (ys.take k))), Res.box blk4 [Value.int .i64 0, Value.slice none 0 0] 55, Res.box blk2 [Value.int .i64 a0, Value.slice a1A a1n a1c] 55])) [(4, .no)] 1 #[true, true, true, true, true, false] [(35, Value.agg #[Value.int .i64 a0, Value.slice Aq32 (List.length (fI b0 (ys.take k))) cq33])] True (by kernel_rfl) (Qpanic.then Qpanic.bp) rfl (by kernel_rfl) trivial (hS28r.sub (List.Sublist.cons _ (List.Sublist.cons_cons _ (List.Sublist.cons_cons _ (List.Sublist.cons_cons _ (List.Sublist.trans List.Sublist.slnil (List.sublist_append_right _ _))))))) ?_
      refine a_op (i := 5) (fuel := 0) (listed' := #[true, true, true, true, true, true]) rfl rfl (by kernel_rfl) (by kernel_rfl) rfl (fun K hK => op_store (d := none) rfl rfl (i := 2) (b := blk4) (off := 0) (cs := [Value.int .i64 0, Value.slice none 0 0]) (bt := 55) (by kernel_rfl) (by kernel_rfl) [Value.int .i64 a0, Value.slice Aq32 (List.length (fI b0 (ys.take k))) cq33] (by kernel_rfl) (by kernel_rfl) (Nat.le_of_ble_eq_true (by kernel_rfl)) (by kernel_rfl) (Res.row (Value.slice Aq32 (List.length (fI b0 (ys.take k))) cq33) 37 2 (List.length (fI b0 (ys.take k))) (flat true yq34) :: Res.row (Value.slice A2 (List.length (fI b0 (ys.take k))) c2) 37 2 (List.length (fI b0 (ys.take k))) (flat true (fI b0 (ys.take k))) :: Res.box blk4 [Value.int .i64 a0, Value.slice Aq32 (List.length (fI b0 (ys.take k))) cq33] 55 :: Res.box blk2 [Value.int .i64 a0, Value.slice a1A a1n a1c] 55 :: ((yq34.map (It.row .u8 5)) ++ [])) (by kernel_rfl) hS28r (fun w36 hS36 => hK _ _ (fun h => absurd h (by decide)) ?_))
      clear hK K
      refine a_done (by kernel_rfl) ?_
      refine then_n ?_
      refine wp_ret ?_
      have hS36s4 : St w w36 (Res.row (Value.slice Aq32 (List.length (fI b0 (ys.take k))) cq33) 37 2 (List.length (fI b0 (ys.take k))) (flat true yq34) :: ((yq34.map (It.row .u8 5)) ++ [])) := (hS36.sub (List.Sublist.cons_cons _ (List.Sublist.cons _ (List.Sublist.cons _ (List.Sublist.cons _ (List.Sublist.append (List.Sublist.refl _) List.Sublist.slnil))))))
      have hL : ackL b0 a0 (ys.map (con true)) = (fL b0 ((ys.take k).map (con true))) := by rw [List.take_of_length_le (by omega)]; exact if_neg hb5p
      exact c_end (S := (fun x_ => St w x_ (Res.row (Value.slice Aq32 (List.length (fI b0 (ys.take k))) cq33) 37 2 (List.length (fI b0 (ys.take k))) (flat true yq34) :: Res.row (Value.slice A2 (List.length (fI b0 (ys.take k))) c2) 37 2 (List.length (fI b0 (ys.take k))) (flat true (fI b0 (ys.take k))) :: Res.box blk4 [Value.int .i64 a0, Value.slice Aq32 (List.length (fI b0 (ys.take k))) cq33] 55 :: Res.box blk2 [Value.int .i64 a0, Value.slice a1A a1n a1c] 55 :: ((yq34.map (It.row .u8 5)) ++ [])))) (rs := [.cell 4 55]) rfl [Value.agg #[Value.int .i64 a0, Value.slice Aq32 (List.length (fI b0 (ys.take k))) cq33]] (v := Value.agg #[Value.int .i64 a0, Value.slice Aq32 (List.length (fI b0 (ys.take k))) cq33]) (C := ((LoadsAt Try.prog (fun x_ => St w x_ (Res.row (Value.slice Aq32 (List.length (fI b0 (ys.take k))) cq33) 37 2 (List.length (fI b0 (ys.take k))) (flat true yq34) :: Res.row (Value.slice A2 (List.length (fI b0 (ys.take k))) c2) 37 2 (List.length (fI b0 (ys.take k))) (flat true (fI b0 (ys.take k))) :: Res.box blk4 [Value.int .i64 a0, Value.slice Aq32 (List.length (fI b0 (ys.take k))) cq33] 55 :: Res.box blk2 [Value.int .i64 a0, Value.slice a1A a1n a1c] 55 :: ((yq34.map (It.row .u8 5)) ++ []))) 55 ⟨blk4, 0, none⟩ (Value.agg #[Value.int .i64 a0, Value.slice Aq32 (List.length (fI b0 (ys.take k))) cq33])))) (by kernel_rfl) (ld_boxN (i := 2) (k := 2) rfl rfl rfl (by kernel_rfl)) hS36 (by rw [hL, ← fI_len]; exact hS36s4.rt ⟨_, _, _, rfl, rfl, hcq35⟩)
theorem AcknowledgeBelow_s_c (a0 : Int) (a1A : Option Addr) (a1n a1c : Nat) (a1L : List (Int × List Int)) (b0 : Int) (w : World) (a1h : RdL .u8 true w w.heap.size a1A a1n a1L) (a1w : wt a1L ≤ 1099511627776) : Calls Try.prog 48 #[Value.agg #[Value.int .i64 a0, Value.slice a1A a1n a1c], .int .i64 b0] w (Ret w (fun v new => ∃ (A0_ : Option Addr) (c0_ : Nat) (y0_ : List It), v = Value.agg #[Value.int .i64 a0, Value.slice A0_ (List.length (ackL b0 a0 a1L)) c0_] ∧ new = Res.row (Value.slice A0_ (List.length (ackL b0 a0 a1L)) c0_) 37 2 (List.length (ackL b0 a0 a1L)) (flat true y0_) :: ((y0_.map (It.row .u8 5)) ++ []) ∧ y0_.map (con true) = (ackL b0 a0 a1L))) := by
  have hm0 := a1h
  obtain ⟨hok, ys, hr, rfl⟩ := a1h
  have hwl := wt_len (ys.map (con true))
  have hln := hr.len
  rw [List.length_map] at hwl
  refine calls_FA Try.func48 rfl (n := 52) rfl (l := [(0, Value.agg #[Value.int .i64 a0, Value.slice a1A a1n a1c]), (1, Value.int .i64 b0)]) rfl (by simp) (fun g => ?_)
  have hS := St.init w
  refine wp_seq ?_
  refine c_reg ?_
  refine l_op rfl rfl (fun K hK => op_box (d := some 2) rfl rfl [Value.int .i64 a0, Value.slice a1A a1n a1c] (by kernel_rfl) hS (fun blk2 w1 hS1 => hK _ _ ?_))
  clear hK K
  refine l_op rfl rfl (fun K hK => op_alloc (d := some 4) rfl rfl [Value.int .i64 0, Value.slice none 0 0] (by kernel_rfl) hS1 (fun blk4 w3 hS3 => hK _ _ ?_))
  clear hK K
  refine l_nil rfl ?_
  refine then_n ?_
  refine wp_seq ?_
  refine c_reg ?_
  refine q_seg (S := (fun x_ => St w x_ [Res.box blk4 [Value.int .i64 0, Value.slice none 0 0] 55, Res.box blk2 [Value.int .i64 a0, Value.slice a1A a1n a1c] 55])) [(7, Value.agg #[Value.int .i64 a0, Value.slice a1A a1n a1c])] [.v (Value.agg #[Value.int .i64 a0, Value.slice a1A a1n a1c])] ((LoadsAt Try.prog (fun x_ => St w x_ [Res.box blk4 [Value.int .i64 0, Value.slice none 0 0] 55, Res.box blk2 [Value.int .i64 a0, Value.slice a1A a1n a1c] 55]) 55 ⟨blk2, 0, none⟩ (Value.agg #[Value.int .i64 a0, Value.slice a1A a1n a1c]))) (by kernel_rfl) (ld_boxN (i := 1) (k := 2) rfl rfl rfl (by kernel_rfl)) hS3 ?_
  refine l_op rfl rfl (fun K hK => op_call (d := some 8) rfl rfl ⟨_, Try.func88, by kernel_rfl, by kernel_rfl⟩ (vs := [Value.agg #[Value.int .i64 a0, Value.slice a1A a1n a1c]]) (by kernel_rfl) (l24Sender_s_c a0 a1A a1n a1c (ys.map (con true)) w3 (hS3.rdllow hm0) a1w) hS3 (fun v6 new7 w5 Rw5 hS5 => hK _ _ ?_))
  clear hK K
  obtain ⟨Aq8, cq9, yq10, rfl, rfl, hcq11⟩ := Rw5
  have hS5r : St w w5 (Res.row (Value.slice Aq8 a1n cq9) 37 2 a1n (flat true yq10) :: Res.box blk4 [Value.int .i64 0, Value.slice none 0 0] 55 :: Res.box blk2 [Value.int .i64 a0, Value.slice a1A a1n a1c] 55 :: ((yq10.map (It.row .u8 5)) ++ [])) := St.rot_1 [Res.row (Value.slice Aq8 a1n cq9) 37 2 a1n (flat true yq10)] [Res.box blk4 [Value.int .i64 0, Value.slice none 0 0] 55, Res.box blk2 [Value.int .i64 a0, Value.slice a1A a1n a1c] 55] [] (yq10.map (It.row .u8 5)) hS5
  refine l_op rfl rfl (fun K hK => op_alloc (d := some 5) rfl rfl [Value.int .i64 0, Value.slice none 0 0] (by kernel_rfl) hS5r (fun blk13 w12 hS12 => hK _ _ ?_))
  clear hK K
  refine l_op rfl rfl (fun K hK => op_store (d := none) rfl rfl (i := 0) (b := blk13) (off := 0) (cs := [Value.int .i64 0, Value.slice none 0 0]) (bt := 55) (by kernel_rfl) (by kernel_rfl) [Value.int .i64 a0, Value.slice Aq8 a1n cq9] (by kernel_rfl) (by kernel_rfl) (Nat.le_of_ble_eq_true (by kernel_rfl)) (by kernel_rfl) (Res.box blk13 [Value.int .i64 a0, Value.slice Aq8 a1n cq9] 55 :: Res.row (Value.slice Aq8 a1n cq9) 37 2 a1n (flat true yq10) :: Res.box blk4 [Value.int .i64 0, Value.slice none 0 0] 55 :: Res.box blk2 [Value.int .i64 a0, Value.slice a1A a1n a1c] 55 :: ((yq10.map (It.row .u8 5)) ++ [])) (by kernel_rfl) hS12 (fun w14 hS14 => hK _ _ ?_))
  clear hK K
  refine l_nil rfl ?_
  refine then_n ?_
  refine wp_seq ?_
  refine wp_seq ?_
  refine c_reg ?_
  refine q_seg (S := (fun x_ => St w x_ (Res.box blk13 [Value.int .i64 a0, Value.slice Aq8 a1n cq9] 55 :: Res.row (Value.slice Aq8 a1n cq9) 37 2 a1n (flat true yq10) :: Res.box blk4 [Value.int .i64 0, Value.slice none 0 0] 55 :: Res.box blk2 [Value.int .i64 a0, Value.slice a1A a1n a1c] 55 :: ((yq10.map (It.row .u8 5)) ++ [])))) [(12, Value.bool (decide (a0 < b0))), (11, Value.int .i64 a0), (10, Value.pointer (some ⟨blk2, 0 + 0, none⟩)), (9, Value.int .i64 b0)] [.no, .no, .v (Value.int .i64 a0), .no] ((LoadsAt Try.prog (fun x_ => St w x_ (Res.box blk13 [Value.int .i64 a0, Value.slice Aq8 a1n cq9] 55 :: Res.row (Value.slice Aq8 a1n cq9) 37 2 a1n (flat true yq10) :: Res.box blk4 [Value.int .i64 0, Value.slice none 0 0] 55 :: Res.box blk2 [Value.int .i64 a0, Value.slice a1A a1n a1c] 55 :: ((yq10.map (It.row .u8 5)) ++ []))) 3 ⟨blk2, 0 + 0, none⟩ (Value.int .i64 a0))) (by kernel_rfl) (ld_box (i := 3) rfl rfl (by kernel_rfl)) hS14 ?_
  refine l_nil rfl ?_
  refine then_n ?_
  rcases Bool.eq_false_or_eq_true (decide (a0 < b0)) with hb15 | hb15
  · skip
    have hb15p := of_decide_eq_true hb15
    refine c_true (b := (decide (a0 < b0))) (by kernel_rfl) hb15 ?_
    refine wp_seq ?_
    refine c_reg ?_
    refine q_seg (S := (fun x_ => St w x_ (Res.box blk13 [Value.int .i64 a0, Value.slice Aq8 a1n cq9] 55 :: Res.row (Value.slice Aq8 a1n cq9) 37 2 a1n (flat true yq10) :: Res.box blk4 [Value.int .i64 0, Value.slice none 0 0] 55 :: Res.box blk2 [Value.int .i64 a0, Value.slice a1A a1n a1c] 55 :: ((yq10.map (It.row .u8 5)) ++ [])))) [(13, Value.agg #[Value.int .i64 a0, Value.slice Aq8 a1n cq9])] [.v (Value.agg #[Value.int .i64 a0, Value.slice Aq8 a1n cq9])] ((LoadsAt Try.prog (fun x_ => St w x_ (Res.box blk13 [Value.int .i64 a0, Value.slice Aq8 a1n cq9] 55 :: Res.row (Value.slice Aq8 a1n cq9) 37 2 a1n (flat true yq10) :: Res.box blk4 [Value.int .i64 0, Value.slice none 0 0] 55 :: Res.box blk2 [Value.int .i64 a0, Value.slice a1A a1n a1c] 55 :: ((yq10.map (It.row .u8 5)) ++ []))) 55 ⟨blk13, 0, none⟩ (Value.agg #[Value.int .i64 a0, Value.slice Aq8 a1n cq9]))) (by kernel_rfl) (ld_boxN (i := 0) (k := 2) rfl rfl rfl (by kernel_rfl)) hS14 ?_
    refine l_op rfl rfl (fun K hK => op_store (d := none) rfl rfl (i := 2) (b := blk4) (off := 0) (cs := [Value.int .i64 0, Value.slice none 0 0]) (bt := 55) (by kernel_rfl) (by kernel_rfl) [Value.int .i64 a0, Value.slice Aq8 a1n cq9] (by kernel_rfl) (by kernel_rfl) (Nat.le_of_ble_eq_true (by kernel_rfl)) (by kernel_rfl) (Res.box blk13 [Value.int .i64 a0, Value.slice Aq8 a1n cq9] 55 :: Res.row (Value.slice Aq8 a1n cq9) 37 2 a1n (flat true yq10) :: Res.box blk4 [Value.int .i64 a0, Value.slice Aq8 a1n cq9] 55 :: Res.box blk2 [Value.int .i64 a0, Value.slice a1A a1n a1c] 55 :: ((yq10.map (It.row .u8 5)) ++ [])) (by kernel_rfl) hS14 (fun w16 hS16 => hK _ _ ?_))
    clear hK K
    refine l_nil rfl ?_
    refine then_n ?_
    refine wp_ret ?_
    refine then_r ?_
    have hS16s1 : St w w16 (Res.row (Value.slice Aq8 a1n cq9) 37 2 a1n (flat true yq10) :: ((yq10.map (It.row .u8 5)) ++ [])) := (hS16.sub (List.Sublist.cons _ (List.Sublist.cons_cons _ (List.Sublist.cons _ (List.Sublist.cons _ (List.Sublist.append (List.Sublist.refl _) List.Sublist.slnil))))))
    exact c_end (S := (fun x_ => St w x_ (Res.box blk13 [Value.int .i64 a0, Value.slice Aq8 a1n cq9] 55 :: Res.row (Value.slice Aq8 a1n cq9) 37 2 a1n (flat true yq10) :: Res.box blk4 [Value.int .i64 a0, Value.slice Aq8 a1n cq9] 55 :: Res.box blk2 [Value.int .i64 a0, Value.slice a1A a1n a1c] 55 :: ((yq10.map (It.row .u8 5)) ++ [])))) (rs := [.cell 4 55]) rfl [Value.agg #[Value.int .i64 a0, Value.slice Aq8 a1n cq9]] (v := Value.agg #[Value.int .i64 a0, Value.slice Aq8 a1n cq9]) (C := ((LoadsAt Try.prog (fun x_ => St w x_ (Res.box blk13 [Value.int .i64 a0, Value.slice Aq8 a1n cq9] 55 :: Res.row (Value.slice Aq8 a1n cq9) 37 2 a1n (flat true yq10) :: Res.box blk4 [Value.int .i64 a0, Value.slice Aq8 a1n cq9] 55 :: Res.box blk2 [Value.int .i64 a0, Value.slice a1A a1n a1c] 55 :: ((yq10.map (It.row .u8 5)) ++ []))) 55 ⟨blk4, 0, none⟩ (Value.agg #[Value.int .i64 a0, Value.slice Aq8 a1n cq9])))) (by kernel_rfl) (ld_boxN (i := 2) (k := 2) rfl rfl rfl (by kernel_rfl)) hS16 (by rw [show ackL b0 a0 (ys.map (con true)) = (ys.map (con true)) from if_pos hb15p]; first | exact hS16s1.rt ⟨_, _, _, rfl, rfl, hcq11⟩ | (rw [show List.length (ys.map (con true)) = a1n from by rw [List.length_map]; exact hln]; exact hS16s1.rt ⟨_, _, _, rfl, rfl, hcq11⟩))
  · skip
    have hb15p := of_decide_eq_false hb15
    refine c_false (b := (decide (a0 < b0))) (by kernel_rfl) hb15 ?_
    refine wp_skip ?_
    refine then_n ?_
    refine wp_seq ?_
    refine c_reg ?_
    refine l_op rfl rfl (fun K hK => op_buildSlice (d := some 14) rfl rfl (e := 37) (by kernel_rfl) 2 (by kernel_rfl) (by decide) (by decide) [] (by kernel_rfl) rfl hS14 (fun blk18 w17 hS17 => hK _ _ ?_))
    clear hK K
    refine q_seg (S := (fun x_ => St w x_ (Res.row (Value.slice (some ⟨blk18, 0, none⟩) 0 0) 37 2 0 ([]) :: Res.box blk13 [Value.int .i64 a0, Value.slice Aq8 a1n cq9] 55 :: Res.row (Value.slice Aq8 a1n cq9) 37 2 a1n (flat true yq10) :: Res.box blk4 [Value.int .i64 0, Value.slice none 0 0] 55 :: Res.box blk2 [Value.int .i64 a0, Value.slice a1A a1n a1c] 55 :: ((yq10.map (It.row .u8 5)) ++ [])))) [(15, Value.pointer (some ⟨blk13, 0 + 1, none⟩))] [.no] True (by kernel_rfl) trivial hS17 ?_
    refine l_op rfl rfl (fun K hK => op_store (d := none) rfl rfl (i := 1) (b := blk13) (off := 0 + 1) (cs := [Value.int .i64 a0, Value.slice Aq8 a1n cq9]) (bt := 55) (by kernel_rfl) (by kernel_rfl) [Value.slice (some ⟨blk18, 0, none⟩) 0 0] (by kernel_rfl) (by kernel_rfl) (Nat.le_of_ble_eq_true (by kernel_rfl)) (by kernel_rfl) (Res.row (Value.slice (some ⟨blk18, 0, none⟩) 0 0) 37 2 0 ([]) :: Res.box blk13 [Value.int .i64 a0, Value.slice (some ⟨blk18, 0, none⟩) 0 0] 55 :: Res.row (Value.slice Aq8 a1n cq9) 37 2 a1n (flat true yq10) :: Res.box blk4 [Value.int .i64 0, Value.slice none 0 0] 55 :: Res.box blk2 [Value.int .i64 a0, Value.slice a1A a1n a1c] 55 :: ((yq10.map (It.row .u8 5)) ++ [])) (by kernel_rfl) hS17 (fun w19 hS19 => hK _ _ ?_))
    clear hK K
    refine l_nil rfl ?_
    refine then_n ?_
    refine wp_seq ?_
    refine wp_seq ?_
    refine c_reg ?_
    refine q_seg (S := (fun x_ => St w x_ (Res.row (Value.slice (some ⟨blk18, 0, none⟩) 0 0) 37 2 0 ([]) :: Res.box blk13 [Value.int .i64 a0, Value.slice (some ⟨blk18, 0, none⟩) 0 0] 55 :: Res.row (Value.slice Aq8 a1n cq9) 37 2 a1n (flat true yq10) :: Res.box blk4 [Value.int .i64 0, Value.slice none 0 0] 55 :: Res.box blk2 [Value.int .i64 a0, Value.slice a1A a1n a1c] 55 :: ((yq10.map (It.row .u8 5)) ++ [])))) [(6, Value.int .i64 0)] [.no] True (by kernel_rfl) trivial hS19 ?_
    refine l_nil rfl ?_
    refine then_n ?_
    refine wp_block ?_
    have hS19s2 : St w w19 (Res.row (Value.slice (some ⟨blk18, 0, none⟩) 0 0) 37 2 0 (flat true ([] : List It)) :: Res.box blk13 [Value.int .i64 a0, Value.slice (some ⟨blk18, 0, none⟩) 0 0] 55 :: Res.row (Value.slice Aq8 a1n cq9) 37 2 a1n (flat true yq10) :: Res.box blk4 [Value.int .i64 0, Value.slice none 0 0] 55 :: Res.box blk2 [Value.int .i64 a0, Value.slice a1A a1n a1c] 55 :: ((([] : List It).map (It.row .u8 5)) ++ ((yq10.map (It.row .u8 5)) ++ []))) := hS19
    have hS19s2s3 : St w w19 (Res.row (Value.slice (some ⟨blk18, 0, none⟩) 0 0) 37 2 0 (flat true ([] : List It)) :: Res.box blk13 [Value.int .i64 a0, Value.slice (some ⟨blk18, 0, none⟩) 0 0] 55 :: Res.box blk4 [Value.int .i64 0, Value.slice none 0 0] 55 :: Res.box blk2 [Value.int .i64 a0, Value.slice a1A a1n a1c] 55 :: ((([] : List It).map (It.row .u8 5)) ++ [])) := (hS19s2.sub (List.Sublist.cons_cons _ (List.Sublist.cons_cons _ (List.Sublist.cons _ (List.Sublist.cons_cons _ (List.Sublist.cons_cons _ (List.Sublist.append (List.Sublist.refl _) (List.Sublist.trans List.Sublist.slnil (List.sublist_append_right _ _)))))))))
    refine c_loop (X := Nat × Option Addr × Nat × List It) (fun (x_ : Nat × Option Addr × Nat × List It) => match x_ with | (k, A2, c2, zs) => [(1, Value.int .i64 b0), (2, Value.pointer (some ⟨blk2, 0, none⟩)), (4, Value.pointer (some ⟨blk4, 0, none⟩)), (5, Value.pointer (some ⟨blk13, 0, none⟩)), (6, Value.int .i64 ((k : Nat) : Int))]) (fun (x_ : Nat × Option Addr × Nat × List It) (wr : World) => match x_ with | (k, A2, c2, zs) => (k ≤ a1n) ∧ (zs.map (con true) = (fL b0 ((ys.take k).map (con true)))) ∧ St w wr (Res.row (Value.slice A2 (List.length (fL b0 ((ys.take k).map (con true)))) c2) 37 2 (List.length (fL b0 ((ys.take k).map (con true)))) (flat true zs) :: Res.box blk13 [Value.int .i64 a0, Value.slice A2 (List.length (fL b0 ((ys.take k).map (con true)))) c2] 55 :: Res.box blk4 [Value.int .i64 0, Value.slice none 0 0] 55 :: Res.box blk2 [Value.int .i64 a0, Value.slice a1A a1n a1c] 55 :: ((zs.map (It.row .u8 5)) ++ []))) (fun (x_ : Nat × Option Addr × Nat × List It) => match x_ with | (k, A2, c2, zs) => a1n - k) ((0, (some ⟨blk18, 0, none⟩), 0, [])) ?_ ?_ ?_
    · exact (agree_cons (by kernel_rfl) (agree_cons (by kernel_rfl) (agree_cons (by kernel_rfl) (agree_cons (by kernel_rfl) (agree_cons (by kernel_rfl) agree_nil)))))
    · exact ⟨Nat.zero_le _, rfl, hS19s2s3⟩
    rintro ⟨k, A2, c2, zs⟩ g21 w20 ⟨hkn, hzk, hS20⟩
    have hfw := fL_wt b0 ((ys.take k).map (con true))
    have hfw2 := wt_takeI (p := true) ys k
    have hfw3 := wt_len (fL b0 ((ys.take k).map (con true)))
    refine wp_seq ?_
    refine wp_seq ?_
    refine c_reg ?_
    refine q_seg (S := (fun x_ => St w x_ (Res.row (Value.slice A2 (List.length (fL b0 ((ys.take k).map (con true)))) c2) 37 2 (List.length (fL b0 ((ys.take k).map (con true)))) (flat true zs) :: Res.box blk13 [Value.int .i64 a0, Value.slice A2 (List.length (fL b0 ((ys.take k).map (con true)))) c2] 55 :: Res.box blk4 [Value.int .i64 0, Value.slice none 0 0] 55 :: Res.box blk2 [Value.int .i64 a0, Value.slice a1A a1n a1c] 55 :: ((zs.map (It.row .u8 5)) ++ [])))) [(20, Value.bool (decide (((k : Nat) : Int) < ((a1n : Nat) : Int)))), (19, Value.int .i64 ((a1n : Nat) : Int)), (18, Value.slice a1A a1n a1c), (17, Value.pointer (some ⟨blk2, 0 + 1, none⟩)), (16, Value.int .i64 ((k : Nat) : Int))] [.no, .no, .v (Value.slice a1A a1n a1c), .no, .no] ((LoadsAt Try.prog (fun x_ => St w x_ (Res.row (Value.slice A2 (List.length (fL b0 ((ys.take k).map (con true)))) c2) 37 2 (List.length (fL b0 ((ys.take k).map (con true)))) (flat true zs) :: Res.box blk13 [Value.int .i64 a0, Value.slice A2 (List.length (fL b0 ((ys.take k).map (con true)))) c2] 55 :: Res.box blk4 [Value.int .i64 0, Value.slice none 0 0] 55 :: Res.box blk2 [Value.int .i64 a0, Value.slice a1A a1n a1c] 55 :: ((zs.map (It.row .u8 5)) ++ []))) 31 ⟨blk2, 0 + 1, none⟩ (Value.slice a1A a1n a1c))) (by kernel_rfl) (ld_box (i := 3) rfl rfl (by kernel_rfl)) hS20 ?_
    refine l_nil rfl ?_
    refine then_n ?_
    rcases Bool.eq_false_or_eq_true (decide (((k : Nat) : Int) < ((a1n : Nat) : Int))) with hb22 | hb22
    · skip
      have hb22p := of_decide_eq_true hb22
      obtain ⟨b, off, rfl, hbB, hcl⟩ := hr.at (k := k) (by omega)
      obtain ⟨y, hyk, hym⟩ := get_of_lt (l := ys) (k := k) (by have := hr.len; omega)
      obtain ⟨hy1, hy2, hy3⟩ := hr.el y hym
      obtain ⟨hyi, hyz⟩ := hok _ (List.mem_map_of_mem (f := (con true)) hym)
      have hyl : y.zs.length + 1 ≤ wt (ys.map (con true)) := wt_mem (List.mem_map_of_mem (f := (con true)) hym)
      unfold maxLen at hy3
      refine c_true (b := (decide (((k : Nat) : Int) < ((a1n : Nat) : Int)))) (by kernel_rfl) hb22 ?_
      refine wp_skip ?_
      refine then_n ?_
      refine wp_seq ?_
      refine wp_block ?_
      refine wp_seq ?_
      refine c_reg ?_
      refine q_seg (S := (fun x_ => St w x_ (Res.row (Value.slice A2 (List.length (fL b0 ((ys.take k).map (con true)))) c2) 37 2 (List.length (fL b0 ((ys.take k).map (con true)))) (flat true zs) :: Res.box blk13 [Value.int .i64 a0, Value.slice A2 (List.length (fL b0 ((ys.take k).map (con true)))) c2] 55 :: Res.box blk4 [Value.int .i64 0, Value.slice none 0 0] 55 :: Res.box blk2 [Value.int .i64 a0, Value.slice (some ⟨b, off, none⟩) a1n a1c] 55 :: ((zs.map (It.row .u8 5)) ++ [])))) [(30, Value.bool (decide (b0 ≤ y.s))), (29, Value.int .i64 b0), (28, Value.int .i64 y.s), (27, Value.pointer (some ⟨b, off + Int.toNat ((k : Nat) : Int) * 2 + 0, none⟩)), (26, Value.pointer (some ⟨b, off + Int.toNat ((k : Nat) : Int) * 2, none⟩)), (25, Value.int .i64 ((k : Nat) : Int)), (24, Value.slice (some ⟨b, off, none⟩) a1n a1c), (23, Value.pointer (some ⟨blk2, 0 + 1, none⟩))] [.no, .v (Value.slice (some ⟨b, off, none⟩) a1n a1c), .no, .no, .no, .v (Value.int .i64 y.s), .no, .no] ((LoadsAt Try.prog (fun x_ => St w x_ (Res.row (Value.slice A2 (List.length (fL b0 ((ys.take k).map (con true)))) c2) 37 2 (List.length (fL b0 ((ys.take k).map (con true)))) (flat true zs) :: Res.box blk13 [Value.int .i64 a0, Value.slice A2 (List.length (fL b0 ((ys.take k).map (con true)))) c2] 55 :: Res.box blk4 [Value.int .i64 0, Value.slice none 0 0] 55 :: Res.box blk2 [Value.int .i64 a0, Value.slice (some ⟨b, off, none⟩) a1n a1c] 55 :: ((zs.map (It.row .u8 5)) ++ []))) 31 ⟨blk2, 0 + 1, none⟩ (Value.slice (some ⟨b, off, none⟩) a1n a1c)) ∧ ((0 : Int) ≤ ((k : Nat) : Int)) ∧ (((k : Nat) : Int) < ((a1n : Nat) : Int)) ∧ (LoadsAt Try.prog (fun x_ => St w x_ (Res.row (Value.slice A2 (List.length (fL b0 ((ys.take k).map (con true)))) c2) 37 2 (List.length (fL b0 ((ys.take k).map (con true)))) (flat true zs) :: Res.box blk13 [Value.int .i64 a0, Value.slice A2 (List.length (fL b0 ((ys.take k).map (con true)))) c2] 55 :: Res.box blk4 [Value.int .i64 0, Value.slice none 0 0] 55 :: Res.box blk2 [Value.int .i64 a0, Value.slice (some ⟨b, off, none⟩) a1n a1c] 55 :: ((zs.map (It.row .u8 5)) ++ []))) 3 ⟨b, off + Int.toNat ((k : Nat) : Int) * 2 + 0, none⟩ (Value.int .i64 y.s))) (by kernel_rfl) ⟨(ld_box (i := 3) rfl rfl (by kernel_rfl)), (by omega), (by omega), (ld_low (flat_cell (p := true) (r := 0) hcl hyk rfl) (by kernel_rfl))⟩ hS20 ?_
      refine l_nil rfl ?_
      refine then_n ?_
      rcases Bool.eq_false_or_eq_true (decide (b0 ≤ y.s)) with hb23 | hb23
      · skip
        have hb23p := of_decide_eq_true hb23
        refine c_true (b := (decide (b0 ≤ y.s))) (by kernel_rfl) hb23 ?_
        refine c_drawnS (S := (fun x_ => St w x_ [Res.box blk13 [Value.int .i64 a0, Value.slice A2 (List.length (fL b0 ((ys.take k).map (con true)))) c2] 55, Res.box blk4 [Value.int .i64 0, Value.slice none 0 0] 55, Res.box blk2 [Value.int .i64 a0, Value.slice (some ⟨b, off, none⟩) a1n a1c] 55])) [20] (by kernel_rfl) hS20 (fun w24 hS24 => ?_)
        refine t_seg (S := (fun x_ => St w x_ [Res.box blk13 [Value.int .i64 a0, Value.slice A2 (List.length (fL b0 ((ys.take k).map (con true)))) c2] 55, Res.box blk4 [Value.int .i64 0, Value.slice none 0 0] 55, Res.box blk2 [Value.int .i64 a0, Value.slice (some ⟨b, off, none⟩) a1n a1c] 55])) [(0, .no), (2, .no), (4, .no), (9, .no), (11, .no), (1, .v (Value.slice A2 (List.length (fL b0 ((ys.take k).map (con true)))) c2)), (3, .v (Value.slice (some ⟨b, off, none⟩) a1n a1c)), (10, .v (Value.slice (some ⟨b, off, none⟩) a1n a1c)), (5, .no), (12, .no), (6, .no), (13, .no), (7, .v (Value.int .i64 y.s)), (14, .v (Value.slice y.A y.zs.length y.c))] 7 #[true, true, true, true, true, true, true, true, false, true, true, true, true, true, true, false, false, false, false, false, false] [(45, Value.slice y.A y.zs.length y.c), (38, Value.int .i64 y.s), (44, Value.pointer (some ⟨b, off + Int.toNat ((k : Nat) : Int) * 2 + 1, none⟩)), (37, Value.pointer (some ⟨b, off + Int.toNat ((k : Nat) : Int) * 2 + 0, none⟩)), (43, Value.pointer (some ⟨b, off + Int.toNat ((k : Nat) : Int) * 2, none⟩)), (36, Value.pointer (some ⟨b, off + Int.toNat ((k : Nat) : Int) * 2, none⟩)), (41, Value.slice (some ⟨b, off, none⟩) a1n a1c), (34, Value.slice (some ⟨b, off, none⟩) a1n a1c), (32, Value.slice A2 (List.length (fL b0 ((ys.take k).map (con true)))) c2), (42, Value.int .i64 ((k : Nat) : Int)), (40, Value.pointer (some ⟨blk2, 0 + 1, none⟩)), (35, Value.int .i64 ((k : Nat) : Int)), (33, Value.pointer (some ⟨blk2, 0 + 1, none⟩)), (31, Value.pointer (some ⟨blk13, 0 + 1, none⟩))] ((LoadsAt Try.prog (fun x_ => St w x_ [Res.box blk13 [Value.int .i64 a0, Value.slice A2 (List.length (fL b0 ((ys.take k).map (con true)))) c2] 55, Res.box blk4 [Value.int .i64 0, Value.slice none 0 0] 55, Res.box blk2 [Value.int .i64 a0, Value.slice (some ⟨b, off, none⟩) a1n a1c] 55]) 31 ⟨blk13, 0 + 1, none⟩ (Value.slice A2 (List.length (fL b0 ((ys.take k).map (con true)))) c2)) ∧ (LoadsAt Try.prog (fun x_ => St w x_ [Res.box blk13 [Value.int .i64 a0, Value.slice A2 (List.length (fL b0 ((ys.take k).map (con true)))) c2] 55, Res.box blk4 [Value.int .i64 0, Value.slice none 0 0] 55, Res.box blk2 [Value.int .i64 a0, Value.slice (some ⟨b, off, none⟩) a1n a1c] 55]) 31 ⟨blk2, 0 + 1, none⟩ (Value.slice (some ⟨b, off, none⟩) a1n a1c)) ∧ (LoadsAt Try.prog (fun x_ => St w x_ [Res.box blk13 [Value.int .i64 a0, Value.slice A2 (List.length (fL b0 ((ys.take k).map (con true)))) c2] 55, Res.box blk4 [Value.int .i64 0, Value.slice none 0 0] 55, Res.box blk2 [Value.int .i64 a0, Value.slice (some ⟨b, off, none⟩) a1n a1c] 55]) 31 ⟨blk2, 0 + 1, none⟩ (Value.slice (some ⟨b, off, none⟩) a1n a1c)) ∧ ((0 : Int) ≤ ((k : Nat) : Int)) ∧ (((k : Nat) : Int) < ((a1n : Nat) : Int)) ∧ ((0 : Int) ≤ ((k : Nat) : Int)) ∧ (((k : Nat) : Int) < ((a1n : Nat) : Int)) ∧ (LoadsAt Try.prog (fun x_ => St w x_ [Res.box blk13 [Value.int .i64 a0, Value.slice A2 (List.length (fL b0 ((ys.take k).map (con true)))) c2] 55, Res.box blk4 [Value.int .i64 0, Value.slice none 0 0] 55, Res.box blk2 [Value.int .i64 a0, Value.slice (some ⟨b, off, none⟩) a1n a1c] 55]) 3 ⟨b, off + Int.toNat ((k : Nat) : Int) * 2 + 0, none⟩ (Value.int .i64 y.s)) ∧ (LoadsAt Try.prog (fun x_ => St w x_ [Res.box blk13 [Value.int .i64 a0, Value.slice A2 (List.length (fL b0 ((ys.take k).map (con true)))) c2] 55, Res.box blk4 [Value.int .i64 0, Value.slice none 0 0] 55, Res.box blk2 [Value.int .i64 a0, Value.slice (some ⟨b, off, none⟩) a1n a1c] 55]) 26 ⟨b, off + Int.toNat ((k : Nat) : Int) * 2 + 1, none⟩ (Value.slice y.A y.zs.length y.c))) (by kernel_rfl) (Qpanic.block (Qpanic.then (Qpanic.then (Qpanic.block (Qpanic.then Qpanic.bp))))) rfl (by kernel_rfl) ⟨(ld_box (i := 0) rfl rfl (by kernel_rfl)), (ld_box (i := 2) rfl rfl (by kernel_rfl)), (ld_box (i := 2) rfl rfl (by kernel_rfl)), (by omega), (by omega), (by omega), (by omega), (ld_low (flat_cell (p := true) (r := 0) hcl hyk rfl) (by kernel_rfl)), (ld_low (flat_cell (p := true) (r := 1) hcl hyk rfl) (by kernel_rfl))⟩ (hS24.sub (List.Sublist.cons _ (List.Sublist.cons_cons _ (List.Sublist.cons_cons _ (List.Sublist.cons_cons _ (List.Sublist.trans List.Sublist.slnil (List.sublist_append_right _ _))))))) ?_
        refine a_op (i := 8) (fuel := 6) (listed' := #[true, true, true, true, true, true, true, true, true, true, true, true, true, true, true, false, false, false, false, false, false]) rfl rfl (by kernel_rfl) (by kernel_rfl) rfl (fun K hK => op_buildSlice (d := some 39) rfl rfl (e := 5) (by kernel_rfl) 1 (by kernel_rfl) (by decide) (by decide) [] (by kernel_rfl) rfl hS24 (fun blk26 w25 hS25 => hK _ _ (fun _ => (hS25.sub (List.Sublist.cons _ (List.Sublist.cons _ (List.Sublist.cons_cons _ (List.Sublist.cons_cons _ (List.Sublist.cons_cons _ (List.Sublist.trans List.Sublist.slnil (List.sublist_append_right _ _))))))))) ?_))
        clear hK K
        refine a_op (i := 15) (fuel := 5) (listed' := #[true, true, true, true, true, true, true, true, true, true, true, true, true, true, true, true, false, false, false, false, false]) rfl rfl (by kernel_rfl) (by kernel_rfl) rfl (fun K hK => op_append_nil (d := some 46) rfl rfl elByte hS25 (i := 0) rfl rfl rfl (news := (y.zs.map (Value.int .u8))) (hS25.rdlow hy1).m1 (ints_one _ _) (by omega) (by omega) (fun v28 w27 hS27 => hK _ _ (fun _ => (hS27.sub (List.Sublist.cons _ (List.Sublist.cons _ (List.Sublist.cons_cons _ (List.Sublist.cons_cons _ (List.Sublist.cons_cons _ (List.Sublist.trans List.Sublist.slnil (List.sublist_append_right _ _))))))))) ?_))
        clear hK K
        obtain ⟨hlv28, Av28, cv28, hvv28, hnv28, hmv28⟩ := hS27.row_slice (List.mem_of_getElem? (i := 0) rfl)
        subst hvv28
        refine t_seg (S := (fun x_ => St w x_ [Res.box blk13 [Value.int .i64 a0, Value.slice A2 (List.length (fL b0 ((ys.take k).map (con true)))) c2] 55, Res.box blk4 [Value.int .i64 0, Value.slice none 0 0] 55, Res.box blk2 [Value.int .i64 a0, Value.slice (some ⟨b, off, none⟩) a1n a1c] 55])) [(16, .no)] 4 #[true, true, true, true, true, true, true, true, true, true, true, true, true, true, true, true, true, false, false, false, false] [(47, Value.agg #[Value.int .i64 y.s, Value.slice Av28 y.zs.length cv28])] True (by kernel_rfl) (Qpanic.block (Qpanic.then (Qpanic.then (Qpanic.block (Qpanic.then Qpanic.bp))))) rfl (by kernel_rfl) trivial (hS27.sub (List.Sublist.cons _ (List.Sublist.cons _ (List.Sublist.cons_cons _ (List.Sublist.cons_cons _ (List.Sublist.cons_cons _ (List.Sublist.trans List.Sublist.slnil (List.sublist_append_right _ _)))))))) ?_
        refine a_op (i := 17) (fuel := 3) (listed' := #[true, true, true, true, true, true, true, true, true, true, true, true, true, true, true, true, true, true, false, false, false]) rfl rfl (by kernel_rfl) (by kernel_rfl) rfl (fun K hK => op_buildSlice (d := some 48) rfl rfl (e := 37) (by kernel_rfl) 2 (by kernel_rfl) (by decide) (by decide) [Value.int .i64 y.s, Value.slice Av28 y.zs.length cv28] (by kernel_rfl) rfl hS27 (fun blk30 w29 hS29 => hK _ _ (fun _ => (hS29.sub (List.Sublist.cons _ (List.Sublist.cons _ (List.Sublist.cons _ (List.Sublist.cons_cons _ (List.Sublist.cons_cons _ (List.Sublist.cons_cons _ (List.Sublist.trans List.Sublist.slnil (List.sublist_append_right _ _)))))))))) ?_))
        clear hK K
        refine a_op (i := 18) (fuel := 2) (listed' := #[true, true, true, true, true, true, true, true, true, true, true, true, true, true, true, true, true, true, true, false, false]) rfl rfl (by kernel_rfl) (by kernel_rfl) rfl (fun K hK => op_append (d := some 49) rfl rfl el_37 hS29 (i := 2) rfl rfl rfl (news := [Value.int .i64 y.s, Value.slice Av28 y.zs.length cv28]) (hS29.rd (List.mem_of_getElem? (i := 0) rfl)) (all_one (by rfl)) (by omega) (by omega) (fun v32 w31 hS31 => hK _ _ (fun _ => (hS31.sub (List.Sublist.cons _ (List.Sublist.cons _ (List.Sublist.cons _ (List.Sublist.cons_cons _ (List.Sublist.cons_cons _ (List.Sublist.cons_cons _ (List.Sublist.trans List.Sublist.slnil (List.sublist_append_right _ _)))))))))) ?_))
        clear hK K
        obtain ⟨hlv32, Av32, cv32, hvv32, hnv32, hmv32⟩ := hS31.row_slice (List.mem_of_getElem? (i := 2) rfl)
        subst hvv32
        have hS31s4 : St w w31 (Res.row (Value.slice (some ⟨blk30, 0, none⟩) 1 1) 37 2 1 ([Value.int .i64 y.s, Value.slice Av28 y.zs.length cv28]) :: Res.row (Value.slice Av28 y.zs.length cv28) 5 1 y.zs.length (y.zs.map (Value.int .u8)) :: Res.row (Value.slice Av32 ((List.length (fL b0 ((ys.take k).map (con true)))) + 1) cv32) 37 2 ((List.length (fL b0 ((ys.take k).map (con true)))) + 1) (flat true (zs ++ [(It.mk y.s Av28 cv28 y.zs)])) :: Res.box blk13 [Value.int .i64 a0, Value.slice A2 (List.length (fL b0 ((ys.take k).map (con true)))) c2] 55 :: Res.box blk4 [Value.int .i64 0, Value.slice none 0 0] 55 :: Res.box blk2 [Value.int .i64 a0, Value.slice (some ⟨b, off, none⟩) a1n a1c] 55 :: ((zs.map (It.row .u8 5)) ++ [])) := hS31.eqv (by rw [flat_snoc]; rfl)
        have hS31s4s5 : St w w31 (Res.row (Value.slice Av28 y.zs.length cv28) 5 1 y.zs.length (y.zs.map (Value.int .u8)) :: Res.row (Value.slice Av32 ((List.length (fL b0 ((ys.take k).map (con true)))) + 1) cv32) 37 2 ((List.length (fL b0 ((ys.take k).map (con true)))) + 1) (flat true (zs ++ [(It.mk y.s Av28 cv28 y.zs)])) :: Res.box blk13 [Value.int .i64 a0, Value.slice A2 (List.length (fL b0 ((ys.take k).map (con true)))) c2] 55 :: Res.box blk4 [Value.int .i64 0, Value.slice none 0 0] 55 :: Res.box blk2 [Value.int .i64 a0, Value.slice (some ⟨b, off, none⟩) a1n a1c] 55 :: ((zs.map (It.row .u8 5)) ++ [])) := (hS31s4.sub (List.Sublist.cons _ (List.Sublist.cons_cons _ (List.Sublist.cons_cons _ (List.Sublist.cons_cons _ (List.Sublist.cons_cons _ (List.Sublist.cons_cons _ (List.Sublist.append (List.Sublist.refl _) List.Sublist.slnil))))))))
        have hS31s4s5s6 : St w w31 (Res.row (Value.slice Av32 ((List.length (fL b0 ((ys.take k).map (con true)))) + 1) cv32) 37 2 ((List.length (fL b0 ((ys.take k).map (con true)))) + 1) (flat true (zs ++ [(It.mk y.s Av28 cv28 y.zs)])) :: Res.box blk13 [Value.int .i64 a0, Value.slice A2 (List.length (fL b0 ((ys.take k).map (con true)))) c2] 55 :: Res.box blk4 [Value.int .i64 0, Value.slice none 0 0] 55 :: Res.box blk2 [Value.int .i64 a0, Value.slice (some ⟨b, off, none⟩) a1n a1c] 55 :: (((zs ++ [(It.mk y.s Av28 cv28 y.zs)]).map (It.row .u8 5)) ++ [])) := St.pickB (κ := .u8) (tb := 5) [Res.row (Value.slice Av32 ((List.length (fL b0 ((ys.take k).map (con true)))) + 1) cv32) 37 2 ((List.length (fL b0 ((ys.take k).map (con true)))) + 1) (flat true (zs ++ [(It.mk y.s Av28 cv28 y.zs)])), Res.box blk13 [Value.int .i64 a0, Value.slice A2 (List.length (fL b0 ((ys.take k).map (con true)))) c2] 55, Res.box blk4 [Value.int .i64 0, Value.slice none 0 0] 55, Res.box blk2 [Value.int .i64 a0, Value.slice (some ⟨b, off, none⟩) a1n a1c] 55] [] [] zs (It.mk y.s Av28 cv28 y.zs) hS31s4s5
        have hcq33 : (zs ++ [(It.mk y.s Av28 cv28 y.zs)]).map (con true) = ((fL b0 ((ys.take k).map (con true))) ++ [(y.s, y.zs)]) := by rw [List.map_append, hzk]; rfl
        have hcq33l : List.length ((fL b0 ((ys.take k).map (con true))) ++ [(y.s, y.zs)]) = ((List.length (fL b0 ((ys.take k).map (con true)))) + 1) := by have h1_ : List.length (fL b0 ((ys.take k).map (con true))) = (List.length (fL b0 ((ys.take k).map (con true)))) := rfl; rw [List.length_append, List.length_singleton] <;> omega
        refine t_seg (S := (fun x_ => St w x_ [Res.box blk13 [Value.int .i64 a0, Value.slice A2 (List.length (fL b0 ((ys.take k).map (con true)))) c2] 55, Res.box blk4 [Value.int .i64 0, Value.slice none 0 0] 55, Res.box blk2 [Value.int .i64 a0, Value.slice (some ⟨b, off, none⟩) a1n a1c] 55])) [(19, .no)] 1 #[true, true, true, true, true, true, true, true, true, true, true, true, true, true, true, true, true, true, true, true, false] [(50, Value.pointer (some ⟨blk13, 0 + 1, none⟩))] True (by kernel_rfl) (Qpanic.block (Qpanic.then (Qpanic.then (Qpanic.block (Qpanic.then Qpanic.bp))))) rfl (by kernel_rfl) trivial (hS31s4s5s6.sub (List.Sublist.cons _ (List.Sublist.cons_cons _ (List.Sublist.cons_cons _ (List.Sublist.cons_cons _ (List.Sublist.trans List.Sublist.slnil (List.sublist_append_right _ _))))))) ?_
        refine a_op (i := 20) (fuel := 0) (listed' := #[true, true, true, true, true, true, true, true, true, true, true, true, true, true, true, true, true, true, true, true, true]) rfl rfl (by kernel_rfl) (by kernel_rfl) rfl (fun K hK => op_store (d := none) rfl rfl (i := 1) (b := blk13) (off := 0 + 1) (cs := [Value.int .i64 a0, Value.slice A2 (List.length (fL b0 ((ys.take k).map (con true)))) c2]) (bt := 55) (by kernel_rfl) (by kernel_rfl) [Value.slice Av32 ((List.length (fL b0 ((ys.take k).map (con true)))) + 1) cv32] (by kernel_rfl) (by kernel_rfl) (Nat.le_of_ble_eq_true (by kernel_rfl)) (by kernel_rfl) (Res.row (Value.slice Av32 ((List.length (fL b0 ((ys.take k).map (con true)))) + 1) cv32) 37 2 ((List.length (fL b0 ((ys.take k).map (con true)))) + 1) (flat true (zs ++ [(It.mk y.s Av28 cv28 y.zs)])) :: Res.box blk13 [Value.int .i64 a0, Value.slice Av32 ((List.length (fL b0 ((ys.take k).map (con true)))) + 1) cv32] 55 :: Res.box blk4 [Value.int .i64 0, Value.slice none 0 0] 55 :: Res.box blk2 [Value.int .i64 a0, Value.slice (some ⟨b, off, none⟩) a1n a1c] 55 :: (((zs ++ [(It.mk y.s Av28 cv28 y.zs)]).map (It.row .u8 5)) ++ [])) (by kernel_rfl) hS31s4s5s6 (fun w34 hS34 => hK _ _ (fun h => absurd h (by decide)) ?_))
        clear hK K
        refine a_done (by kernel_rfl) ?_
        refine blk_n ?_
        refine then_n ?_
        refine c_reg ?_
        refine q_seg (S := (fun x_ => St w x_ (Res.row (Value.slice Av32 ((List.length (fL b0 ((ys.take k).map (con true)))) + 1) cv32) 37 2 ((List.length (fL b0 ((ys.take k).map (con true)))) + 1) (flat true (zs ++ [(It.mk y.s Av28 cv28 y.zs)])) :: Res.box blk13 [Value.int .i64 a0, Value.slice Av32 ((List.length (fL b0 ((ys.take k).map (con true)))) + 1) cv32] 55 :: Res.box blk4 [Value.int .i64 0, Value.slice none 0 0] 55 :: Res.box blk2 [Value.int .i64 a0, Value.slice (some ⟨b, off, none⟩) a1n a1c] 55 :: (((zs ++ [(It.mk y.s Av28 cv28 y.zs)]).map (It.row .u8 5)) ++ [])))) [(6, Value.int .i64 (((k : Nat) : Int) + (1 : Int))), (22, Value.int .i64 (((k : Nat) : Int) + (1 : Int))), (21, Value.int .i64 ((k : Nat) : Int))] [.no, .no, .no] ((InK .i64 (((k : Nat) : Int) + (1 : Int)))) (by kernel_rfl) (in64 (by omega) (by omega)) hS34 ?_
        refine l_nil rfl ?_
        refine then_n ?_
        have hfk := fL_t (nx := b0) hyk hb23p
        refine round_end ((k + 1, Av32, cv32, (zs ++ [(It.mk y.s Av28 cv28 y.zs)]))) ?_ ?_ ?_
        · exact (agree_cons (by kernel_rfl) (agree_cons (by kernel_rfl) (agree_cons (by kernel_rfl) (agree_cons (by kernel_rfl) (agree_cons (by kernel_rfl) agree_nil)))))
        · exact ⟨(by omega), (by rw [hfk]; exact hcq33), (hS34.eqv (by rw [hfk, List.length_append]; rfl))⟩
        · exact (by first | omega | (dsimp only; omega))
      · skip
        have hb23p := of_decide_eq_false hb23
        refine c_false (b := (decide (b0 ≤ y.s))) (by kernel_rfl) hb23 ?_
        refine wp_skip ?_
        refine blk_n ?_
        refine then_n ?_
        refine c_reg ?_
        refine q_seg (S := (fun x_ => St w x_ (Res.row (Value.slice A2 (List.length (fL b0 ((ys.take k).map (con true)))) c2) 37 2 (List.length (fL b0 ((ys.take k).map (con true)))) (flat true zs) :: Res.box blk13 [Value.int .i64 a0, Value.slice A2 (List.length (fL b0 ((ys.take k).map (con true)))) c2] 55 :: Res.box blk4 [Value.int .i64 0, Value.slice none 0 0] 55 :: Res.box blk2 [Value.int .i64 a0, Value.slice (some ⟨b, off, none⟩) a1n a1c] 55 :: ((zs.map (It.row .u8 5)) ++ [])))) [(6, Value.int .i64 (((k : Nat) : Int) + (1 : Int))), (22, Value.int .i64 (((k : Nat) : Int) + (1 : Int))), (21, Value.int .i64 ((k : Nat) : Int))] [.no, .no, .no] ((InK .i64 (((k : Nat) : Int) + (1 : Int)))) (by kernel_rfl) (in64 (by omega) (by omega)) hS20 ?_
        refine l_nil rfl ?_
        refine then_n ?_
        have hfk := fL_f (nx := b0) hyk hb23p
        refine round_end ((k + 1, A2, c2, zs)) ?_ ?_ ?_
        · exact (agree_cons (by kernel_rfl) (agree_cons (by kernel_rfl) (agree_cons (by kernel_rfl) (agree_cons (by kernel_rfl) (agree_cons (by kernel_rfl) agree_nil)))))
        · exact ⟨(by omega), (by rw [hfk]; exact hzk), (hS20.eqv (by rw [hfk]))⟩
        · exact (by first | omega | (dsimp only; omega))
    · skip
      have hb22p := of_decide_eq_false hb22
      refine c_false (b := (decide (((k : Nat) : Int) < ((a1n : Nat) : Int)))) (by kernel_rfl) hb22 ?_
      refine wp_exit ?_
      refine then_x ?_
      refine then_x ?_
      refine blk_hit ?_
      refine then_n ?_
      refine wp_seq ?_
      refine c_reg ?_
      refine q_seg (S := (fun x_ => St w x_ (Res.row (Value.slice A2 (List.length (fL b0 ((ys.take k).map (con true)))) c2) 37 2 (List.length (fL b0 ((ys.take k).map (con true)))) (flat true zs) :: Res.box blk13 [Value.int .i64 a0, Value.slice A2 (List.length (fL b0 ((ys.take k).map (con true)))) c2] 55 :: Res.box blk4 [Value.int .i64 0, Value.slice none 0 0] 55 :: Res.box blk2 [Value.int .i64 a0, Value.slice a1A a1n a1c] 55 :: ((zs.map (It.row .u8 5)) ++ [])))) [(51, Value.agg #[Value.int .i64 a0, Value.slice A2 (List.length (fL b0 ((ys.take k).map (con true)))) c2])] [.v (Value.agg #[Value.int .i64 a0, Value.slice A2 (List.length (fL b0 ((ys.take k).map (con true)))) c2])] ((LoadsAt Try.prog (fun x_ => St w x_ (Res.row (Value.slice A2 (List.length (fL b0 ((ys.take k).map (con true)))) c2) 37 2 (List.length (fL b0 ((ys.take k).map (con true)))) (flat true zs) :: Res.box blk13 [Value.int .i64 a0, Value.slice A2 (List.length (fL b0 ((ys.take k).map (con true)))) c2] 55 :: Res.box blk4 [Value.int .i64 0, Value.slice none 0 0] 55 :: Res.box blk2 [Value.int .i64 a0, Value.slice a1A a1n a1c] 55 :: ((zs.map (It.row .u8 5)) ++ []))) 55 ⟨blk13, 0, none⟩ (Value.agg #[Value.int .i64 a0, Value.slice A2 (List.length (fL b0 ((ys.take k).map (con true)))) c2]))) (by kernel_rfl) (ld_boxN (i := 1) (k := 2) rfl rfl rfl (by kernel_rfl)) hS20 ?_
      refine l_op rfl rfl (fun K hK => op_store (d := none) rfl rfl (i := 2) (b := blk4) (off := 0) (cs := [Value.int .i64 0, Value.slice none 0 0]) (bt := 55) (by kernel_rfl) (by kernel_rfl) [Value.int .i64 a0, Value.slice A2 (List.length (fL b0 ((ys.take k).map (con true)))) c2] (by kernel_rfl) (by kernel_rfl) (Nat.le_of_ble_eq_true (by kernel_rfl)) (by kernel_rfl) (Res.row (Value.slice A2 (List.length (fL b0 ((ys.take k).map (con true)))) c2) 37 2 (List.length (fL b0 ((ys.take k).map (con true)))) (flat true zs) :: Res.box blk13 [Value.int .i64 a0, Value.slice A2 (List.length (fL b0 ((ys.take k).map (con true)))) c2] 55 :: Res.box blk4 [Value.int .i64 a0, Value.slice A2 (List.length (fL b0 ((ys.take k).map (con true)))) c2] 55 :: Res.box blk2 [Value.int .i64 a0, Value.slice a1A a1n a1c] 55 :: ((zs.map (It.row .u8 5)) ++ [])) (by kernel_rfl) hS20 (fun w35 hS35 => hK _ _ ?_))
      clear hK K
      refine l_nil rfl ?_
      refine then_n ?_
      refine wp_ret ?_
      have hS35s7 : St w w35 (Res.row (Value.slice A2 (List.length (fL b0 ((ys.take k).map (con true)))) c2) 37 2 (List.length (fL b0 ((ys.take k).map (con true)))) (flat true zs) :: ((zs.map (It.row .u8 5)) ++ [])) := (hS35.sub (List.Sublist.cons_cons _ (List.Sublist.cons _ (List.Sublist.cons _ (List.Sublist.cons _ (List.Sublist.append (List.Sublist.refl _) List.Sublist.slnil))))))
      have hL : ackL b0 a0 (ys.map (con true)) = (fL b0 ((ys.take k).map (con true))) := by rw [List.take_of_length_le (by omega)]; exact if_neg hb15p
      exact c_end (S := (fun x_ => St w x_ (Res.row (Value.slice A2 (List.length (fL b0 ((ys.take k).map (con true)))) c2) 37 2 (List.length (fL b0 ((ys.take k).map (con true)))) (flat true zs) :: Res.box blk13 [Value.int .i64 a0, Value.slice A2 (List.length (fL b0 ((ys.take k).map (con true)))) c2] 55 :: Res.box blk4 [Value.int .i64 a0, Value.slice A2 (List.length (fL b0 ((ys.take k).map (con true)))) c2] 55 :: Res.box blk2 [Value.int .i64 a0, Value.slice a1A a1n a1c] 55 :: ((zs.map (It.row .u8 5)) ++ [])))) (rs := [.cell 4 55]) rfl [Value.agg #[Value.int .i64 a0, Value.slice A2 (List.length (fL b0 ((ys.take k).map (con true)))) c2]] (v := Value.agg #[Value.int .i64 a0, Value.slice A2 (List.length (fL b0 ((ys.take k).map (con true)))) c2]) (C := ((LoadsAt Try.prog (fun x_ => St w x_ (Res.row (Value.slice A2 (List.length (fL b0 ((ys.take k).map (con true)))) c2) 37 2 (List.length (fL b0 ((ys.take k).map (con true)))) (flat true zs) :: Res.box blk13 [Value.int .i64 a0, Value.slice A2 (List.length (fL b0 ((ys.take k).map (con true)))) c2] 55 :: Res.box blk4 [Value.int .i64 a0, Value.slice A2 (List.length (fL b0 ((ys.take k).map (con true)))) c2] 55 :: Res.box blk2 [Value.int .i64 a0, Value.slice a1A a1n a1c] 55 :: ((zs.map (It.row .u8 5)) ++ []))) 55 ⟨blk4, 0, none⟩ (Value.agg #[Value.int .i64 a0, Value.slice A2 (List.length (fL b0 ((ys.take k).map (con true)))) c2])))) (by kernel_rfl) (ld_boxN (i := 2) (k := 2) rfl rfl rfl (by kernel_rfl)) hS35 (by rw [hL]; exact hS35s7.rt ⟨_, _, _, rfl, rfl, hzk⟩)
end Go.Proofs.Ytchkiohikhfecaa
