/-
  Contracts of radio packets: copies, comparisons, sizes, marks.
-/
import Derived.Test.YtfkeiegajaofdaaGSl
import Derived.Test.YtfkeiegajaofdaaDeep
namespace Go.Proofs.Ytfkeiegajaofdaa
open Go.RowKit
set_option maxRecDepth 100000

theorem copyBytes_c (A : Option Addr) (n c : Nat) (zs : List Int) (w : World) (hn : n ≤ 1099511627776) (hr : Rd w w.heap.size A n (zs.map (Value.int .u8))) : Calls Try.prog 108 #[.slice A n c] w (Ret w (fun v new => ∃ b, v = .slice (some ⟨b, 0, none⟩) n n ∧ new = [.row (.slice (some ⟨b, 0, none⟩) n n) 5 1 n (zs.map (Value.int .u8))])) := by
  refine calls_FA Try.func108 rfl (n := 11) rfl (l := [(0, Value.slice A n c)]) rfl (by simp) (fun g => ?_)
  have hS := St.init w
  refine wp_seq ?_
  refine c_reg ?_
  refine q_seg (S := (fun x_ => St w x_ [])) [(2, Value.slice none 0 0)] [.no] True (by kernel_rfl) trivial hS ?_
  refine l_nil rfl ?_
  refine then_n ?_
  refine wp_seq ?_
  refine c_reg ?_
  refine q_seg (S := (fun x_ => St w x_ [])) [(5, Value.int .i64 ((n : Nat) : Int)), (4, Value.slice A n c)] [.no, .no] True (by kernel_rfl) trivial hS ?_
  refine l_op rfl rfl (fun K hK => op_make (d := some 6) rfl rfl (e := 5) (by kernel_rfl) [Value.int .u8 0] (by kernel_rfl) 1 (by kernel_rfl) 1 (by kernel_rfl) n n (kl := .i64) (kc := .i64) (by kernel_rfl) (by kernel_rfl) (by omega) (by omega) (by unfold maxLen; omega) hS (fun blk2 w1 hS1 => hK _ _ ?_))
  clear hK K
  refine q_seg (S := (fun x_ => St w x_ [Res.row (Value.slice (some ⟨blk2, 0, none⟩) n n) 5 1 n (zrow [Value.int .u8 0] (n * 1))])) [(3, Value.slice (some ⟨blk2, 0, none⟩) n n)] [.no] True (by kernel_rfl) trivial hS1 ?_
  refine l_nil rfl ?_
  refine then_n ?_
  refine wp_seq ?_
  refine c_reg ?_
  refine q_seg (S := (fun x_ => St w x_ [Res.row (Value.slice (some ⟨blk2, 0, none⟩) n n) 5 1 n (zrow [Value.int .u8 0] (n * 1))])) [(8, Value.slice A n c), (7, Value.slice (some ⟨blk2, 0, none⟩) n n)] [.no, .no] True (by kernel_rfl) trivial hS1 ?_
  refine l_op rfl rfl (fun K hK => op_copy (d := some 9) rfl rfl (e := 5) (by kernel_rfl) (by kernel_rfl) (i := 0) (b := blk2) (cap := n) (m := n) (xs := (zrow [Value.int .u8 0] (n * 1))) (by kernel_rfl) (by kernel_rfl) (A := A) (k := n) (c := c) (by kernel_rfl) (zs.map (Value.int .u8)) hS1 (hS1.rdlow hr) (ints_one _ _) n (by omega) (fun w3 hS3 => hK _ _ ?_))
  clear hK K
  refine l_nil rfl ?_
  refine then_n ?_
  refine wp_seq ?_
  refine c_reg ?_
  refine q_seg (S := (fun x_ => St w x_ [Res.row (Value.slice (some ⟨blk2, 0, none⟩) n n) 5 1 n (List.take n (zs.map (Value.int .u8)) ++ List.drop n (zrow [Value.int .u8 0] (n * 1)))])) [(2, Value.slice (some ⟨blk2, 0, none⟩) n n), (10, Value.slice (some ⟨blk2, 0, none⟩) n n)] [.no, .no] True (by kernel_rfl) trivial hS3 ?_
  refine l_nil rfl ?_
  refine then_n ?_
  refine wp_ret ?_
  exact c_end (S := (fun x_ => St w x_ [Res.row (Value.slice (some ⟨blk2, 0, none⟩) n n) 5 1 n (List.take n (zs.map (Value.int .u8)) ++ List.drop n (zrow [Value.int .u8 0] (n * 1)))])) (rs := [.tmp 2]) rfl [] (v := Value.slice (some ⟨blk2, 0, none⟩) n n) (C := True) (by kernel_rfl) trivial hS3 ((hS3.eqv (by rw [copy_all (by rw [List.length_map]; exact hr.len) (by rw [zrow_length]; omega)]; rfl)).rt ⟨_, rfl, rfl⟩)
theorem bytesEqual_c (A B : Option Addr) (n c m d : Nat) (xs ys : List Int) (w : World) (hx : okz .u8 xs) (hy : okz .u8 ys) (hr : Rd w w.heap.size A n (xs.map (Value.int .u8))) (hr2 : Rd w w.heap.size B m (ys.map (Value.int .u8))) : Calls Try.prog 111 #[.slice A n c, .slice B m d] w (RetV w (.bool (decide (xs = ys)))) := by
  refine calls_FA Try.func111 rfl (n := 10) rfl (l := [(0, Value.slice A n c), (1, Value.slice B m d)]) rfl (by simp) (fun g => ?_)
  have hS := St.init w
  refine wp_seq ?_
  refine c_reg ?_
  refine q_seg (S := (fun x_ => St w x_ [])) [(4, Value.bool false)] [.no] True (by kernel_rfl) trivial hS ?_
  refine l_nil rfl ?_
  refine then_n ?_
  refine wp_seq ?_
  refine c_reg ?_
  refine q_seg (S := (fun x_ => St w x_ [])) [(4, Value.bool (((bstr xs)).toList == ((bstr ys)).toList)), (9, Value.bool (((bstr xs)).toList == ((bstr ys)).toList)), (8, Value.string (bstr ys)), (7, Value.slice B m d), (6, Value.string (bstr xs)), (5, Value.slice A n c)] [.no, .v (Value.string (bstr xs)), .no, .v (Value.string (bstr ys)), .no, .no] ((YieldsAt Try.prog (fun x_ => St w x_ []) (convert 22 9 (Value.slice A n c)) (Value.string (bstr xs))) ∧ (YieldsAt Try.prog (fun x_ => St w x_ []) (convert 22 9 (Value.slice B m d)) (Value.string (bstr ys)))) (by kernel_rfl) ⟨(conv_b (e := 5) (by kernel_rfl) (by kernel_rfl) (by kernel_rfl) (fun _ hx_ => (hx_.rdlow hr))), (conv_b (e := 5) (by kernel_rfl) (by kernel_rfl) (by kernel_rfl) (fun _ hx_ => (hx_.rdlow hr2)))⟩ hS ?_
  refine l_nil rfl ?_
  refine then_n ?_
  refine wp_ret ?_
  exact c_end (S := (fun x_ => St w x_ [])) (rs := [.tmp 4]) rfl [] (v := Value.bool (((bstr xs)).toList == ((bstr ys)).toList)) (C := True) (by kernel_rfl) trivial hS ((hS.rv (congrArg Value.bool (by first | exact bstr_eq hx hy | rfl))))
theorem EqualBytes_i_c (A B : Option Addr) (n c m d : Nat) (xs ys : List Int) (w : World) (hx : okz .u8 xs) (hy : okz .u8 ys) (hr : Rd w w.heap.size A n (xs.map (Value.int .u8))) (hr2 : Rd w w.heap.size B m (ys.map (Value.int .u8))) : Calls Try.prog 88 #[.slice A n c, .slice B m d] w (RetV w (.bool (decide (xs = ys)))) := by
  refine calls_FA Try.func88 rfl (n := 8) rfl (l := [(0, Value.slice A n c), (1, Value.slice B m d)]) rfl (by simp) (fun g => ?_)
  have hS := St.init w
  refine wp_seq ?_
  refine c_reg ?_
  refine q_seg (S := (fun x_ => St w x_ [])) [(4, Value.bool false)] [.no] True (by kernel_rfl) trivial hS ?_
  refine l_nil rfl ?_
  refine then_n ?_
  refine wp_seq ?_
  refine c_reg ?_
  refine q_seg (S := (fun x_ => St w x_ [])) [(6, Value.slice B m d), (5, Value.slice A n c)] [.no, .no] True (by kernel_rfl) trivial hS ?_
  refine l_op rfl rfl (fun K hK => op_callv (d := some 7) rfl rfl ⟨_, Try.func111, by kernel_rfl, by kernel_rfl⟩ (vs := [Value.slice A n c, Value.slice B m d]) (by kernel_rfl) (v := Value.bool (decide (xs = ys))) (bytesEqual_c A B n c m d xs ys w hx hy (hS.rdlow hr) (hS.rdlow hr2)) hS (fun w1 hS1 => hK _ _ ?_))
  clear hK K
  refine q_seg (S := (fun x_ => St w x_ [])) [(4, Value.bool (decide (xs = ys)))] [.no] True (by kernel_rfl) trivial hS1 ?_
  refine l_nil rfl ?_
  refine then_n ?_
  refine wp_ret ?_
  exact c_end (S := (fun x_ => St w x_ [])) (rs := [.tmp 4]) rfl [] (v := Value.bool (decide (xs = ys))) (C := True) (by kernel_rfl) trivial hS1 ((hS1.rv (congrArg Value.bool (by first | exact bstr_eq hx hy | rfl))))
theorem EqualSecured_i_c (a0 : Int) (a1 : Int) (a2A : Option Addr) (a2n a2c : Nat) (a2z : List Int) (a3 : Int) (b0 : Int) (b1 : Int) (b2A : Option Addr) (b2n b2c : Nat) (b2z : List Int) (b3 : Int) (w : World) (a2h : Rd w w.heap.size a2A a2n (a2z.map (Value.int .u8))) (a2w : a2n ≤ 1099511627776) (a2o : okz .u8 a2z) (b2h : Rd w w.heap.size b2A b2n (b2z.map (Value.int .u8))) (b2w : b2n ≤ 1099511627776) (b2o : okz .u8 b2z) : Calls Try.prog 53 #[Value.agg #[Value.int .i64 a0, Value.int .i64 a1, Value.slice a2A a2n a2c, Value.int .i64 a3], Value.agg #[Value.int .i64 b0, Value.int .i64 b1, Value.slice b2A b2n b2c, Value.int .i64 b3]] w (RetV w (.bool (((decide (a0 = b0) && decide (a1 = b1)) && decide (a3 = b3)) && decide (a2z = b2z)))) := by
  have a2l := a2h.len
  have b2l := b2h.len
  refine calls_FA Try.func53 rfl (n := 31) rfl (l := [(0, Value.agg #[Value.int .i64 a0, Value.int .i64 a1, Value.slice a2A a2n a2c, Value.int .i64 a3]), (1, Value.agg #[Value.int .i64 b0, Value.int .i64 b1, Value.slice b2A b2n b2c, Value.int .i64 b3])]) rfl (by simp) (fun g => ?_)
  have hS := St.init w
  refine wp_seq ?_
  refine c_reg ?_
  refine l_op rfl rfl (fun K hK => op_box (d := some 2) rfl rfl [Value.int .i64 a0, Value.int .i64 a1, Value.slice a2A a2n a2c, Value.int .i64 a3] (by kernel_rfl) hS (fun blk2 w1 hS1 => hK _ _ ?_))
  clear hK K
  refine l_op rfl rfl (fun K hK => op_box (d := some 3) rfl rfl [Value.int .i64 b0, Value.int .i64 b1, Value.slice b2A b2n b2c, Value.int .i64 b3] (by kernel_rfl) hS1 (fun blk4 w3 hS3 => hK _ _ ?_))
  clear hK K
  refine q_seg (S := (fun x_ => St w x_ [Res.box blk4 [Value.int .i64 b0, Value.int .i64 b1, Value.slice b2A b2n b2c, Value.int .i64 b3] 32, Res.box blk2 [Value.int .i64 a0, Value.int .i64 a1, Value.slice a2A a2n a2c, Value.int .i64 a3] 32])) [(4, Value.bool false)] [.no] True (by kernel_rfl) trivial hS3 ?_
  refine l_nil rfl ?_
  refine then_n ?_
  refine wp_seq ?_
  refine c_reg ?_
  refine q_seg (S := (fun x_ => St w x_ [Res.box blk4 [Value.int .i64 b0, Value.int .i64 b1, Value.slice b2A b2n b2c, Value.int .i64 b3] 32, Res.box blk2 [Value.int .i64 a0, Value.int .i64 a1, Value.slice a2A a2n a2c, Value.int .i64 a3] 32])) [(10, Value.bool (decide (a0 = b0))), (9, Value.bool (decide (a0 = b0))), (8, Value.int .i64 b0), (7, Value.pointer (some ⟨blk4, 0 + 0, none⟩)), (6, Value.int .i64 a0), (5, Value.pointer (some ⟨blk2, 0 + 0, none⟩))] [.no, .v (Value.int .i64 a0), .no, .v (Value.int .i64 b0), .no, .no] ((LoadsAt Try.prog (fun x_ => St w x_ [Res.box blk4 [Value.int .i64 b0, Value.int .i64 b1, Value.slice b2A b2n b2c, Value.int .i64 b3] 32, Res.box blk2 [Value.int .i64 a0, Value.int .i64 a1, Value.slice a2A a2n a2c, Value.int .i64 a3] 32]) 3 ⟨blk2, 0 + 0, none⟩ (Value.int .i64 a0)) ∧ (LoadsAt Try.prog (fun x_ => St w x_ [Res.box blk4 [Value.int .i64 b0, Value.int .i64 b1, Value.slice b2A b2n b2c, Value.int .i64 b3] 32, Res.box blk2 [Value.int .i64 a0, Value.int .i64 a1, Value.slice a2A a2n a2c, Value.int .i64 a3] 32]) 3 ⟨blk4, 0 + 0, none⟩ (Value.int .i64 b0))) (by kernel_rfl) ⟨(ld_box (i := 1) rfl rfl (by kernel_rfl)), (ld_box (i := 0) rfl rfl (by kernel_rfl))⟩ hS3 ?_
  rcases Bool.eq_false_or_eq_true (decide (a0 = b0)) with hb5 | hb5
  · skip
    have hb5p := of_decide_eq_true hb5
    refine q_seg (S := (fun x_ => St w x_ [Res.box blk4 [Value.int .i64 b0, Value.int .i64 b1, Value.slice b2A b2n b2c, Value.int .i64 b3] 32, Res.box blk2 [Value.int .i64 a0, Value.int .i64 a1, Value.slice a2A a2n a2c, Value.int .i64 a3] 32])) [(17, Value.bool (decide (a1 = b1))), (16, Value.bool (decide (a1 = b1))), (15, Value.bool (decide (a1 = b1))), (14, Value.int .i64 b1), (13, Value.pointer (some ⟨blk4, 0 + 1, none⟩)), (12, Value.int .i64 a1), (11, Value.pointer (some ⟨blk2, 0 + 1, none⟩))] [.no, .v (Value.int .i64 a1), .no, .v (Value.int .i64 b1), .no, .v (.bool true), .no] (((decide (a0 = b0)) = true) ∧ ((decide (a0 = b0)) = true) ∧ (LoadsAt Try.prog (fun x_ => St w x_ [Res.box blk4 [Value.int .i64 b0, Value.int .i64 b1, Value.slice b2A b2n b2c, Value.int .i64 b3] 32, Res.box blk2 [Value.int .i64 a0, Value.int .i64 a1, Value.slice a2A a2n a2c, Value.int .i64 a3] 32]) 3 ⟨blk2, 0 + 1, none⟩ (Value.int .i64 a1)) ∧ ((decide (a0 = b0)) = true) ∧ ((decide (a0 = b0)) = true) ∧ (LoadsAt Try.prog (fun x_ => St w x_ [Res.box blk4 [Value.int .i64 b0, Value.int .i64 b1, Value.slice b2A b2n b2c, Value.int .i64 b3] 32, Res.box blk2 [Value.int .i64 a0, Value.int .i64 a1, Value.slice a2A a2n a2c, Value.int .i64 a3] 32]) 3 ⟨blk4, 0 + 1, none⟩ (Value.int .i64 b1)) ∧ ((decide (a0 = b0)) = true) ∧ ((decide (a0 = b0)) = true)) (by kernel_rfl) ⟨hb5, hb5, (ld_box (i := 1) rfl rfl (by kernel_rfl)), hb5, hb5, (ld_box (i := 0) rfl rfl (by kernel_rfl)), hb5, hb5⟩ hS3 ?_
    rcases Bool.eq_false_or_eq_true (decide (a1 = b1)) with hb6 | hb6
    · skip
      have hb6p := of_decide_eq_true hb6
      refine q_seg (S := (fun x_ => St w x_ [Res.box blk4 [Value.int .i64 b0, Value.int .i64 b1, Value.slice b2A b2n b2c, Value.int .i64 b3] 32, Res.box blk2 [Value.int .i64 a0, Value.int .i64 a1, Value.slice a2A a2n a2c, Value.int .i64 a3] 32])) [(24, Value.bool (decide (a3 = b3))), (23, Value.bool (decide (a3 = b3))), (22, Value.bool (decide (a3 = b3))), (21, Value.int .i64 b3), (20, Value.pointer (some ⟨blk4, 0 + 3, none⟩)), (19, Value.int .i64 a3), (18, Value.pointer (some ⟨blk2, 0 + 3, none⟩))] [.no, .v (Value.int .i64 a3), .no, .v (Value.int .i64 b3), .no, .v (.bool true), .no] (((decide (a1 = b1)) = true) ∧ ((decide (a1 = b1)) = true) ∧ (LoadsAt Try.prog (fun x_ => St w x_ [Res.box blk4 [Value.int .i64 b0, Value.int .i64 b1, Value.slice b2A b2n b2c, Value.int .i64 b3] 32, Res.box blk2 [Value.int .i64 a0, Value.int .i64 a1, Value.slice a2A a2n a2c, Value.int .i64 a3] 32]) 3 ⟨blk2, 0 + 3, none⟩ (Value.int .i64 a3)) ∧ ((decide (a1 = b1)) = true) ∧ ((decide (a1 = b1)) = true) ∧ (LoadsAt Try.prog (fun x_ => St w x_ [Res.box blk4 [Value.int .i64 b0, Value.int .i64 b1, Value.slice b2A b2n b2c, Value.int .i64 b3] 32, Res.box blk2 [Value.int .i64 a0, Value.int .i64 a1, Value.slice a2A a2n a2c, Value.int .i64 a3] 32]) 3 ⟨blk4, 0 + 3, none⟩ (Value.int .i64 b3)) ∧ ((decide (a1 = b1)) = true) ∧ ((decide (a1 = b1)) = true)) (by kernel_rfl) ⟨hb6, hb6, (ld_box (i := 1) rfl rfl (by kernel_rfl)), hb6, hb6, (ld_box (i := 0) rfl rfl (by kernel_rfl)), hb6, hb6⟩ hS3 ?_
      rcases Bool.eq_false_or_eq_true (decide (a3 = b3)) with hb7 | hb7
      · skip
        have hb7p := of_decide_eq_true hb7
        refine q_seg (S := (fun x_ => St w x_ [Res.box blk4 [Value.int .i64 b0, Value.int .i64 b1, Value.slice b2A b2n b2c, Value.int .i64 b3] 32, Res.box blk2 [Value.int .i64 a0, Value.int .i64 a1, Value.slice a2A a2n a2c, Value.int .i64 a3] 32])) [(28, Value.slice b2A b2n b2c), (27, Value.pointer (some ⟨blk4, 0 + 2, none⟩)), (26, Value.slice a2A a2n a2c), (25, Value.pointer (some ⟨blk2, 0 + 2, none⟩))] [.no, .v (Value.slice a2A a2n a2c), .no, .v (Value.slice b2A b2n b2c)] (((decide (a3 = b3)) = true) ∧ ((decide (a3 = b3)) = true) ∧ (LoadsAt Try.prog (fun x_ => St w x_ [Res.box blk4 [Value.int .i64 b0, Value.int .i64 b1, Value.slice b2A b2n b2c, Value.int .i64 b3] 32, Res.box blk2 [Value.int .i64 a0, Value.int .i64 a1, Value.slice a2A a2n a2c, Value.int .i64 a3] 32]) 22 ⟨blk2, 0 + 2, none⟩ (Value.slice a2A a2n a2c)) ∧ ((decide (a3 = b3)) = true) ∧ ((decide (a3 = b3)) = true) ∧ (LoadsAt Try.prog (fun x_ => St w x_ [Res.box blk4 [Value.int .i64 b0, Value.int .i64 b1, Value.slice b2A b2n b2c, Value.int .i64 b3] 32, Res.box blk2 [Value.int .i64 a0, Value.int .i64 a1, Value.slice a2A a2n a2c, Value.int .i64 a3] 32]) 22 ⟨blk4, 0 + 2, none⟩ (Value.slice b2A b2n b2c))) (by kernel_rfl) ⟨hb7, hb7, (ld_box (i := 1) rfl rfl (by kernel_rfl)), hb7, hb7, (ld_box (i := 0) rfl rfl (by kernel_rfl))⟩ hS3 ?_
        refine l_opg rfl (b := (decide (a3 = b3))) (want := true) (by kernel_rfl) hb7 (fun K hK => op_callv (d := some 29) rfl rfl ⟨_, Try.func88, by kernel_rfl, by kernel_rfl⟩ (vs := [Value.slice a2A a2n a2c, Value.slice b2A b2n b2c]) (by kernel_rfl) (v := Value.bool (decide (a2z = b2z))) (EqualBytes_i_c a2A b2A a2n a2c b2n b2c a2z b2z w3 a2o b2o (hS3.rdlow a2h) (hS3.rdlow b2h)) hS3 (fun w8 hS8 => hK _ _ ?_))
        clear hK K
        refine q_seg (S := (fun x_ => St w x_ [Res.box blk4 [Value.int .i64 b0, Value.int .i64 b1, Value.slice b2A b2n b2c, Value.int .i64 b3] 32, Res.box blk2 [Value.int .i64 a0, Value.int .i64 a1, Value.slice a2A a2n a2c, Value.int .i64 a3] 32])) [(4, Value.bool (decide (a2z = b2z))), (30, Value.bool (decide (a2z = b2z)))] [.v (.bool true), .no] (((decide (a3 = b3)) = true)) (by kernel_rfl) hb7 hS8 ?_
        refine l_nil rfl ?_
        refine then_n ?_
        refine wp_ret ?_
        exact c_end (S := (fun x_ => St w x_ [Res.box blk4 [Value.int .i64 b0, Value.int .i64 b1, Value.slice b2A b2n b2c, Value.int .i64 b3] 32, Res.box blk2 [Value.int .i64 a0, Value.int .i64 a1, Value.slice a2A a2n a2c, Value.int .i64 a3] 32])) (rs := [.tmp 4]) rfl [] (v := Value.bool (decide (a2z = b2z))) (C := True) (by kernel_rfl) trivial hS8 ((hS8.rv (congrArg Value.bool (by first | rfl | simp [*]))))
      · skip
        have hb7p := of_decide_eq_false hb7
        refine q_seg (S := (fun x_ => St w x_ [Res.box blk4 [Value.int .i64 b0, Value.int .i64 b1, Value.slice b2A b2n b2c, Value.int .i64 b3] 32, Res.box blk2 [Value.int .i64 a0, Value.int .i64 a1, Value.slice a2A a2n a2c, Value.int .i64 a3] 32])) [(4, Value.bool false), (30, Value.bool false), (29, undef), (28, undef), (27, undef), (26, undef), (25, undef)] [.skip, .skip, .skip, .skip, .skip, .v (.bool false), .no] (((decide (a3 = b3)) = !true) ∧ ((decide (a3 = b3)) = !true) ∧ ((decide (a3 = b3)) = !true) ∧ ((decide (a3 = b3)) = !true) ∧ ((decide (a3 = b3)) = !true) ∧ ((decide (a3 = b3)) = false)) (by kernel_rfl) ⟨hb7, hb7, hb7, hb7, hb7, hb7⟩ hS3 ?_
        refine l_nil rfl ?_
        refine then_n ?_
        refine wp_ret ?_
        exact c_end (S := (fun x_ => St w x_ [Res.box blk4 [Value.int .i64 b0, Value.int .i64 b1, Value.slice b2A b2n b2c, Value.int .i64 b3] 32, Res.box blk2 [Value.int .i64 a0, Value.int .i64 a1, Value.slice a2A a2n a2c, Value.int .i64 a3] 32])) (rs := [.tmp 4]) rfl [] (v := Value.bool false) (C := True) (by kernel_rfl) trivial hS3 ((hS3.rv (congrArg Value.bool (by first | rfl | simp [*]))))
    · skip
      have hb6p := of_decide_eq_false hb6
      refine q_seg (S := (fun x_ => St w x_ [Res.box blk4 [Value.int .i64 b0, Value.int .i64 b1, Value.slice b2A b2n b2c, Value.int .i64 b3] 32, Res.box blk2 [Value.int .i64 a0, Value.int .i64 a1, Value.slice a2A a2n a2c, Value.int .i64 a3] 32])) [(4, Value.bool false), (30, Value.bool false), (29, undef), (28, undef), (27, undef), (26, undef), (25, undef), (24, Value.bool false), (23, Value.bool false), (22, undef), (21, undef), (20, undef), (19, undef), (18, undef)] [.skip, .skip, .skip, .skip, .skip, .v (.bool false), .no, .skip, .skip, .skip, .skip, .skip, .v (.bool false), .no] (((decide (a1 = b1)) = !true) ∧ ((decide (a1 = b1)) = !true) ∧ ((decide (a1 = b1)) = !true) ∧ ((decide (a1 = b1)) = !true) ∧ ((decide (a1 = b1)) = !true) ∧ ((decide (a1 = b1)) = false) ∧ (false = !true) ∧ (false = !true) ∧ (false = !true) ∧ (false = !true) ∧ (false = !true) ∧ (false = false)) (by kernel_rfl) ⟨hb6, hb6, hb6, hb6, hb6, hb6, rfl, rfl, rfl, rfl, rfl, rfl⟩ hS3 ?_
      refine l_nil rfl ?_
      refine then_n ?_
      refine wp_ret ?_
      exact c_end (S := (fun x_ => St w x_ [Res.box blk4 [Value.int .i64 b0, Value.int .i64 b1, Value.slice b2A b2n b2c, Value.int .i64 b3] 32, Res.box blk2 [Value.int .i64 a0, Value.int .i64 a1, Value.slice a2A a2n a2c, Value.int .i64 a3] 32])) (rs := [.tmp 4]) rfl [] (v := Value.bool false) (C := True) (by kernel_rfl) trivial hS3 ((hS3.rv (congrArg Value.bool (by first | rfl | simp [*]))))
  · skip
    have hb5p := of_decide_eq_false hb5
    refine q_seg (S := (fun x_ => St w x_ [Res.box blk4 [Value.int .i64 b0, Value.int .i64 b1, Value.slice b2A b2n b2c, Value.int .i64 b3] 32, Res.box blk2 [Value.int .i64 a0, Value.int .i64 a1, Value.slice a2A a2n a2c, Value.int .i64 a3] 32])) [(4, Value.bool false), (30, Value.bool false), (29, undef), (28, undef), (27, undef), (26, undef), (25, undef), (24, Value.bool false), (23, Value.bool false), (22, undef), (21, undef), (20, undef), (19, undef), (18, undef), (17, Value.bool false), (16, Value.bool false), (15, undef), (14, undef), (13, undef), (12, undef), (11, undef)] [.skip, .skip, .skip, .skip, .skip, .v (.bool false), .no, .skip, .skip, .skip, .skip, .skip, .v (.bool false), .no, .skip, .skip, .skip, .skip, .skip, .v (.bool false), .no] (((decide (a0 = b0)) = !true) ∧ ((decide (a0 = b0)) = !true) ∧ ((decide (a0 = b0)) = !true) ∧ ((decide (a0 = b0)) = !true) ∧ ((decide (a0 = b0)) = !true) ∧ ((decide (a0 = b0)) = false) ∧ (false = !true) ∧ (false = !true) ∧ (false = !true) ∧ (false = !true) ∧ (false = !true) ∧ (false = false) ∧ (false = !true) ∧ (false = !true) ∧ (false = !true) ∧ (false = !true) ∧ (false = !true) ∧ (false = false)) (by kernel_rfl) ⟨hb5, hb5, hb5, hb5, hb5, hb5, rfl, rfl, rfl, rfl, rfl, rfl, rfl, rfl, rfl, rfl, rfl, rfl⟩ hS3 ?_
    refine l_nil rfl ?_
    refine then_n ?_
    refine wp_ret ?_
    exact c_end (S := (fun x_ => St w x_ [Res.box blk4 [Value.int .i64 b0, Value.int .i64 b1, Value.slice b2A b2n b2c, Value.int .i64 b3] 32, Res.box blk2 [Value.int .i64 a0, Value.int .i64 a1, Value.slice a2A a2n a2c, Value.int .i64 a3] 32])) (rs := [.tmp 4]) rfl [] (v := Value.bool false) (C := True) (by kernel_rfl) trivial hS3 ((hS3.rv (congrArg Value.bool (by first | rfl | simp [*]))))
theorem EqualRadio_i_c (a0 : Int) (a1 : Int) (a2 : Int) (a3 : Int) (a4A : Option Addr) (a4n a4c : Nat) (a4z : List Int) (a5 : Int) (b0 : Int) (b1 : Int) (b2 : Int) (b3 : Int) (b4A : Option Addr) (b4n b4c : Nat) (b4z : List Int) (b5 : Int) (w : World) (a4h : Rd w w.heap.size a4A a4n (a4z.map (Value.int .u8))) (a4w : a4n ≤ 1099511627776) (a4o : okz .u8 a4z) (b4h : Rd w w.heap.size b4A b4n (b4z.map (Value.int .u8))) (b4w : b4n ≤ 1099511627776) (b4o : okz .u8 b4z) : Calls Try.prog 21 #[Value.agg #[Value.int .i64 a0, Value.int .i64 a1, Value.int .i64 a2, Value.int .i64 a3, Value.slice a4A a4n a4c, Value.int .i64 a5], Value.agg #[Value.int .i64 b0, Value.int .i64 b1, Value.int .i64 b2, Value.int .i64 b3, Value.slice b4A b4n b4c, Value.int .i64 b5]] w (RetV w (.bool ((decide (a0 = b0) && decide (a1 = b1)) && (((decide (a2 = b2) && decide (a3 = b3)) && decide (a5 = b5)) && decide (a4z = b4z))))) := by
  have a4l := a4h.len
  have b4l := b4h.len
  refine calls_FA Try.func21 rfl (n := 24) rfl (l := [(0, Value.agg #[Value.int .i64 a0, Value.int .i64 a1, Value.int .i64 a2, Value.int .i64 a3, Value.slice a4A a4n a4c, Value.int .i64 a5]), (1, Value.agg #[Value.int .i64 b0, Value.int .i64 b1, Value.int .i64 b2, Value.int .i64 b3, Value.slice b4A b4n b4c, Value.int .i64 b5])]) rfl (by simp) (fun g => ?_)
  have hS := St.init w
  refine wp_seq ?_
  refine c_reg ?_
  refine l_op rfl rfl (fun K hK => op_box (d := some 2) rfl rfl [Value.int .i64 a0, Value.int .i64 a1, Value.int .i64 a2, Value.int .i64 a3, Value.slice a4A a4n a4c, Value.int .i64 a5] (by kernel_rfl) hS (fun blk2 w1 hS1 => hK _ _ ?_))
  clear hK K
  refine l_op rfl rfl (fun K hK => op_box (d := some 3) rfl rfl [Value.int .i64 b0, Value.int .i64 b1, Value.int .i64 b2, Value.int .i64 b3, Value.slice b4A b4n b4c, Value.int .i64 b5] (by kernel_rfl) hS1 (fun blk4 w3 hS3 => hK _ _ ?_))
  clear hK K
  refine q_seg (S := (fun x_ => St w x_ [Res.box blk4 [Value.int .i64 b0, Value.int .i64 b1, Value.int .i64 b2, Value.int .i64 b3, Value.slice b4A b4n b4c, Value.int .i64 b5] 34, Res.box blk2 [Value.int .i64 a0, Value.int .i64 a1, Value.int .i64 a2, Value.int .i64 a3, Value.slice a4A a4n a4c, Value.int .i64 a5] 34])) [(4, Value.bool false)] [.no] True (by kernel_rfl) trivial hS3 ?_
  refine l_nil rfl ?_
  refine then_n ?_
  refine wp_seq ?_
  refine c_reg ?_
  refine q_seg (S := (fun x_ => St w x_ [Res.box blk4 [Value.int .i64 b0, Value.int .i64 b1, Value.int .i64 b2, Value.int .i64 b3, Value.slice b4A b4n b4c, Value.int .i64 b5] 34, Res.box blk2 [Value.int .i64 a0, Value.int .i64 a1, Value.int .i64 a2, Value.int .i64 a3, Value.slice a4A a4n a4c, Value.int .i64 a5] 34])) [(10, Value.bool (decide (a0 = b0))), (9, Value.bool (decide (a0 = b0))), (8, Value.int .i64 b0), (7, Value.pointer (some ⟨blk4, 0 + 0, none⟩)), (6, Value.int .i64 a0), (5, Value.pointer (some ⟨blk2, 0 + 0, none⟩))] [.no, .v (Value.int .i64 a0), .no, .v (Value.int .i64 b0), .no, .no] ((LoadsAt Try.prog (fun x_ => St w x_ [Res.box blk4 [Value.int .i64 b0, Value.int .i64 b1, Value.int .i64 b2, Value.int .i64 b3, Value.slice b4A b4n b4c, Value.int .i64 b5] 34, Res.box blk2 [Value.int .i64 a0, Value.int .i64 a1, Value.int .i64 a2, Value.int .i64 a3, Value.slice a4A a4n a4c, Value.int .i64 a5] 34]) 3 ⟨blk2, 0 + 0, none⟩ (Value.int .i64 a0)) ∧ (LoadsAt Try.prog (fun x_ => St w x_ [Res.box blk4 [Value.int .i64 b0, Value.int .i64 b1, Value.int .i64 b2, Value.int .i64 b3, Value.slice b4A b4n b4c, Value.int .i64 b5] 34, Res.box blk2 [Value.int .i64 a0, Value.int .i64 a1, Value.int .i64 a2, Value.int .i64 a3, Value.slice a4A a4n a4c, Value.int .i64 a5] 34]) 3 ⟨blk4, 0 + 0, none⟩ (Value.int .i64 b0))) (by kernel_rfl) ⟨(ld_box (i := 1) rfl rfl (by kernel_rfl)), (ld_box (i := 0) rfl rfl (by kernel_rfl))⟩ hS3 ?_
  rcases Bool.eq_false_or_eq_true (decide (a0 = b0)) with hb5 | hb5
  · skip
    have hb5p := of_decide_eq_true hb5
    refine q_seg (S := (fun x_ => St w x_ [Res.box blk4 [Value.int .i64 b0, Value.int .i64 b1, Value.int .i64 b2, Value.int .i64 b3, Value.slice b4A b4n b4c, Value.int .i64 b5] 34, Res.box blk2 [Value.int .i64 a0, Value.int .i64 a1, Value.int .i64 a2, Value.int .i64 a3, Value.slice a4A a4n a4c, Value.int .i64 a5] 34])) [(17, Value.bool (decide (a1 = b1))), (16, Value.bool (decide (a1 = b1))), (15, Value.bool (decide (a1 = b1))), (14, Value.int .i64 b1), (13, Value.pointer (some ⟨blk4, 0 + 1, none⟩)), (12, Value.int .i64 a1), (11, Value.pointer (some ⟨blk2, 0 + 1, none⟩))] [.no, .v (Value.int .i64 a1), .no, .v (Value.int .i64 b1), .no, .v (.bool true), .no] (((decide (a0 = b0)) = true) ∧ ((decide (a0 = b0)) = true) ∧ (LoadsAt Try.prog (fun x_ => St w x_ [Res.box blk4 [Value.int .i64 b0, Value.int .i64 b1, Value.int .i64 b2, Value.int .i64 b3, Value.slice b4A b4n b4c, Value.int .i64 b5] 34, Res.box blk2 [Value.int .i64 a0, Value.int .i64 a1, Value.int .i64 a2, Value.int .i64 a3, Value.slice a4A a4n a4c, Value.int .i64 a5] 34]) 3 ⟨blk2, 0 + 1, none⟩ (Value.int .i64 a1)) ∧ ((decide (a0 = b0)) = true) ∧ ((decide (a0 = b0)) = true) ∧ (LoadsAt Try.prog (fun x_ => St w x_ [Res.box blk4 [Value.int .i64 b0, Value.int .i64 b1, Value.int .i64 b2, Value.int .i64 b3, Value.slice b4A b4n b4c, Value.int .i64 b5] 34, Res.box blk2 [Value.int .i64 a0, Value.int .i64 a1, Value.int .i64 a2, Value.int .i64 a3, Value.slice a4A a4n a4c, Value.int .i64 a5] 34]) 3 ⟨blk4, 0 + 1, none⟩ (Value.int .i64 b1)) ∧ ((decide (a0 = b0)) = true) ∧ ((decide (a0 = b0)) = true)) (by kernel_rfl) ⟨hb5, hb5, (ld_box (i := 1) rfl rfl (by kernel_rfl)), hb5, hb5, (ld_box (i := 0) rfl rfl (by kernel_rfl)), hb5, hb5⟩ hS3 ?_
    rcases Bool.eq_false_or_eq_true (decide (a1 = b1)) with hb6 | hb6
    · skip
      have hb6p := of_decide_eq_true hb6
      refine q_seg (S := (fun x_ => St w x_ [Res.box blk4 [Value.int .i64 b0, Value.int .i64 b1, Value.int .i64 b2, Value.int .i64 b3, Value.slice b4A b4n b4c, Value.int .i64 b5] 34, Res.box blk2 [Value.int .i64 a0, Value.int .i64 a1, Value.int .i64 a2, Value.int .i64 a3, Value.slice a4A a4n a4c, Value.int .i64 a5] 34])) [(21, Value.agg #[Value.int .i64 b2, Value.int .i64 b3, Value.slice b4A b4n b4c, Value.int .i64 b5]), (20, Value.pointer (some ⟨blk4, 0 + 2, none⟩)), (19, Value.agg #[Value.int .i64 a2, Value.int .i64 a3, Value.slice a4A a4n a4c, Value.int .i64 a5]), (18, Value.pointer (some ⟨blk2, 0 + 2, none⟩))] [.no, .v (Value.agg #[Value.int .i64 a2, Value.int .i64 a3, Value.slice a4A a4n a4c, Value.int .i64 a5]), .no, .v (Value.agg #[Value.int .i64 b2, Value.int .i64 b3, Value.slice b4A b4n b4c, Value.int .i64 b5])] (((decide (a1 = b1)) = true) ∧ ((decide (a1 = b1)) = true) ∧ (LoadsAt Try.prog (fun x_ => St w x_ [Res.box blk4 [Value.int .i64 b0, Value.int .i64 b1, Value.int .i64 b2, Value.int .i64 b3, Value.slice b4A b4n b4c, Value.int .i64 b5] 34, Res.box blk2 [Value.int .i64 a0, Value.int .i64 a1, Value.int .i64 a2, Value.int .i64 a3, Value.slice a4A a4n a4c, Value.int .i64 a5] 34]) 32 ⟨blk2, 0 + 2, none⟩ (Value.agg #[Value.int .i64 a2, Value.int .i64 a3, Value.slice a4A a4n a4c, Value.int .i64 a5])) ∧ ((decide (a1 = b1)) = true) ∧ ((decide (a1 = b1)) = true) ∧ (LoadsAt Try.prog (fun x_ => St w x_ [Res.box blk4 [Value.int .i64 b0, Value.int .i64 b1, Value.int .i64 b2, Value.int .i64 b3, Value.slice b4A b4n b4c, Value.int .i64 b5] 34, Res.box blk2 [Value.int .i64 a0, Value.int .i64 a1, Value.int .i64 a2, Value.int .i64 a3, Value.slice a4A a4n a4c, Value.int .i64 a5] 34]) 32 ⟨blk4, 0 + 2, none⟩ (Value.agg #[Value.int .i64 b2, Value.int .i64 b3, Value.slice b4A b4n b4c, Value.int .i64 b5]))) (by kernel_rfl) ⟨hb6, hb6, (ld_boxN (i := 1) (k := 4) rfl rfl rfl (by kernel_rfl)), hb6, hb6, (ld_boxN (i := 0) (k := 4) rfl rfl rfl (by kernel_rfl))⟩ hS3 ?_
      refine l_opg rfl (b := (decide (a1 = b1))) (want := true) (by kernel_rfl) hb6 (fun K hK => op_callv (d := some 22) rfl rfl ⟨_, Try.func53, by kernel_rfl, by kernel_rfl⟩ (vs := [Value.agg #[Value.int .i64 a2, Value.int .i64 a3, Value.slice a4A a4n a4c, Value.int .i64 a5], Value.agg #[Value.int .i64 b2, Value.int .i64 b3, Value.slice b4A b4n b4c, Value.int .i64 b5]]) (by kernel_rfl) (v := Value.bool (((decide (a2 = b2) && decide (a3 = b3)) && decide (a5 = b5)) && decide (a4z = b4z))) (EqualSecured_i_c a2 a3 a4A a4n a4c a4z a5 b2 b3 b4A b4n b4c b4z b5 w3 (hS3.rdlow a4h) (by omega) a4o (hS3.rdlow b4h) (by omega) b4o) hS3 (fun w7 hS7 => hK _ _ ?_))
      clear hK K
      refine q_seg (S := (fun x_ => St w x_ [Res.box blk4 [Value.int .i64 b0, Value.int .i64 b1, Value.int .i64 b2, Value.int .i64 b3, Value.slice b4A b4n b4c, Value.int .i64 b5] 34, Res.box blk2 [Value.int .i64 a0, Value.int .i64 a1, Value.int .i64 a2, Value.int .i64 a3, Value.slice a4A a4n a4c, Value.int .i64 a5] 34])) [(4, Value.bool (((decide (a2 = b2) && decide (a3 = b3)) && decide (a5 = b5)) && decide (a4z = b4z))), (23, Value.bool (((decide (a2 = b2) && decide (a3 = b3)) && decide (a5 = b5)) && decide (a4z = b4z)))] [.v (.bool true), .no] (((decide (a1 = b1)) = true)) (by kernel_rfl) hb6 hS7 ?_
      refine l_nil rfl ?_
      refine then_n ?_
      refine wp_ret ?_
      exact c_end (S := (fun x_ => St w x_ [Res.box blk4 [Value.int .i64 b0, Value.int .i64 b1, Value.int .i64 b2, Value.int .i64 b3, Value.slice b4A b4n b4c, Value.int .i64 b5] 34, Res.box blk2 [Value.int .i64 a0, Value.int .i64 a1, Value.int .i64 a2, Value.int .i64 a3, Value.slice a4A a4n a4c, Value.int .i64 a5] 34])) (rs := [.tmp 4]) rfl [] (v := Value.bool (((decide (a2 = b2) && decide (a3 = b3)) && decide (a5 = b5)) && decide (a4z = b4z))) (C := True) (by kernel_rfl) trivial hS7 ((hS7.rv (congrArg Value.bool (by first | rfl | simp [*]))))
    · skip
      have hb6p := of_decide_eq_false hb6
      refine q_seg (S := (fun x_ => St w x_ [Res.box blk4 [Value.int .i64 b0, Value.int .i64 b1, Value.int .i64 b2, Value.int .i64 b3, Value.slice b4A b4n b4c, Value.int .i64 b5] 34, Res.box blk2 [Value.int .i64 a0, Value.int .i64 a1, Value.int .i64 a2, Value.int .i64 a3, Value.slice a4A a4n a4c, Value.int .i64 a5] 34])) [(4, Value.bool false), (23, Value.bool false), (22, undef), (21, undef), (20, undef), (19, undef), (18, undef)] [.skip, .skip, .skip, .skip, .skip, .v (.bool false), .no] (((decide (a1 = b1)) = !true) ∧ ((decide (a1 = b1)) = !true) ∧ ((decide (a1 = b1)) = !true) ∧ ((decide (a1 = b1)) = !true) ∧ ((decide (a1 = b1)) = !true) ∧ ((decide (a1 = b1)) = false)) (by kernel_rfl) ⟨hb6, hb6, hb6, hb6, hb6, hb6⟩ hS3 ?_
      refine l_nil rfl ?_
      refine then_n ?_
      refine wp_ret ?_
      exact c_end (S := (fun x_ => St w x_ [Res.box blk4 [Value.int .i64 b0, Value.int .i64 b1, Value.int .i64 b2, Value.int .i64 b3, Value.slice b4A b4n b4c, Value.int .i64 b5] 34, Res.box blk2 [Value.int .i64 a0, Value.int .i64 a1, Value.int .i64 a2, Value.int .i64 a3, Value.slice a4A a4n a4c, Value.int .i64 a5] 34])) (rs := [.tmp 4]) rfl [] (v := Value.bool false) (C := True) (by kernel_rfl) trivial hS3 ((hS3.rv (congrArg Value.bool (by first | rfl | simp [*]))))
  · skip
    have hb5p := of_decide_eq_false hb5
    refine q_seg (S := (fun x_ => St w x_ [Res.box blk4 [Value.int .i64 b0, Value.int .i64 b1, Value.int .i64 b2, Value.int .i64 b3, Value.slice b4A b4n b4c, Value.int .i64 b5] 34, Res.box blk2 [Value.int .i64 a0, Value.int .i64 a1, Value.int .i64 a2, Value.int .i64 a3, Value.slice a4A a4n a4c, Value.int .i64 a5] 34])) [(4, Value.bool false), (23, Value.bool false), (22, undef), (21, undef), (20, undef), (19, undef), (18, undef), (17, Value.bool false), (16, Value.bool false), (15, undef), (14, undef), (13, undef), (12, undef), (11, undef)] [.skip, .skip, .skip, .skip, .skip, .v (.bool false), .no, .skip, .skip, .skip, .skip, .skip, .v (.bool false), .no] (((decide (a0 = b0)) = !true) ∧ ((decide (a0 = b0)) = !true) ∧ ((decide (a0 = b0)) = !true) ∧ ((decide (a0 = b0)) = !true) ∧ ((decide (a0 = b0)) = !true) ∧ ((decide (a0 = b0)) = false) ∧ (false = !true) ∧ (false = !true) ∧ (false = !true) ∧ (false = !true) ∧ (false = !true) ∧ (false = false)) (by kernel_rfl) ⟨hb5, hb5, hb5, hb5, hb5, hb5, rfl, rfl, rfl, rfl, rfl, rfl⟩ hS3 ?_
    refine l_nil rfl ?_
    refine then_n ?_
    refine wp_ret ?_
    exact c_end (S := (fun x_ => St w x_ [Res.box blk4 [Value.int .i64 b0, Value.int .i64 b1, Value.int .i64 b2, Value.int .i64 b3, Value.slice b4A b4n b4c, Value.int .i64 b5] 34, Res.box blk2 [Value.int .i64 a0, Value.int .i64 a1, Value.int .i64 a2, Value.int .i64 a3, Value.slice a4A a4n a4c, Value.int .i64 a5] 34])) (rs := [.tmp 4]) rfl [] (v := Value.bool false) (C := True) (by kernel_rfl) trivial hS3 ((hS3.rv (congrArg Value.bool (by first | rfl | simp [*]))))
end Go.Proofs.Ytfkeiegajaofdaa
