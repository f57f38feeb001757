/-
  Contracts of radio packets: copies, comparisons, sizes, marks.
-/
import Derived.Test.YtfkeiegajaofdaaGSl
import Derived.Test.YtfkeiegajaofdaaDeep
namespace Go.Proofs.Ytfkeiegajaofdaa
open Go.RowKit
set_option maxRecDepth 100000

theorem copyBytes_c (A : Option Addr) (n c : Nat) (zs : List Int) (w : World) (hn : n ≤ 1099511627776) (hr : Rd w w.heap.size A n (zs.map (Value.int .u8))) : Calls Try.prog 108 #[.slice A n c] w (Ret w (fun v new => ∃ b, v = .slice (some ⟨b, 0, none⟩) n n ∧ new = [.row (.slice (some ⟨b, 0, none⟩) n n) 5 1 n (zs.map (Value.int .u8))])) := by
  refine calls_FA Try.func108 rfl (n := 11) rfl (l := [(0, Value.slice A n c)]) rfl (by simp) (fun g => ?_)
  have hS := St.init w
  refine wp_seq ?_
  refine c_reg ?_
  refine q_seg (S := (fun x_ => St w x_ [])) [(2, Value.slice none 0 0)] [.no] True (by kernel_rfl) trivial hS ?_
  refine l_nil rfl ?_
  refine then_n ?_
  refine wp_seq ?_
  refine c_reg ?_
  refine q_seg (S := (fun x_ => St w x_ [])) [(5, Value.int .i64 ((n : Nat) : Int)), (4, Value.slice A n c)] [.no, .no] True (by kernel_rfl) trivial hS ?_
  refine l_op rfl rfl (fun K hK => op_make (d := some 6) rfl rfl (e := 5) (by kernel_rfl) [Value.int .u8 0] (by kernel_rfl) 1 (by kernel_rfl) 1 (by kernel_rfl) n n (kl := .i64) (kc := .i64) (by kernel_rfl) (by kernel_rfl) (by omega) (by omega) (by unfold maxLen; omega) hS (fun blk2 w1 hS1 => hK _ _ ?_))
  clear hK K
  refine q_seg (S := (fun x_ => St w x_ [Res.row (Value.slice (some ⟨blk2, 0, none⟩) n n) 5 1 n (zrow [Value.int .u8 0] (n * 1))])) [(3, Value.slice (some ⟨blk2, 0, none⟩) n n)] [.no] True (by kernel_rfl) trivial hS1 ?_
  refine l_nil rfl ?_
  refine then_n ?_
  refine wp_seq ?_
  refine c_reg ?_
  refine q_seg (S := (fun x_ => St w x_ [Res.row (Value.slice (some ⟨blk2, 0, none⟩) n n) 5 1 n (zrow [Value.int .u8 0] (n * 1))])) [(8, Value.slice A n c), (7, Value.slice (some ⟨blk2, 0, none⟩) n n)] [.no, .no] True (by kernel_rfl) trivial hS1 ?_
  refine l_op rfl rfl (fun K hK => op_copy (d := some 9) rfl rfl (e := 5) (by kernel_rfl) (by kernel_rfl) (i := 0) (b := blk2) (cap := n) (m := n) (xs := (zrow [Value.int .u8 0] (n * 1))) (by kernel_rfl) (by kernel_rfl) (A := A) (k := n) (c := c) (by kernel_rfl) (zs.map (Value.int .u8)) hS1 (hS1.rdlow hr) (ints_one _ _) n (by omega) (fun w3 hS3 => hK _ _ ?_))
  clear hK K
  refine l_nil rfl ?_
  refine then_n ?_
  refine wp_seq ?_
  refine c_reg ?_
  refine q_seg (S := (fun x_ => St w x_ [Res.row (Value.slice (some ⟨blk2, 0, none⟩) n n) 5 1 n (List.take n (zs.map (Value.int .u8)) ++ List.drop n (zrow [Value.int .u8 0] (n * 1)))])) [(2, Value.slice (some ⟨blk2, 0, none⟩) n n), (10, Value.slice (some ⟨blk2, 0, none⟩) n n)] [.no, .no] True (by kernel_rfl) trivial hS3 ?_
  refine l_nil rfl ?_
  refine then_n ?_
  refine wp_ret ?_
  exact c_end (S := (fun x_ => St w x_ [Res.row (Value.slice (some ⟨blk2, 0, none⟩) n n) 5 1 n (List.take n (zs.map (Value.int .u8)) ++ List.drop n (zrow [Value.int .u8 0] (n * 1)))])) (rs := [.tmp 2]) rfl [] (v := Value.slice (some ⟨blk2, 0, none⟩) n n) (C := True) (by kernel_rfl) trivial hS3 ((hS3.eqv (by rw [copy_all (by rw [List.length_map]; exact hr.len) (by rw [zrow_length]; omega)]; rfl)).rt ⟨_, rfl, rfl⟩)
theorem bytesEqual_c (A B : Option Addr) (n c m d : Nat) (xs ys : List Int) (w : World) (hx : okz .u8 xs) (hy : okz .u8 ys) (hr : Rd w w.heap.size A n (xs.map (Value.int .u8))) (hr2 : Rd w w.heap.size B m (ys.map (Value.int .u8))) : Calls Try.prog 111 #[.slice A n c, .slice B m d] w (RetV w (.bool (decide (xs = ys)))) := by
  refine calls_FA Try.func111 rfl (n := 10) rfl (l := [(0, Value.slice A n c), (1, Value.slice B m d)]) rfl (by simp) (fun g => ?_)
  have hS := St.init w
  refine wp_seq ?_
  refine c_reg ?_
  refine q_seg (S := (fun x_ => St w x_ [])) [(4, Value.bool false)] [.no] True (by kernel_rfl) trivial hS ?_
  refine l_nil rfl ?_
  refine then_n ?_
  refine wp_seq ?_
  refine c_reg ?_
  refine q_seg (S := (fun x_ => St w x_ [])) [(4, Value.bool (((bstr xs)).toList == ((bstr ys)).toList)), (9, Value.bool (((bstr xs)).toList == ((bstr ys)).toList)), (8, Value.string (bstr ys)), (7, Value.slice B m d), (6, Value.string (bstr xs)), (5, Value.slice A n c)] [.no, .v (Value.string (bstr xs)), .no, .v (Value.string (bstr ys)), .no, .no] ((YieldsAt Try.prog (fun x_ => St w x_ []) (convert 22 9 (Value.slice A n c)) (Value.string (bstr xs))) ∧ (YieldsAt Try.prog (fun x_ => St w x_ []) (convert 22 9 (Value.slice B m d)) (Value.string (bstr ys)))) (by kernel_rfl) ⟨(conv_b (e := 5) (by kernel_rfl) (by kernel_rfl) (by kernel_rfl) (fun _ hx_ => (hx_.rdlow hr))), (conv_b (e := 5) (by kernel_rfl) (by kernel_rfl) (by kernel_rfl) (fun _ hx_ => (hx_.rdlow hr2)))⟩ hS ?_
  refine l_nil rfl ?_
  refine then_n ?_
  refine wp_ret ?_
  exact c_end (S := (fun x_ => St w x_ [])) (rs := [.tmp 4]) rfl [] (v := Value.bool (((bstr xs)).toList == ((bstr ys)).toList)) (C := True) (by kernel_rfl) trivial hS ((hS.rv (congrArg Value.bool (by first | exact bstr_eq hx hy | rfl))))
theorem EqualBytes_i_c (A B : Option Addr) (n c m d : Nat) (xs ys : List Int) (w : World) (hx : okz .u8 xs) (hy : okz .u8 ys) (hr : Rd w w.heap.size A n (xs.map (Value.int .u8))) (hr2 : Rd w w.heap.size B m (ys.map (Value.int .u8))) : Calls Try.prog 88 #[.slice A n c, .slice B m d] w (RetV w (.bool (decide (xs = ys)))) := by
  refine calls_FA Try.func88 rfl (n := 8) rfl (l := [(0, Value.slice A n c), (1, Value.slice B m d)]) rfl (by simp) (fun g => ?_)
  have hS := St.init w
  refine wp_seq ?_
  refine c_reg ?_
  refine q_seg (S := (fun x_ => St w x_ [])) [(4, Value.bool false)] [.no] True (by kernel_rfl) trivial hS ?_
  refine l_nil rfl ?_
  refine then_n ?_
  refine wp_seq ?_
  refine c_reg ?_
  refine q_seg (S := (fun x_ => St w x_ [])) [(6, Value.slice B m d), (5, Value.slice A n c)] [.no, .no] True (by kernel_rfl) trivial hS ?_
  refine l_op rfl rfl (fun K hK => op_callv (d := some 7) rfl rfl ⟨_, Try.func111, by kernel_rfl, by kernel_rfl⟩ (vs := [Value.slice A n c, Value.slice B m d]) (by kernel_rfl) (v := Value.bool (decide (xs = ys))) (bytesEqual_c A B n c m d xs ys w hx hy (hS.rdlow hr) (hS.rdlow hr2)) hS (fun w1 hS1 => hK _ _ ?_))
  clear hK K
  refine q_seg (S := (fun x_ => St w x_ [])) [(4, Value.bool (decide (xs = ys)))] [.no] True (by kernel_rfl) trivial hS1 ?_
  refine l_nil rfl ?_
  refine then_n ?_
  refine wp_ret ?_
  exact c_end (S := (fun x_ => St w x_ [])) (rs := [.tmp 4]) rfl [] (v := Value.bool (decide (xs = ys))) (C := True) (by kernel_rfl) trivial hS1 ((hS1.rv (congrArg Value.bool (by first | exact bstr_eq hx hy | rfl))))
theorem EqualBytes_s_c (A B : Option Addr) (n c m d : Nat) (xs ys : List Int) (w : World) (hx : okz .u8 xs) (hy : okz .u8 ys) (hr : Rd w w.heap.size A n (xs.map (Value.int .u8))) (hr2 : Rd w w.heap.size B m (ys.map (Value.int .u8))) : Calls Try.prog 87 #[.slice A n c, .slice B m d] w (RetV w (.bool (decide (xs = ys)))) := by
  refine calls_FA Try.func87 rfl (n := 10) rfl (l := [(0, Value.slice A n c), (1, Value.slice B m d)]) rfl (by simp) (fun g => ?_)
  have hS := St.init w
  refine wp_seq ?_
  refine c_reg ?_
  refine q_seg (S := (fun x_ => St w x_ [])) [(4, Value.bool false)] [.no] True (by kernel_rfl) trivial hS ?_
  refine l_nil rfl ?_
  refine then_n ?_
  refine wp_seq ?_
  refine c_reg ?_
  refine q_seg (S := (fun x_ => St w x_ [])) [(4, Value.bool (((bstr xs)).toList == ((bstr ys)).toList)), (9, Value.bool (((bstr xs)).toList == ((bstr ys)).toList)), (8, Value.string (bstr ys)), (7, Value.slice B m d), (6, Value.string (bstr xs)), (5, Value.slice A n c)] [.no, .v (Value.string (bstr xs)), .no, .v (Value.string (bstr ys)), .no, .no] ((YieldsAt Try.prog (fun x_ => St w x_ []) (convert 22 9 (Value.slice A n c)) (Value.string (bstr xs))) ∧ (YieldsAt Try.prog (fun x_ => St w x_ []) (convert 22 9 (Value.slice B m d)) (Value.string (bstr ys)))) (by kernel_rfl) ⟨(conv_b (e := 5) (by kernel_rfl) (by kernel_rfl) (by kernel_rfl) (fun _ hx_ => (hx_.rdlow hr))), (conv_b (e := 5) (by kernel_rfl) (by kernel_rfl) (by kernel_rfl) (fun _ hx_ => (hx_.rdlow hr2)))⟩ hS ?_
  refine l_nil rfl ?_
  refine then_n ?_
  refine wp_ret ?_
  exact c_end (S := (fun x_ => St w x_ [])) (rs := [.tmp 4]) rfl [] (v := Value.bool (((bstr xs)).toList == ((bstr ys)).toList)) (C := True) (by kernel_rfl) trivial hS ((hS.rv (congrArg Value.bool (by first | exact bstr_eq hx hy | rfl))))
theorem toSecuredMessage_c (a0 : Int) (a1 : Int) (a2A : Option Addr) (a2n a2c : Nat) (a2z : List Int) (a3 : Int) (w : World) (a2h : Rd w w.heap.size a2A a2n (a2z.map (Value.int .u8))) (a2w : a2n ≤ 1099511627776) (a2o : okz .u8 a2z) : Calls Try.prog 47 #[Value.agg #[Value.int .i64 a0, Value.int .i64 a1, Value.slice a2A a2n a2c, Value.int .i64 a3]] w (Ret w (fun v new => ∃ (A0_ : Option Addr) (c0_ : Nat), v = Value.agg #[Value.int .i64 a0, Value.int .i64 a1, Value.slice A0_ a2n c0_, Value.int .i64 a3] ∧ new = [Res.row (Value.slice A0_ a2n c0_) 5 1 a2n (a2z.map (Value.int .u8))])) := by
  have a2l := a2h.len
  refine calls_FA Try.func47 rfl (n := 18) rfl (l := [(0, Value.agg #[Value.int .i64 a0, Value.int .i64 a1, Value.slice a2A a2n a2c, Value.int .i64 a3])]) rfl (by simp) (fun g => ?_)
  have hS := St.init w
  refine wp_seq ?_
  refine c_reg ?_
  refine l_op rfl rfl (fun K hK => op_box (d := some 1) rfl rfl [Value.int .i64 a0, Value.int .i64 a1, Value.slice a2A a2n a2c, Value.int .i64 a3] (by kernel_rfl) hS (fun blk2 w1 hS1 => hK _ _ ?_))
  clear hK K
  refine l_op rfl rfl (fun K hK => op_alloc (d := some 2) rfl rfl [Value.int .i64 0, Value.int .i64 0, Value.slice none 0 0, Value.int .i64 0] (by kernel_rfl) hS1 (fun blk4 w3 hS3 => hK _ _ ?_))
  clear hK K
  refine l_nil rfl ?_
  refine then_n ?_
  refine wp_seq ?_
  refine c_reg ?_
  refine l_op rfl rfl (fun K hK => op_alloc (d := some 3) rfl rfl [Value.int .i64 0, Value.int .i64 0, Value.slice none 0 0, Value.int .i64 0] (by kernel_rfl) hS3 (fun blk6 w5 hS5 => hK _ _ ?_))
  clear hK K
  refine l_nil rfl ?_
  refine then_n ?_
  refine wp_seq ?_
  refine c_reg ?_
  refine q_seg (S := (fun x_ => St w x_ [Res.box blk6 [Value.int .i64 0, Value.int .i64 0, Value.slice none 0 0, Value.int .i64 0] 32, Res.box blk4 [Value.int .i64 0, Value.int .i64 0, Value.slice none 0 0, Value.int .i64 0] 32, Res.box blk2 [Value.int .i64 a0, Value.int .i64 a1, Value.slice a2A a2n a2c, Value.int .i64 a3] 24])) [(6, Value.pointer (some ⟨blk6, 0 + 0, none⟩)), (5, Value.int .i64 a0), (4, Value.pointer (some ⟨blk2, 0 + 0, none⟩))] [.no, .v (Value.int .i64 a0), .no] ((LoadsAt Try.prog (fun x_ => St w x_ [Res.box blk6 [Value.int .i64 0, Value.int .i64 0, Value.slice none 0 0, Value.int .i64 0] 32, Res.box blk4 [Value.int .i64 0, Value.int .i64 0, Value.slice none 0 0, Value.int .i64 0] 32, Res.box blk2 [Value.int .i64 a0, Value.int .i64 a1, Value.slice a2A a2n a2c, Value.int .i64 a3] 24]) 3 ⟨blk2, 0 + 0, none⟩ (Value.int .i64 a0))) (by kernel_rfl) (ld_box (i := 2) rfl rfl (by kernel_rfl)) hS5 ?_
  refine l_op rfl rfl (fun K hK => op_store (d := none) rfl rfl (i := 0) (b := blk6) (off := 0 + 0) (cs := [Value.int .i64 0, Value.int .i64 0, Value.slice none 0 0, Value.int .i64 0]) (bt := 32) (by kernel_rfl) (by kernel_rfl) [Value.int .i64 a0] (by kernel_rfl) (by kernel_rfl) (Nat.le_of_ble_eq_true (by kernel_rfl)) (by kernel_rfl) [Res.box blk6 [Value.int .i64 a0, Value.int .i64 0, Value.slice none 0 0, Value.int .i64 0] 32, Res.box blk4 [Value.int .i64 0, Value.int .i64 0, Value.slice none 0 0, Value.int .i64 0] 32, Res.box blk2 [Value.int .i64 a0, Value.int .i64 a1, Value.slice a2A a2n a2c, Value.int .i64 a3] 24] (by kernel_rfl) hS5 (fun w7 hS7 => hK _ _ ?_))
  clear hK K
  refine l_nil rfl ?_
  refine then_n ?_
  refine wp_seq ?_
  refine c_reg ?_
  refine q_seg (S := (fun x_ => St w x_ [Res.box blk6 [Value.int .i64 a0, Value.int .i64 0, Value.slice none 0 0, Value.int .i64 0] 32, Res.box blk4 [Value.int .i64 0, Value.int .i64 0, Value.slice none 0 0, Value.int .i64 0] 32, Res.box blk2 [Value.int .i64 a0, Value.int .i64 a1, Value.slice a2A a2n a2c, Value.int .i64 a3] 24])) [(9, Value.pointer (some ⟨blk6, 0 + 1, none⟩)), (8, Value.int .i64 a1), (7, Value.pointer (some ⟨blk2, 0 + 1, none⟩))] [.no, .v (Value.int .i64 a1), .no] ((LoadsAt Try.prog (fun x_ => St w x_ [Res.box blk6 [Value.int .i64 a0, Value.int .i64 0, Value.slice none 0 0, Value.int .i64 0] 32, Res.box blk4 [Value.int .i64 0, Value.int .i64 0, Value.slice none 0 0, Value.int .i64 0] 32, Res.box blk2 [Value.int .i64 a0, Value.int .i64 a1, Value.slice a2A a2n a2c, Value.int .i64 a3] 24]) 3 ⟨blk2, 0 + 1, none⟩ (Value.int .i64 a1))) (by kernel_rfl) (ld_box (i := 2) rfl rfl (by kernel_rfl)) hS7 ?_
  refine l_op rfl rfl (fun K hK => op_store (d := none) rfl rfl (i := 0) (b := blk6) (off := 0 + 1) (cs := [Value.int .i64 a0, Value.int .i64 0, Value.slice none 0 0, Value.int .i64 0]) (bt := 32) (by kernel_rfl) (by kernel_rfl) [Value.int .i64 a1] (by kernel_rfl) (by kernel_rfl) (Nat.le_of_ble_eq_true (by kernel_rfl)) (by kernel_rfl) [Res.box blk6 [Value.int .i64 a0, Value.int .i64 a1, Value.slice none 0 0, Value.int .i64 0] 32, Res.box blk4 [Value.int .i64 0, Value.int .i64 0, Value.slice none 0 0, Value.int .i64 0] 32, Res.box blk2 [Value.int .i64 a0, Value.int .i64 a1, Value.slice a2A a2n a2c, Value.int .i64 a3] 24] (by kernel_rfl) hS7 (fun w8 hS8 => hK _ _ ?_))
  clear hK K
  refine l_nil rfl ?_
  refine then_n ?_
  refine wp_seq ?_
  refine c_reg ?_
  refine q_seg (S := (fun x_ => St w x_ [Res.box blk6 [Value.int .i64 a0, Value.int .i64 a1, Value.slice none 0 0, Value.int .i64 0] 32, Res.box blk4 [Value.int .i64 0, Value.int .i64 0, Value.slice none 0 0, Value.int .i64 0] 32, Res.box blk2 [Value.int .i64 a0, Value.int .i64 a1, Value.slice a2A a2n a2c, Value.int .i64 a3] 24])) [(11, Value.slice a2A a2n a2c), (10, Value.pointer (some ⟨blk2, 0 + 2, none⟩))] [.no, .v (Value.slice a2A a2n a2c)] ((LoadsAt Try.prog (fun x_ => St w x_ [Res.box blk6 [Value.int .i64 a0, Value.int .i64 a1, Value.slice none 0 0, Value.int .i64 0] 32, Res.box blk4 [Value.int .i64 0, Value.int .i64 0, Value.slice none 0 0, Value.int .i64 0] 32, Res.box blk2 [Value.int .i64 a0, Value.int .i64 a1, Value.slice a2A a2n a2c, Value.int .i64 a3] 24]) 22 ⟨blk2, 0 + 2, none⟩ (Value.slice a2A a2n a2c))) (by kernel_rfl) (ld_box (i := 2) rfl rfl (by kernel_rfl)) hS8 ?_
  refine l_op rfl rfl (fun K hK => op_call (d := some 12) rfl rfl ⟨_, Try.func39, by kernel_rfl, by kernel_rfl⟩ (vs := [Value.slice a2A a2n a2c]) (by kernel_rfl) (toByteS_c a2A a2n a2c a2z w8 (by omega) (hS8.rdlow a2h)) hS8 (fun v10 new11 w9 Rw9 hS9 => hK _ _ ?_))
  clear hK K
  obtain ⟨blk12, rfl, rfl⟩ := Rw9
  refine q_seg (S := (fun x_ => St w x_ [Res.row (Value.slice (some ⟨blk12, 0, none⟩) a2n a2n) 5 1 a2n (a2z.map (Value.int .u8)), Res.box blk6 [Value.int .i64 a0, Value.int .i64 a1, Value.slice none 0 0, Value.int .i64 0] 32, Res.box blk4 [Value.int .i64 0, Value.int .i64 0, Value.slice none 0 0, Value.int .i64 0] 32, Res.box blk2 [Value.int .i64 a0, Value.int .i64 a1, Value.slice a2A a2n a2c, Value.int .i64 a3] 24])) [(13, Value.pointer (some ⟨blk6, 0 + 2, none⟩))] [.no] True (by kernel_rfl) trivial hS9 ?_
  refine l_op rfl rfl (fun K hK => op_store (d := none) rfl rfl (i := 1) (b := blk6) (off := 0 + 2) (cs := [Value.int .i64 a0, Value.int .i64 a1, Value.slice none 0 0, Value.int .i64 0]) (bt := 32) (by kernel_rfl) (by kernel_rfl) [Value.slice (some ⟨blk12, 0, none⟩) a2n a2n] (by kernel_rfl) (by kernel_rfl) (Nat.le_of_ble_eq_true (by kernel_rfl)) (by kernel_rfl) [Res.row (Value.slice (some ⟨blk12, 0, none⟩) a2n a2n) 5 1 a2n (a2z.map (Value.int .u8)), Res.box blk6 [Value.int .i64 a0, Value.int .i64 a1, Value.slice (some ⟨blk12, 0, none⟩) a2n a2n, Value.int .i64 0] 32, Res.box blk4 [Value.int .i64 0, Value.int .i64 0, Value.slice none 0 0, Value.int .i64 0] 32, Res.box blk2 [Value.int .i64 a0, Value.int .i64 a1, Value.slice a2A a2n a2c, Value.int .i64 a3] 24] (by kernel_rfl) hS9 (fun w13 hS13 => hK _ _ ?_))
  clear hK K
  refine l_nil rfl ?_
  refine then_n ?_
  refine wp_seq ?_
  refine c_reg ?_
  refine q_seg (S := (fun x_ => St w x_ [Res.row (Value.slice (some ⟨blk12, 0, none⟩) a2n a2n) 5 1 a2n (a2z.map (Value.int .u8)), Res.box blk6 [Value.int .i64 a0, Value.int .i64 a1, Value.slice (some ⟨blk12, 0, none⟩) a2n a2n, Value.int .i64 0] 32, Res.box blk4 [Value.int .i64 0, Value.int .i64 0, Value.slice none 0 0, Value.int .i64 0] 32, Res.box blk2 [Value.int .i64 a0, Value.int .i64 a1, Value.slice a2A a2n a2c, Value.int .i64 a3] 24])) [(16, Value.pointer (some ⟨blk6, 0 + 3, none⟩)), (15, Value.int .i64 a3), (14, Value.pointer (some ⟨blk2, 0 + 3, none⟩))] [.no, .v (Value.int .i64 a3), .no] ((LoadsAt Try.prog (fun x_ => St w x_ [Res.row (Value.slice (some ⟨blk12, 0, none⟩) a2n a2n) 5 1 a2n (a2z.map (Value.int .u8)), Res.box blk6 [Value.int .i64 a0, Value.int .i64 a1, Value.slice (some ⟨blk12, 0, none⟩) a2n a2n, Value.int .i64 0] 32, Res.box blk4 [Value.int .i64 0, Value.int .i64 0, Value.slice none 0 0, Value.int .i64 0] 32, Res.box blk2 [Value.int .i64 a0, Value.int .i64 a1, Value.slice a2A a2n a2c, Value.int .i64 a3] 24]) 3 ⟨blk2, 0 + 3, none⟩ (Value.int .i64 a3))) (by kernel_rfl) (ld_box (i := 3) rfl rfl (by kernel_rfl)) hS13 ?_
  refine l_op rfl rfl (fun K hK => op_store (d := none) rfl rfl (i := 1) (b := blk6) (off := 0 + 3) (cs := [Value.int .i64 a0, Value.int .i64 a1, Value.slice (some ⟨blk12, 0, none⟩) a2n a2n, Value.int .i64 0]) (bt := 32) (by kernel_rfl) (by kernel_rfl) [Value.int .i64 a3] (by kernel_rfl) (by kernel_rfl) (Nat.le_of_ble_eq_true (by kernel_rfl)) (by kernel_rfl) [Res.row (Value.slice (some ⟨blk12, 0, none⟩) a2n a2n) 5 1 a2n (a2z.map (Value.int .u8)), Res.box blk6 [Value.int .i64 a0, Value.int .i64 a1, Value.slice (some ⟨blk12, 0, none⟩) a2n a2n, Value.int .i64 a3] 32, Res.box blk4 [Value.int .i64 0, Value.int .i64 0, Value.slice none 0 0, Value.int .i64 0] 32, Res.box blk2 [Value.int .i64 a0, Value.int .i64 a1, Value.slice a2A a2n a2c, Value.int .i64 a3] 24] (by kernel_rfl) hS13 (fun w14 hS14 => hK _ _ ?_))
  clear hK K
  refine l_nil rfl ?_
  refine then_n ?_
  refine wp_seq ?_
  refine c_reg ?_
  refine q_seg (S := (fun x_ => St w x_ [Res.row (Value.slice (some ⟨blk12, 0, none⟩) a2n a2n) 5 1 a2n (a2z.map (Value.int .u8)), Res.box blk6 [Value.int .i64 a0, Value.int .i64 a1, Value.slice (some ⟨blk12, 0, none⟩) a2n a2n, Value.int .i64 a3] 32, Res.box blk4 [Value.int .i64 0, Value.int .i64 0, Value.slice none 0 0, Value.int .i64 0] 32, Res.box blk2 [Value.int .i64 a0, Value.int .i64 a1, Value.slice a2A a2n a2c, Value.int .i64 a3] 24])) [(17, Value.agg #[Value.int .i64 a0, Value.int .i64 a1, Value.slice (some ⟨blk12, 0, none⟩) a2n a2n, Value.int .i64 a3])] [.v (Value.agg #[Value.int .i64 a0, Value.int .i64 a1, Value.slice (some ⟨blk12, 0, none⟩) a2n a2n, Value.int .i64 a3])] ((LoadsAt Try.prog (fun x_ => St w x_ [Res.row (Value.slice (some ⟨blk12, 0, none⟩) a2n a2n) 5 1 a2n (a2z.map (Value.int .u8)), Res.box blk6 [Value.int .i64 a0, Value.int .i64 a1, Value.slice (some ⟨blk12, 0, none⟩) a2n a2n, Value.int .i64 a3] 32, Res.box blk4 [Value.int .i64 0, Value.int .i64 0, Value.slice none 0 0, Value.int .i64 0] 32, Res.box blk2 [Value.int .i64 a0, Value.int .i64 a1, Value.slice a2A a2n a2c, Value.int .i64 a3] 24]) 32 ⟨blk6, 0, none⟩ (Value.agg #[Value.int .i64 a0, Value.int .i64 a1, Value.slice (some ⟨blk12, 0, none⟩) a2n a2n, Value.int .i64 a3]))) (by kernel_rfl) (ld_boxN (i := 1) (k := 4) rfl rfl rfl (by kernel_rfl)) hS14 ?_
  refine l_op rfl rfl (fun K hK => op_store (d := none) rfl rfl (i := 2) (b := blk4) (off := 0) (cs := [Value.int .i64 0, Value.int .i64 0, Value.slice none 0 0, Value.int .i64 0]) (bt := 32) (by kernel_rfl) (by kernel_rfl) [Value.int .i64 a0, Value.int .i64 a1, Value.slice (some ⟨blk12, 0, none⟩) a2n a2n, Value.int .i64 a3] (by kernel_rfl) (by kernel_rfl) (Nat.le_of_ble_eq_true (by kernel_rfl)) (by kernel_rfl) [Res.row (Value.slice (some ⟨blk12, 0, none⟩) a2n a2n) 5 1 a2n (a2z.map (Value.int .u8)), Res.box blk6 [Value.int .i64 a0, Value.int .i64 a1, Value.slice (some ⟨blk12, 0, none⟩) a2n a2n, Value.int .i64 a3] 32, Res.box blk4 [Value.int .i64 a0, Value.int .i64 a1, Value.slice (some ⟨blk12, 0, none⟩) a2n a2n, Value.int .i64 a3] 32, Res.box blk2 [Value.int .i64 a0, Value.int .i64 a1, Value.slice a2A a2n a2c, Value.int .i64 a3] 24] (by kernel_rfl) hS14 (fun w15 hS15 => hK _ _ ?_))
  clear hK K
  refine l_nil rfl ?_
  refine then_n ?_
  refine wp_ret ?_
  have hS15s1 : St w w15 [Res.row (Value.slice (some ⟨blk12, 0, none⟩) a2n a2n) 5 1 a2n (a2z.map (Value.int .u8))] := (hS15.sub (List.Sublist.cons_cons _ (List.Sublist.cons _ (List.Sublist.cons _ (List.Sublist.cons _ List.Sublist.slnil)))))
  exact c_end (S := (fun x_ => St w x_ [Res.row (Value.slice (some ⟨blk12, 0, none⟩) a2n a2n) 5 1 a2n (a2z.map (Value.int .u8)), Res.box blk6 [Value.int .i64 a0, Value.int .i64 a1, Value.slice (some ⟨blk12, 0, none⟩) a2n a2n, Value.int .i64 a3] 32, Res.box blk4 [Value.int .i64 a0, Value.int .i64 a1, Value.slice (some ⟨blk12, 0, none⟩) a2n a2n, Value.int .i64 a3] 32, Res.box blk2 [Value.int .i64 a0, Value.int .i64 a1, Value.slice a2A a2n a2c, Value.int .i64 a3] 24])) (rs := [.cell 2 32]) rfl [Value.agg #[Value.int .i64 a0, Value.int .i64 a1, Value.slice (some ⟨blk12, 0, none⟩) a2n a2n, Value.int .i64 a3]] (v := Value.agg #[Value.int .i64 a0, Value.int .i64 a1, Value.slice (some ⟨blk12, 0, none⟩) a2n a2n, Value.int .i64 a3]) (C := ((LoadsAt Try.prog (fun x_ => St w x_ [Res.row (Value.slice (some ⟨blk12, 0, none⟩) a2n a2n) 5 1 a2n (a2z.map (Value.int .u8)), Res.box blk6 [Value.int .i64 a0, Value.int .i64 a1, Value.slice (some ⟨blk12, 0, none⟩) a2n a2n, Value.int .i64 a3] 32, Res.box blk4 [Value.int .i64 a0, Value.int .i64 a1, Value.slice (some ⟨blk12, 0, none⟩) a2n a2n, Value.int .i64 a3] 32, Res.box blk2 [Value.int .i64 a0, Value.int .i64 a1, Value.slice a2A a2n a2c, Value.int .i64 a3] 24]) 32 ⟨blk4, 0, none⟩ (Value.agg #[Value.int .i64 a0, Value.int .i64 a1, Value.slice (some ⟨blk12, 0, none⟩) a2n a2n, Value.int .i64 a3])))) (by kernel_rfl) (ld_boxN (i := 2) (k := 4) rfl rfl rfl (by kernel_rfl)) hS15 (hS15s1.rt ⟨_, _, rfl, rfl⟩)
theorem eqSecuredMessage_c (a0 : Int) (a1 : Int) (a2A : Option Addr) (a2n a2c : Nat) (a2z : List Int) (b2A : Option Addr) (b2c : Nat) (a3 : Int) (w : World) (a2h : Rd w w.heap.size a2A a2n (a2z.map (Value.int .u8))) (a2w : a2n ≤ 1099511627776) (b2h : Rd w w.heap.size b2A a2n (a2z.map (Value.int .u8))) : Calls Try.prog 50 #[Value.agg #[Value.int .i64 a0, Value.int .i64 a1, Value.slice a2A a2n a2c, Value.int .i64 a3], Value.agg #[Value.int .i64 a0, Value.int .i64 a1, Value.slice b2A a2n b2c, Value.int .i64 a3]] w (RetV w (.bool true)) := by
  have a2l := a2h.len
  refine calls_FA Try.func50 rfl (n := 26) rfl (l := [(0, Value.agg #[Value.int .i64 a0, Value.int .i64 a1, Value.slice a2A a2n a2c, Value.int .i64 a3]), (1, Value.agg #[Value.int .i64 a0, Value.int .i64 a1, Value.slice b2A a2n b2c, Value.int .i64 a3])]) rfl (by simp) (fun g => ?_)
  have hS := St.init w
  refine wp_seq ?_
  refine c_reg ?_
  refine l_op rfl rfl (fun K hK => op_box (d := some 2) rfl rfl [Value.int .i64 a0, Value.int .i64 a1, Value.slice a2A a2n a2c, Value.int .i64 a3] (by kernel_rfl) hS (fun blk2 w1 hS1 => hK _ _ ?_))
  clear hK K
  refine l_op rfl rfl (fun K hK => op_box (d := some 3) rfl rfl [Value.int .i64 a0, Value.int .i64 a1, Value.slice b2A a2n b2c, Value.int .i64 a3] (by kernel_rfl) hS1 (fun blk4 w3 hS3 => hK _ _ ?_))
  clear hK K
  refine q_seg (S := (fun x_ => St w x_ [Res.box blk4 [Value.int .i64 a0, Value.int .i64 a1, Value.slice b2A a2n b2c, Value.int .i64 a3] 32, Res.box blk2 [Value.int .i64 a0, Value.int .i64 a1, Value.slice a2A a2n a2c, Value.int .i64 a3] 32])) [(4, Value.bool false)] [.no] True (by kernel_rfl) trivial hS3 ?_
  refine l_nil rfl ?_
  refine then_n ?_
  refine wp_seq ?_
  refine wp_seq ?_
  refine c_reg ?_
  refine q_seg (S := (fun x_ => St w x_ [Res.box blk4 [Value.int .i64 a0, Value.int .i64 a1, Value.slice b2A a2n b2c, Value.int .i64 a3] 32, Res.box blk2 [Value.int .i64 a0, Value.int .i64 a1, Value.slice a2A a2n a2c, Value.int .i64 a3] 32])) [(9, Value.bool (!(decide (a0 = a0)))), (8, Value.int .i64 a0), (7, Value.pointer (some ⟨blk4, 0 + 0, none⟩)), (6, Value.int .i64 a0), (5, Value.pointer (some ⟨blk2, 0 + 0, none⟩))] [.no, .v (Value.int .i64 a0), .no, .v (Value.int .i64 a0), .no] ((LoadsAt Try.prog (fun x_ => St w x_ [Res.box blk4 [Value.int .i64 a0, Value.int .i64 a1, Value.slice b2A a2n b2c, Value.int .i64 a3] 32, Res.box blk2 [Value.int .i64 a0, Value.int .i64 a1, Value.slice a2A a2n a2c, Value.int .i64 a3] 32]) 3 ⟨blk2, 0 + 0, none⟩ (Value.int .i64 a0)) ∧ (LoadsAt Try.prog (fun x_ => St w x_ [Res.box blk4 [Value.int .i64 a0, Value.int .i64 a1, Value.slice b2A a2n b2c, Value.int .i64 a3] 32, Res.box blk2 [Value.int .i64 a0, Value.int .i64 a1, Value.slice a2A a2n a2c, Value.int .i64 a3] 32]) 3 ⟨blk4, 0 + 0, none⟩ (Value.int .i64 a0))) (by kernel_rfl) ⟨(ld_box (i := 1) rfl rfl (by kernel_rfl)), (ld_box (i := 0) rfl rfl (by kernel_rfl))⟩ hS3 ?_
  refine l_nil rfl ?_
  refine then_n ?_
  refine c_false (b := (!(decide (a0 = a0)))) (by kernel_rfl) (nb (v := true) (decide_eq_true rfl)) ?_
  refine wp_skip ?_
  refine then_n ?_
  refine wp_seq ?_
  refine wp_seq ?_
  refine c_reg ?_
  refine q_seg (S := (fun x_ => St w x_ [Res.box blk4 [Value.int .i64 a0, Value.int .i64 a1, Value.slice b2A a2n b2c, Value.int .i64 a3] 32, Res.box blk2 [Value.int .i64 a0, Value.int .i64 a1, Value.slice a2A a2n a2c, Value.int .i64 a3] 32])) [(14, Value.bool (!(decide (a1 = a1)))), (13, Value.int .i64 a1), (12, Value.pointer (some ⟨blk4, 0 + 1, none⟩)), (11, Value.int .i64 a1), (10, Value.pointer (some ⟨blk2, 0 + 1, none⟩))] [.no, .v (Value.int .i64 a1), .no, .v (Value.int .i64 a1), .no] ((LoadsAt Try.prog (fun x_ => St w x_ [Res.box blk4 [Value.int .i64 a0, Value.int .i64 a1, Value.slice b2A a2n b2c, Value.int .i64 a3] 32, Res.box blk2 [Value.int .i64 a0, Value.int .i64 a1, Value.slice a2A a2n a2c, Value.int .i64 a3] 32]) 3 ⟨blk2, 0 + 1, none⟩ (Value.int .i64 a1)) ∧ (LoadsAt Try.prog (fun x_ => St w x_ [Res.box blk4 [Value.int .i64 a0, Value.int .i64 a1, Value.slice b2A a2n b2c, Value.int .i64 a3] 32, Res.box blk2 [Value.int .i64 a0, Value.int .i64 a1, Value.slice a2A a2n a2c, Value.int .i64 a3] 32]) 3 ⟨blk4, 0 + 1, none⟩ (Value.int .i64 a1))) (by kernel_rfl) ⟨(ld_box (i := 1) rfl rfl (by kernel_rfl)), (ld_box (i := 0) rfl rfl (by kernel_rfl))⟩ hS3 ?_
  refine l_nil rfl ?_
  refine then_n ?_
  refine c_false (b := (!(decide (a1 = a1)))) (by kernel_rfl) (nb (v := true) (decide_eq_true rfl)) ?_
  refine wp_skip ?_
  refine then_n ?_
  refine wp_seq ?_
  refine wp_seq ?_
  refine c_reg ?_
  refine q_seg (S := (fun x_ => St w x_ [Res.box blk4 [Value.int .i64 a0, Value.int .i64 a1, Value.slice b2A a2n b2c, Value.int .i64 a3] 32, Res.box blk2 [Value.int .i64 a0, Value.int .i64 a1, Value.slice a2A a2n a2c, Value.int .i64 a3] 32])) [(18, Value.slice b2A a2n b2c), (17, Value.pointer (some ⟨blk4, 0 + 2, none⟩)), (16, Value.slice a2A a2n a2c), (15, Value.pointer (some ⟨blk2, 0 + 2, none⟩))] [.no, .v (Value.slice a2A a2n a2c), .no, .v (Value.slice b2A a2n b2c)] ((LoadsAt Try.prog (fun x_ => St w x_ [Res.box blk4 [Value.int .i64 a0, Value.int .i64 a1, Value.slice b2A a2n b2c, Value.int .i64 a3] 32, Res.box blk2 [Value.int .i64 a0, Value.int .i64 a1, Value.slice a2A a2n a2c, Value.int .i64 a3] 32]) 22 ⟨blk2, 0 + 2, none⟩ (Value.slice a2A a2n a2c)) ∧ (LoadsAt Try.prog (fun x_ => St w x_ [Res.box blk4 [Value.int .i64 a0, Value.int .i64 a1, Value.slice b2A a2n b2c, Value.int .i64 a3] 32, Res.box blk2 [Value.int .i64 a0, Value.int .i64 a1, Value.slice a2A a2n a2c, Value.int .i64 a3] 32]) 22 ⟨blk4, 0 + 2, none⟩ (Value.slice b2A a2n b2c))) (by kernel_rfl) ⟨(ld_box (i := 1) rfl rfl (by kernel_rfl)), (ld_box (i := 0) rfl rfl (by kernel_rfl))⟩ hS3 ?_
  refine l_op rfl rfl (fun K hK => op_callv (d := some 19) rfl rfl ⟨_, Try.func35, by kernel_rfl, by kernel_rfl⟩ (vs := [Value.slice a2A a2n a2c, Value.slice b2A a2n b2c]) (by kernel_rfl) (v := Value.bool true) (eqByteS_c a2A b2A a2n a2c b2c a2z w3 (by omega) (hS3.rdlow a2h) (hS3.rdlow b2h)) hS3 (fun w5 hS5 => hK _ _ ?_))
  clear hK K
  refine q_seg (S := (fun x_ => St w x_ [Res.box blk4 [Value.int .i64 a0, Value.int .i64 a1, Value.slice b2A a2n b2c, Value.int .i64 a3] 32, Res.box blk2 [Value.int .i64 a0, Value.int .i64 a1, Value.slice a2A a2n a2c, Value.int .i64 a3] 32])) [(20, Value.bool false)] [.no] True (by kernel_rfl) trivial hS5 ?_
  refine l_nil rfl ?_
  refine then_n ?_
  refine c_false (b := false) (by kernel_rfl) rfl ?_
  refine wp_skip ?_
  refine then_n ?_
  refine wp_seq ?_
  refine wp_seq ?_
  refine c_reg ?_
  refine q_seg (S := (fun x_ => St w x_ [Res.box blk4 [Value.int .i64 a0, Value.int .i64 a1, Value.slice b2A a2n b2c, Value.int .i64 a3] 32, Res.box blk2 [Value.int .i64 a0, Value.int .i64 a1, Value.slice a2A a2n a2c, Value.int .i64 a3] 32])) [(25, Value.bool (!(decide (a3 = a3)))), (24, Value.int .i64 a3), (23, Value.pointer (some ⟨blk4, 0 + 3, none⟩)), (22, Value.int .i64 a3), (21, Value.pointer (some ⟨blk2, 0 + 3, none⟩))] [.no, .v (Value.int .i64 a3), .no, .v (Value.int .i64 a3), .no] ((LoadsAt Try.prog (fun x_ => St w x_ [Res.box blk4 [Value.int .i64 a0, Value.int .i64 a1, Value.slice b2A a2n b2c, Value.int .i64 a3] 32, Res.box blk2 [Value.int .i64 a0, Value.int .i64 a1, Value.slice a2A a2n a2c, Value.int .i64 a3] 32]) 3 ⟨blk2, 0 + 3, none⟩ (Value.int .i64 a3)) ∧ (LoadsAt Try.prog (fun x_ => St w x_ [Res.box blk4 [Value.int .i64 a0, Value.int .i64 a1, Value.slice b2A a2n b2c, Value.int .i64 a3] 32, Res.box blk2 [Value.int .i64 a0, Value.int .i64 a1, Value.slice a2A a2n a2c, Value.int .i64 a3] 32]) 3 ⟨blk4, 0 + 3, none⟩ (Value.int .i64 a3))) (by kernel_rfl) ⟨(ld_box (i := 1) rfl rfl (by kernel_rfl)), (ld_box (i := 0) rfl rfl (by kernel_rfl))⟩ hS5 ?_
  refine l_nil rfl ?_
  refine then_n ?_
  refine c_false (b := (!(decide (a3 = a3)))) (by kernel_rfl) (nb (v := true) (decide_eq_true rfl)) ?_
  refine wp_skip ?_
  refine then_n ?_
  refine wp_seq ?_
  refine c_reg ?_
  refine q_seg (S := (fun x_ => St w x_ [Res.box blk4 [Value.int .i64 a0, Value.int .i64 a1, Value.slice b2A a2n b2c, Value.int .i64 a3] 32, Res.box blk2 [Value.int .i64 a0, Value.int .i64 a1, Value.slice a2A a2n a2c, Value.int .i64 a3] 32])) [(4, Value.bool true)] [.no] True (by kernel_rfl) trivial hS5 ?_
  refine l_nil rfl ?_
  refine then_n ?_
  refine wp_ret ?_
  exact c_end (S := (fun x_ => St w x_ [Res.box blk4 [Value.int .i64 a0, Value.int .i64 a1, Value.slice b2A a2n b2c, Value.int .i64 a3] 32, Res.box blk2 [Value.int .i64 a0, Value.int .i64 a1, Value.slice a2A a2n a2c, Value.int .i64 a3] 32])) (rs := [.tmp 4]) rfl [] (v := Value.bool true) (C := True) (by kernel_rfl) trivial hS5 ((hS5.rv rfl))
theorem szSecuredMessage_c (a0 : Int) (a1 : Int) (a2A : Option Addr) (a2n a2c : Nat) (a3 : Int) (lf : Int) (w : World) (h1 : 0 ≤ lf) (h2 : lf ≤ 1099511627776) (a2w : a2n ≤ 9223372036854775807) : Calls Try.prog 44 #[Value.agg #[Value.int .i64 a0, Value.int .i64 a1, Value.slice a2A a2n a2c, Value.int .i64 a3], .int .i64 lf] w (RetV w (.int .i64 (szl lf a2n))) := by
  refine calls_FA Try.func44 rfl (n := 12) rfl (l := [(0, Value.agg #[Value.int .i64 a0, Value.int .i64 a1, Value.slice a2A a2n a2c, Value.int .i64 a3]), (1, Value.int .i64 lf)]) rfl (by simp) (fun g => ?_)
  have hS := St.init w
  refine wp_seq ?_
  refine c_reg ?_
  refine l_op rfl rfl (fun K hK => op_box (d := some 2) rfl rfl [Value.int .i64 a0, Value.int .i64 a1, Value.slice a2A a2n a2c, Value.int .i64 a3] (by kernel_rfl) hS (fun blk2 w1 hS1 => hK _ _ ?_))
  clear hK K
  refine q_seg (S := (fun x_ => St w x_ [Res.box blk2 [Value.int .i64 a0, Value.int .i64 a1, Value.slice a2A a2n a2c, Value.int .i64 a3] 24])) [(4, Value.int .i64 0)] [.no] True (by kernel_rfl) trivial hS1 ?_
  refine l_nil rfl ?_
  refine then_n ?_
  refine wp_seq ?_
  refine c_reg ?_
  refine q_seg (S := (fun x_ => St w x_ [Res.box blk2 [Value.int .i64 a0, Value.int .i64 a1, Value.slice a2A a2n a2c, Value.int .i64 a3] 24])) [(7, Value.int .i64 lf), (6, Value.slice a2A a2n a2c), (5, Value.pointer (some ⟨blk2, 0 + 2, none⟩))] [.no, .v (Value.slice a2A a2n a2c), .no] ((LoadsAt Try.prog (fun x_ => St w x_ [Res.box blk2 [Value.int .i64 a0, Value.int .i64 a1, Value.slice a2A a2n a2c, Value.int .i64 a3] 24]) 22 ⟨blk2, 0 + 2, none⟩ (Value.slice a2A a2n a2c))) (by kernel_rfl) (ld_box (i := 0) rfl rfl (by kernel_rfl)) hS1 ?_
  refine l_op rfl rfl (fun K hK => op_callv (d := some 8) rfl rfl ⟨_, Try.func77, by kernel_rfl, by kernel_rfl⟩ (vs := [Value.slice a2A a2n a2c, Value.int .i64 lf]) (by kernel_rfl) (v := Value.int .i64 (szl lf a2n)) (szByteS_c a2A a2n a2c lf w1 (by omega) (by omega) (by omega)) hS1 (fun w3 hS3 => hK _ _ ?_))
  clear hK K
  refine q_seg (S := (fun x_ => St w x_ [Res.box blk2 [Value.int .i64 a0, Value.int .i64 a1, Value.slice a2A a2n a2c, Value.int .i64 a3] 24])) [(1, Value.int .i64 (szl lf a2n))] [.no] True (by kernel_rfl) trivial hS3 ?_
  refine l_nil rfl ?_
  refine then_n ?_
  refine wp_seq ?_
  refine wp_seq ?_
  refine c_reg ?_
  refine q_seg (S := (fun x_ => St w x_ [Res.box blk2 [Value.int .i64 a0, Value.int .i64 a1, Value.slice a2A a2n a2c, Value.int .i64 a3] 24])) [(10, Value.bool (decide ((szl lf a2n) < (0 : Int)))), (9, Value.int .i64 (szl lf a2n))] [.no, .no] True (by kernel_rfl) trivial hS3 ?_
  refine l_nil rfl ?_
  refine then_n ?_
  rcases Bool.eq_false_or_eq_true (decide ((szl lf a2n) < (0 : Int))) with hb4 | hb4
  · skip
    have hb4p := of_decide_eq_true hb4
    refine c_true (b := (decide ((szl lf a2n) < (0 : Int)))) (by kernel_rfl) hb4 ?_
    refine wp_seq ?_
    refine c_reg ?_
    refine q_seg (S := (fun x_ => St w x_ [Res.box blk2 [Value.int .i64 a0, Value.int .i64 a1, Value.slice a2A a2n a2c, Value.int .i64 a3] 24])) [(4, Value.int .i64 (-1))] [.no] True (by kernel_rfl) trivial hS3 ?_
    refine l_nil rfl ?_
    refine then_n ?_
    refine wp_ret ?_
    refine then_r ?_
    exact c_end (S := (fun x_ => St w x_ [Res.box blk2 [Value.int .i64 a0, Value.int .i64 a1, Value.slice a2A a2n a2c, Value.int .i64 a3] 24])) (rs := [.tmp 4]) rfl [] (v := Value.int .i64 (-1)) (C := True) (by kernel_rfl) trivial hS3 ((hS3.rv (congrArg (Value.int .i64) (by unfold szl at *; split <;> omega))))
  · skip
    have hb4p := of_decide_eq_false hb4
    refine c_false (b := (decide ((szl lf a2n) < (0 : Int)))) (by kernel_rfl) hb4 ?_
    refine wp_skip ?_
    refine then_n ?_
    refine wp_seq ?_
    refine c_reg ?_
    refine q_seg (S := (fun x_ => St w x_ [Res.box blk2 [Value.int .i64 a0, Value.int .i64 a1, Value.slice a2A a2n a2c, Value.int .i64 a3] 24])) [(4, Value.int .i64 (szl lf a2n)), (11, Value.int .i64 (szl lf a2n))] [.no, .no] True (by kernel_rfl) trivial hS3 ?_
    refine l_nil rfl ?_
    refine then_n ?_
    refine wp_ret ?_
    exact c_end (S := (fun x_ => St w x_ [Res.box blk2 [Value.int .i64 a0, Value.int .i64 a1, Value.slice a2A a2n a2c, Value.int .i64 a3] 24])) (rs := [.tmp 4]) rfl [] (v := Value.int .i64 (szl lf a2n)) (C := True) (by kernel_rfl) trivial hS3 ((hS3.rv (congrArg (Value.int .i64) (by unfold szl at *; split <;> omega))))
theorem markSecuredMessage_c (a0 : Int) (a1 : Int) (a3 : Int) (a2A : Option Addr) (a2n a2c : Nat) (k0 : Int) (xs : List Value) (tl : List Res) (w0 w : World) (hS : St w0 w (Res.row (Value.slice a2A a2n a2c) 5 1 a2n xs :: tl)) (hk1 : -1099511627776 ≤ k0) (hk2 : k0 ≤ 1099511627776) (hn : a2n ≤ 1099511627776) : Calls Try.prog 51 #[Value.agg #[Value.int .i64 a0, Value.int .i64 a1, Value.slice a2A a2n a2c, Value.int .i64 a3], .int .i64 k0] w (fun e w' => ∃ v own', e = .returned v ∧ St w0 w' own' ∧ (v = .int .i64 (k0 + ((a2n : Nat) : Int)) ∧ own' = (Res.row (Value.slice a2A a2n a2c) 5 1 a2n ((marks (IntKind.wrap .u8) k0 a2n).map (Value.int .u8)) :: tl))) := by
  refine calls_FA Try.func51 rfl (n := 10) rfl (l := [(0, Value.agg #[Value.int .i64 a0, Value.int .i64 a1, Value.slice a2A a2n a2c, Value.int .i64 a3]), (1, Value.int .i64 k0)]) rfl (by simp) (fun g => ?_)
  refine wp_seq ?_
  refine c_reg ?_
  refine l_op rfl rfl (fun K hK => op_box (d := some 2) rfl rfl [Value.int .i64 a0, Value.int .i64 a1, Value.slice a2A a2n a2c, Value.int .i64 a3] (by kernel_rfl) hS (fun blk2 w1 hS1 => hK _ _ ?_))
  clear hK K
  refine q_seg (S := (fun x_ => St w0 x_ (Res.box blk2 [Value.int .i64 a0, Value.int .i64 a1, Value.slice a2A a2n a2c, Value.int .i64 a3] 32 :: Res.row (Value.slice a2A a2n a2c) 5 1 a2n xs :: tl))) [(4, Value.int .i64 0)] [.no] True (by kernel_rfl) trivial hS1 ?_
  refine l_nil rfl ?_
  refine then_n ?_
  refine wp_seq ?_
  refine c_reg ?_
  refine q_seg (S := (fun x_ => St w0 x_ (Res.box blk2 [Value.int .i64 a0, Value.int .i64 a1, Value.slice a2A a2n a2c, Value.int .i64 a3] 32 :: Res.row (Value.slice a2A a2n a2c) 5 1 a2n xs :: tl))) [(7, Value.int .i64 k0), (6, Value.slice a2A a2n a2c), (5, Value.pointer (some ⟨blk2, 0 + 2, none⟩))] [.no, .v (Value.slice a2A a2n a2c), .no] ((LoadsAt Try.prog (fun x_ => St w0 x_ (Res.box blk2 [Value.int .i64 a0, Value.int .i64 a1, Value.slice a2A a2n a2c, Value.int .i64 a3] 32 :: Res.row (Value.slice a2A a2n a2c) 5 1 a2n xs :: tl)) 22 ⟨blk2, 0 + 2, none⟩ (Value.slice a2A a2n a2c))) (by kernel_rfl) (ld_box (i := 0) rfl rfl (by kernel_rfl)) hS1 ?_
  refine l_op rfl rfl (fun K hK => op_callm (d := some 8) rfl rfl ⟨_, Try.func36, by kernel_rfl, by kernel_rfl⟩ (vs := [Value.slice a2A a2n a2c, Value.int .i64 k0]) (by kernel_rfl) (markByteS_c a2A a2n a2c k0 _ _ w0 w1 (hS1.front 1 rfl) (by omega) (by omega) (by omega)) (fun v4 new5 w3 Rw3 hS3 => hK _ _ ?_))
  clear hK K
  obtain ⟨rfl, rfl⟩ := Rw3
  refine q_seg (S := (fun x_ => St w0 x_ (Res.row (Value.slice a2A a2n a2c) 5 1 a2n ((marks (IntKind.wrap .u8) k0 a2n).map (Value.int .u8)) :: Res.box blk2 [Value.int .i64 a0, Value.int .i64 a1, Value.slice a2A a2n a2c, Value.int .i64 a3] 32 :: tl))) [(1, Value.int .i64 (k0 + ((a2n : Nat) : Int)))] [.no] True (by kernel_rfl) trivial hS3 ?_
  refine l_nil rfl ?_
  refine then_n ?_
  refine wp_seq ?_
  refine c_reg ?_
  refine q_seg (S := (fun x_ => St w0 x_ (Res.row (Value.slice a2A a2n a2c) 5 1 a2n ((marks (IntKind.wrap .u8) k0 a2n).map (Value.int .u8)) :: Res.box blk2 [Value.int .i64 a0, Value.int .i64 a1, Value.slice a2A a2n a2c, Value.int .i64 a3] 32 :: tl))) [(4, Value.int .i64 (k0 + ((a2n : Nat) : Int))), (9, Value.int .i64 (k0 + ((a2n : Nat) : Int)))] [.no, .no] True (by kernel_rfl) trivial hS3 ?_
  refine l_nil rfl ?_
  refine then_n ?_
  refine wp_ret ?_
  have hS3s1 : St w0 w3 (Res.row (Value.slice a2A a2n a2c) 5 1 a2n ((marks (IntKind.wrap .u8) k0 a2n).map (Value.int .u8)) :: tl) := (hS3.sub (List.Sublist.cons_cons _ (List.Sublist.cons _ (List.Sublist.refl _))))
  exact c_end (S := (fun x_ => St w0 x_ (Res.row (Value.slice a2A a2n a2c) 5 1 a2n ((marks (IntKind.wrap .u8) k0 a2n).map (Value.int .u8)) :: Res.box blk2 [Value.int .i64 a0, Value.int .i64 a1, Value.slice a2A a2n a2c, Value.int .i64 a3] 32 :: tl))) (rs := [.tmp 4]) rfl [] (v := Value.int .i64 (k0 + ((a2n : Nat) : Int))) (C := True) (by kernel_rfl) trivial hS3 (⟨_, _, rfl, hS3s1, rfl, rfl⟩)
theorem heldSecuredMessage_c (a0 : Int) (a1 : Int) (a3 : Int) (a2A : Option Addr) (a2n a2c : Nat) (k0 : Int) (w : World) (hk1 : 0 ≤ k0) (hk2 : k0 ≤ 1099511627776) (hn : a2n ≤ 1099511627776) (hr : Rd w w.heap.size a2A a2n ((marks (IntKind.wrap .u8) k0 a2n).map (Value.int .u8))) : Calls Try.prog 76 #[Value.agg #[Value.int .i64 a0, Value.int .i64 a1, Value.slice a2A a2n a2c, Value.int .i64 a3], .int .i64 k0] w (RetV w (.int .i64 (k0 + ((a2n : Nat) : Int)))) := by
  refine calls_FA Try.func76 rfl (n := 12) rfl (l := [(0, Value.agg #[Value.int .i64 a0, Value.int .i64 a1, Value.slice a2A a2n a2c, Value.int .i64 a3]), (1, Value.int .i64 k0)]) rfl (by simp) (fun g => ?_)
  have hS := St.init w
  refine wp_seq ?_
  refine c_reg ?_
  refine l_op rfl rfl (fun K hK => op_box (d := some 2) rfl rfl [Value.int .i64 a0, Value.int .i64 a1, Value.slice a2A a2n a2c, Value.int .i64 a3] (by kernel_rfl) hS (fun blk2 w1 hS1 => hK _ _ ?_))
  clear hK K
  refine q_seg (S := (fun x_ => St w x_ [Res.box blk2 [Value.int .i64 a0, Value.int .i64 a1, Value.slice a2A a2n a2c, Value.int .i64 a3] 32])) [(4, Value.int .i64 0)] [.no] True (by kernel_rfl) trivial hS1 ?_
  refine l_nil rfl ?_
  refine then_n ?_
  refine wp_seq ?_
  refine c_reg ?_
  refine q_seg (S := (fun x_ => St w x_ [Res.box blk2 [Value.int .i64 a0, Value.int .i64 a1, Value.slice a2A a2n a2c, Value.int .i64 a3] 32])) [(7, Value.int .i64 k0), (6, Value.slice a2A a2n a2c), (5, Value.pointer (some ⟨blk2, 0 + 2, none⟩))] [.no, .v (Value.slice a2A a2n a2c), .no] ((LoadsAt Try.prog (fun x_ => St w x_ [Res.box blk2 [Value.int .i64 a0, Value.int .i64 a1, Value.slice a2A a2n a2c, Value.int .i64 a3] 32]) 22 ⟨blk2, 0 + 2, none⟩ (Value.slice a2A a2n a2c))) (by kernel_rfl) (ld_box (i := 0) rfl rfl (by kernel_rfl)) hS1 ?_
  refine l_op rfl rfl (fun K hK => op_callv (d := some 8) rfl rfl ⟨_, Try.func37, by kernel_rfl, by kernel_rfl⟩ (vs := [Value.slice a2A a2n a2c, Value.int .i64 k0]) (by kernel_rfl) (v := Value.int .i64 (k0 + ((a2n : Nat) : Int))) (heldByteS_c a2A a2n a2c k0 w1 (by omega) (by omega) (by omega) (hS1.rdlow hr)) hS1 (fun w3 hS3 => hK _ _ ?_))
  clear hK K
  refine q_seg (S := (fun x_ => St w x_ [Res.box blk2 [Value.int .i64 a0, Value.int .i64 a1, Value.slice a2A a2n a2c, Value.int .i64 a3] 32])) [(1, Value.int .i64 (k0 + ((a2n : Nat) : Int)))] [.no] True (by kernel_rfl) trivial hS3 ?_
  refine l_nil rfl ?_
  refine then_n ?_
  refine wp_seq ?_
  refine wp_seq ?_
  refine c_reg ?_
  refine q_seg (S := (fun x_ => St w x_ [Res.box blk2 [Value.int .i64 a0, Value.int .i64 a1, Value.slice a2A a2n a2c, Value.int .i64 a3] 32])) [(10, Value.bool (decide ((k0 + ((a2n : Nat) : Int)) < (0 : Int)))), (9, Value.int .i64 (k0 + ((a2n : Nat) : Int)))] [.no, .no] True (by kernel_rfl) trivial hS3 ?_
  refine l_nil rfl ?_
  refine then_n ?_
  refine c_false (b := (decide ((k0 + ((a2n : Nat) : Int)) < (0 : Int)))) (by kernel_rfl) (decide_eq_false (by omega)) ?_
  refine wp_skip ?_
  refine then_n ?_
  refine wp_seq ?_
  refine c_reg ?_
  refine q_seg (S := (fun x_ => St w x_ [Res.box blk2 [Value.int .i64 a0, Value.int .i64 a1, Value.slice a2A a2n a2c, Value.int .i64 a3] 32])) [(4, Value.int .i64 (k0 + ((a2n : Nat) : Int))), (11, Value.int .i64 (k0 + ((a2n : Nat) : Int)))] [.no, .no] True (by kernel_rfl) trivial hS3 ?_
  refine l_nil rfl ?_
  refine then_n ?_
  refine wp_ret ?_
  exact c_end (S := (fun x_ => St w x_ [Res.box blk2 [Value.int .i64 a0, Value.int .i64 a1, Value.slice a2A a2n a2c, Value.int .i64 a3] 32])) (rs := [.tmp 4]) rfl [] (v := Value.int .i64 (k0 + ((a2n : Nat) : Int))) (C := True) (by kernel_rfl) trivial hS3 ((hS3.rv rfl))
theorem toRadioPacket_c (a0 : Int) (a1 : Int) (a2 : Int) (a3 : Int) (a4A : Option Addr) (a4n a4c : Nat) (a4z : List Int) (a5 : Int) (w : World) (a4h : Rd w w.heap.size a4A a4n (a4z.map (Value.int .u8))) (a4w : a4n ≤ 1099511627776) (a4o : okz .u8 a4z) : Calls Try.prog 13 #[Value.agg #[Value.int .i64 a0, Value.int .i64 a1, Value.int .i64 a2, Value.int .i64 a3, Value.slice a4A a4n a4c, Value.int .i64 a5]] w (Ret w (fun v new => ∃ (A0_ : Option Addr) (c0_ : Nat), v = Value.agg #[Value.int .i64 a0, Value.int .i64 a1, Value.int .i64 a2, Value.int .i64 a3, Value.slice A0_ a4n c0_, Value.int .i64 a5] ∧ new = [Res.row (Value.slice A0_ a4n c0_) 5 1 a4n (a4z.map (Value.int .u8))])) := by
  have a4l := a4h.len
  refine calls_FA Try.func13 rfl (n := 15) rfl (l := [(0, Value.agg #[Value.int .i64 a0, Value.int .i64 a1, Value.int .i64 a2, Value.int .i64 a3, Value.slice a4A a4n a4c, Value.int .i64 a5])]) rfl (by simp) (fun g => ?_)
  have hS := St.init w
  refine wp_seq ?_
  refine c_reg ?_
  refine l_op rfl rfl (fun K hK => op_box (d := some 1) rfl rfl [Value.int .i64 a0, Value.int .i64 a1, Value.int .i64 a2, Value.int .i64 a3, Value.slice a4A a4n a4c, Value.int .i64 a5] (by kernel_rfl) hS (fun blk2 w1 hS1 => hK _ _ ?_))
  clear hK K
  refine l_op rfl rfl (fun K hK => op_alloc (d := some 2) rfl rfl [Value.int .i64 0, Value.int .i64 0, Value.int .i64 0, Value.int .i64 0, Value.slice none 0 0, Value.int .i64 0] (by kernel_rfl) hS1 (fun blk4 w3 hS3 => hK _ _ ?_))
  clear hK K
  refine l_nil rfl ?_
  refine then_n ?_
  refine wp_seq ?_
  refine c_reg ?_
  refine l_op rfl rfl (fun K hK => op_alloc (d := some 3) rfl rfl [Value.int .i64 0, Value.int .i64 0, Value.int .i64 0, Value.int .i64 0, Value.slice none 0 0, Value.int .i64 0] (by kernel_rfl) hS3 (fun blk6 w5 hS5 => hK _ _ ?_))
  clear hK K
  refine l_nil rfl ?_
  refine then_n ?_
  refine wp_seq ?_
  refine c_reg ?_
  refine q_seg (S := (fun x_ => St w x_ [Res.box blk6 [Value.int .i64 0, Value.int .i64 0, Value.int .i64 0, Value.int .i64 0, Value.slice none 0 0, Value.int .i64 0] 34, Res.box blk4 [Value.int .i64 0, Value.int .i64 0, Value.int .i64 0, Value.int .i64 0, Value.slice none 0 0, Value.int .i64 0] 34, Res.box blk2 [Value.int .i64 a0, Value.int .i64 a1, Value.int .i64 a2, Value.int .i64 a3, Value.slice a4A a4n a4c, Value.int .i64 a5] 26])) [(6, Value.pointer (some ⟨blk6, 0 + 0, none⟩)), (5, Value.int .i64 a0), (4, Value.pointer (some ⟨blk2, 0 + 0, none⟩))] [.no, .v (Value.int .i64 a0), .no] ((LoadsAt Try.prog (fun x_ => St w x_ [Res.box blk6 [Value.int .i64 0, Value.int .i64 0, Value.int .i64 0, Value.int .i64 0, Value.slice none 0 0, Value.int .i64 0] 34, Res.box blk4 [Value.int .i64 0, Value.int .i64 0, Value.int .i64 0, Value.int .i64 0, Value.slice none 0 0, Value.int .i64 0] 34, Res.box blk2 [Value.int .i64 a0, Value.int .i64 a1, Value.int .i64 a2, Value.int .i64 a3, Value.slice a4A a4n a4c, Value.int .i64 a5] 26]) 3 ⟨blk2, 0 + 0, none⟩ (Value.int .i64 a0))) (by kernel_rfl) (ld_box (i := 2) rfl rfl (by kernel_rfl)) hS5 ?_
  refine l_op rfl rfl (fun K hK => op_store (d := none) rfl rfl (i := 0) (b := blk6) (off := 0 + 0) (cs := [Value.int .i64 0, Value.int .i64 0, Value.int .i64 0, Value.int .i64 0, Value.slice none 0 0, Value.int .i64 0]) (bt := 34) (by kernel_rfl) (by kernel_rfl) [Value.int .i64 a0] (by kernel_rfl) (by kernel_rfl) (Nat.le_of_ble_eq_true (by kernel_rfl)) (by kernel_rfl) [Res.box blk6 [Value.int .i64 a0, Value.int .i64 0, Value.int .i64 0, Value.int .i64 0, Value.slice none 0 0, Value.int .i64 0] 34, Res.box blk4 [Value.int .i64 0, Value.int .i64 0, Value.int .i64 0, Value.int .i64 0, Value.slice none 0 0, Value.int .i64 0] 34, Res.box blk2 [Value.int .i64 a0, Value.int .i64 a1, Value.int .i64 a2, Value.int .i64 a3, Value.slice a4A a4n a4c, Value.int .i64 a5] 26] (by kernel_rfl) hS5 (fun w7 hS7 => hK _ _ ?_))
  clear hK K
  refine l_nil rfl ?_
  refine then_n ?_
  refine wp_seq ?_
  refine c_reg ?_
  refine q_seg (S := (fun x_ => St w x_ [Res.box blk6 [Value.int .i64 a0, Value.int .i64 0, Value.int .i64 0, Value.int .i64 0, Value.slice none 0 0, Value.int .i64 0] 34, Res.box blk4 [Value.int .i64 0, Value.int .i64 0, Value.int .i64 0, Value.int .i64 0, Value.slice none 0 0, Value.int .i64 0] 34, Res.box blk2 [Value.int .i64 a0, Value.int .i64 a1, Value.int .i64 a2, Value.int .i64 a3, Value.slice a4A a4n a4c, Value.int .i64 a5] 26])) [(9, Value.pointer (some ⟨blk6, 0 + 1, none⟩)), (8, Value.int .i64 a1), (7, Value.pointer (some ⟨blk2, 0 + 1, none⟩))] [.no, .v (Value.int .i64 a1), .no] ((LoadsAt Try.prog (fun x_ => St w x_ [Res.box blk6 [Value.int .i64 a0, Value.int .i64 0, Value.int .i64 0, Value.int .i64 0, Value.slice none 0 0, Value.int .i64 0] 34, Res.box blk4 [Value.int .i64 0, Value.int .i64 0, Value.int .i64 0, Value.int .i64 0, Value.slice none 0 0, Value.int .i64 0] 34, Res.box blk2 [Value.int .i64 a0, Value.int .i64 a1, Value.int .i64 a2, Value.int .i64 a3, Value.slice a4A a4n a4c, Value.int .i64 a5] 26]) 3 ⟨blk2, 0 + 1, none⟩ (Value.int .i64 a1))) (by kernel_rfl) (ld_box (i := 2) rfl rfl (by kernel_rfl)) hS7 ?_
  refine l_op rfl rfl (fun K hK => op_store (d := none) rfl rfl (i := 0) (b := blk6) (off := 0 + 1) (cs := [Value.int .i64 a0, Value.int .i64 0, Value.int .i64 0, Value.int .i64 0, Value.slice none 0 0, Value.int .i64 0]) (bt := 34) (by kernel_rfl) (by kernel_rfl) [Value.int .i64 a1] (by kernel_rfl) (by kernel_rfl) (Nat.le_of_ble_eq_true (by kernel_rfl)) (by kernel_rfl) [Res.box blk6 [Value.int .i64 a0, Value.int .i64 a1, Value.int .i64 0, Value.int .i64 0, Value.slice none 0 0, Value.int .i64 0] 34, Res.box blk4 [Value.int .i64 0, Value.int .i64 0, Value.int .i64 0, Value.int .i64 0, Value.slice none 0 0, Value.int .i64 0] 34, Res.box blk2 [Value.int .i64 a0, Value.int .i64 a1, Value.int .i64 a2, Value.int .i64 a3, Value.slice a4A a4n a4c, Value.int .i64 a5] 26] (by kernel_rfl) hS7 (fun w8 hS8 => hK _ _ ?_))
  clear hK K
  refine l_nil rfl ?_
  refine then_n ?_
  refine wp_seq ?_
  refine c_reg ?_
  refine q_seg (S := (fun x_ => St w x_ [Res.box blk6 [Value.int .i64 a0, Value.int .i64 a1, Value.int .i64 0, Value.int .i64 0, Value.slice none 0 0, Value.int .i64 0] 34, Res.box blk4 [Value.int .i64 0, Value.int .i64 0, Value.int .i64 0, Value.int .i64 0, Value.slice none 0 0, Value.int .i64 0] 34, Res.box blk2 [Value.int .i64 a0, Value.int .i64 a1, Value.int .i64 a2, Value.int .i64 a3, Value.slice a4A a4n a4c, Value.int .i64 a5] 26])) [(11, Value.agg #[Value.int .i64 a2, Value.int .i64 a3, Value.slice a4A a4n a4c, Value.int .i64 a5]), (10, Value.pointer (some ⟨blk2, 0 + 2, none⟩))] [.no, .v (Value.agg #[Value.int .i64 a2, Value.int .i64 a3, Value.slice a4A a4n a4c, Value.int .i64 a5])] ((LoadsAt Try.prog (fun x_ => St w x_ [Res.box blk6 [Value.int .i64 a0, Value.int .i64 a1, Value.int .i64 0, Value.int .i64 0, Value.slice none 0 0, Value.int .i64 0] 34, Res.box blk4 [Value.int .i64 0, Value.int .i64 0, Value.int .i64 0, Value.int .i64 0, Value.slice none 0 0, Value.int .i64 0] 34, Res.box blk2 [Value.int .i64 a0, Value.int .i64 a1, Value.int .i64 a2, Value.int .i64 a3, Value.slice a4A a4n a4c, Value.int .i64 a5] 26]) 24 ⟨blk2, 0 + 2, none⟩ (Value.agg #[Value.int .i64 a2, Value.int .i64 a3, Value.slice a4A a4n a4c, Value.int .i64 a5]))) (by kernel_rfl) (ld_boxN (i := 2) (k := 4) rfl rfl rfl (by kernel_rfl)) hS8 ?_
  refine l_op rfl rfl (fun K hK => op_call (d := some 12) rfl rfl ⟨_, Try.func47, by kernel_rfl, by kernel_rfl⟩ (vs := [Value.agg #[Value.int .i64 a2, Value.int .i64 a3, Value.slice a4A a4n a4c, Value.int .i64 a5]]) (by kernel_rfl) (toSecuredMessage_c a2 a3 a4A a4n a4c a4z a5 w8 (hS8.rdlow a4h) (by omega) a4o) hS8 (fun v10 new11 w9 Rw9 hS9 => hK _ _ ?_))
  clear hK K
  obtain ⟨Aq12, cq13, rfl, rfl⟩ := Rw9
  refine q_seg (S := (fun x_ => St w x_ [Res.row (Value.slice Aq12 a4n cq13) 5 1 a4n (a4z.map (Value.int .u8)), Res.box blk6 [Value.int .i64 a0, Value.int .i64 a1, Value.int .i64 0, Value.int .i64 0, Value.slice none 0 0, Value.int .i64 0] 34, Res.box blk4 [Value.int .i64 0, Value.int .i64 0, Value.int .i64 0, Value.int .i64 0, Value.slice none 0 0, Value.int .i64 0] 34, Res.box blk2 [Value.int .i64 a0, Value.int .i64 a1, Value.int .i64 a2, Value.int .i64 a3, Value.slice a4A a4n a4c, Value.int .i64 a5] 26])) [(13, Value.pointer (some ⟨blk6, 0 + 2, none⟩))] [.no] True (by kernel_rfl) trivial hS9 ?_
  refine l_op rfl rfl (fun K hK => op_store (d := none) rfl rfl (i := 1) (b := blk6) (off := 0 + 2) (cs := [Value.int .i64 a0, Value.int .i64 a1, Value.int .i64 0, Value.int .i64 0, Value.slice none 0 0, Value.int .i64 0]) (bt := 34) (by kernel_rfl) (by kernel_rfl) [Value.int .i64 a2, Value.int .i64 a3, Value.slice Aq12 a4n cq13, Value.int .i64 a5] (by kernel_rfl) (by kernel_rfl) (Nat.le_of_ble_eq_true (by kernel_rfl)) (by kernel_rfl) [Res.row (Value.slice Aq12 a4n cq13) 5 1 a4n (a4z.map (Value.int .u8)), Res.box blk6 [Value.int .i64 a0, Value.int .i64 a1, Value.int .i64 a2, Value.int .i64 a3, Value.slice Aq12 a4n cq13, Value.int .i64 a5] 34, Res.box blk4 [Value.int .i64 0, Value.int .i64 0, Value.int .i64 0, Value.int .i64 0, Value.slice none 0 0, Value.int .i64 0] 34, Res.box blk2 [Value.int .i64 a0, Value.int .i64 a1, Value.int .i64 a2, Value.int .i64 a3, Value.slice a4A a4n a4c, Value.int .i64 a5] 26] (by kernel_rfl) hS9 (fun w14 hS14 => hK _ _ ?_))
  clear hK K
  refine l_nil rfl ?_
  refine then_n ?_
  refine wp_seq ?_
  refine c_reg ?_
  refine q_seg (S := (fun x_ => St w x_ [Res.row (Value.slice Aq12 a4n cq13) 5 1 a4n (a4z.map (Value.int .u8)), Res.box blk6 [Value.int .i64 a0, Value.int .i64 a1, Value.int .i64 a2, Value.int .i64 a3, Value.slice Aq12 a4n cq13, Value.int .i64 a5] 34, Res.box blk4 [Value.int .i64 0, Value.int .i64 0, Value.int .i64 0, Value.int .i64 0, Value.slice none 0 0, Value.int .i64 0] 34, Res.box blk2 [Value.int .i64 a0, Value.int .i64 a1, Value.int .i64 a2, Value.int .i64 a3, Value.slice a4A a4n a4c, Value.int .i64 a5] 26])) [(14, Value.agg #[Value.int .i64 a0, Value.int .i64 a1, Value.int .i64 a2, Value.int .i64 a3, Value.slice Aq12 a4n cq13, Value.int .i64 a5])] [.v (Value.agg #[Value.int .i64 a0, Value.int .i64 a1, Value.int .i64 a2, Value.int .i64 a3, Value.slice Aq12 a4n cq13, Value.int .i64 a5])] ((LoadsAt Try.prog (fun x_ => St w x_ [Res.row (Value.slice Aq12 a4n cq13) 5 1 a4n (a4z.map (Value.int .u8)), Res.box blk6 [Value.int .i64 a0, Value.int .i64 a1, Value.int .i64 a2, Value.int .i64 a3, Value.slice Aq12 a4n cq13, Value.int .i64 a5] 34, Res.box blk4 [Value.int .i64 0, Value.int .i64 0, Value.int .i64 0, Value.int .i64 0, Value.slice none 0 0, Value.int .i64 0] 34, Res.box blk2 [Value.int .i64 a0, Value.int .i64 a1, Value.int .i64 a2, Value.int .i64 a3, Value.slice a4A a4n a4c, Value.int .i64 a5] 26]) 34 ⟨blk6, 0, none⟩ (Value.agg #[Value.int .i64 a0, Value.int .i64 a1, Value.int .i64 a2, Value.int .i64 a3, Value.slice Aq12 a4n cq13, Value.int .i64 a5]))) (by kernel_rfl) (ld_boxN (i := 1) (k := 6) rfl rfl rfl (by kernel_rfl)) hS14 ?_
  refine l_op rfl rfl (fun K hK => op_store (d := none) rfl rfl (i := 2) (b := blk4) (off := 0) (cs := [Value.int .i64 0, Value.int .i64 0, Value.int .i64 0, Value.int .i64 0, Value.slice none 0 0, Value.int .i64 0]) (bt := 34) (by kernel_rfl) (by kernel_rfl) [Value.int .i64 a0, Value.int .i64 a1, Value.int .i64 a2, Value.int .i64 a3, Value.slice Aq12 a4n cq13, Value.int .i64 a5] (by kernel_rfl) (by kernel_rfl) (Nat.le_of_ble_eq_true (by kernel_rfl)) (by kernel_rfl) [Res.row (Value.slice Aq12 a4n cq13) 5 1 a4n (a4z.map (Value.int .u8)), Res.box blk6 [Value.int .i64 a0, Value.int .i64 a1, Value.int .i64 a2, Value.int .i64 a3, Value.slice Aq12 a4n cq13, Value.int .i64 a5] 34, Res.box blk4 [Value.int .i64 a0, Value.int .i64 a1, Value.int .i64 a2, Value.int .i64 a3, Value.slice Aq12 a4n cq13, Value.int .i64 a5] 34, Res.box blk2 [Value.int .i64 a0, Value.int .i64 a1, Value.int .i64 a2, Value.int .i64 a3, Value.slice a4A a4n a4c, Value.int .i64 a5] 26] (by kernel_rfl) hS14 (fun w15 hS15 => hK _ _ ?_))
  clear hK K
  refine l_nil rfl ?_
  refine then_n ?_
  refine wp_ret ?_
  have hS15s1 : St w w15 [Res.row (Value.slice Aq12 a4n cq13) 5 1 a4n (a4z.map (Value.int .u8))] := (hS15.sub (List.Sublist.cons_cons _ (List.Sublist.cons _ (List.Sublist.cons _ (List.Sublist.cons _ List.Sublist.slnil)))))
  exact c_end (S := (fun x_ => St w x_ [Res.row (Value.slice Aq12 a4n cq13) 5 1 a4n (a4z.map (Value.int .u8)), Res.box blk6 [Value.int .i64 a0, Value.int .i64 a1, Value.int .i64 a2, Value.int .i64 a3, Value.slice Aq12 a4n cq13, Value.int .i64 a5] 34, Res.box blk4 [Value.int .i64 a0, Value.int .i64 a1, Value.int .i64 a2, Value.int .i64 a3, Value.slice Aq12 a4n cq13, Value.int .i64 a5] 34, Res.box blk2 [Value.int .i64 a0, Value.int .i64 a1, Value.int .i64 a2, Value.int .i64 a3, Value.slice a4A a4n a4c, Value.int .i64 a5] 26])) (rs := [.cell 2 34]) rfl [Value.agg #[Value.int .i64 a0, Value.int .i64 a1, Value.int .i64 a2, Value.int .i64 a3, Value.slice Aq12 a4n cq13, Value.int .i64 a5]] (v := Value.agg #[Value.int .i64 a0, Value.int .i64 a1, Value.int .i64 a2, Value.int .i64 a3, Value.slice Aq12 a4n cq13, Value.int .i64 a5]) (C := ((LoadsAt Try.prog (fun x_ => St w x_ [Res.row (Value.slice Aq12 a4n cq13) 5 1 a4n (a4z.map (Value.int .u8)), Res.box blk6 [Value.int .i64 a0, Value.int .i64 a1, Value.int .i64 a2, Value.int .i64 a3, Value.slice Aq12 a4n cq13, Value.int .i64 a5] 34, Res.box blk4 [Value.int .i64 a0, Value.int .i64 a1, Value.int .i64 a2, Value.int .i64 a3, Value.slice Aq12 a4n cq13, Value.int .i64 a5] 34, Res.box blk2 [Value.int .i64 a0, Value.int .i64 a1, Value.int .i64 a2, Value.int .i64 a3, Value.slice a4A a4n a4c, Value.int .i64 a5] 26]) 34 ⟨blk4, 0, none⟩ (Value.agg #[Value.int .i64 a0, Value.int .i64 a1, Value.int .i64 a2, Value.int .i64 a3, Value.slice Aq12 a4n cq13, Value.int .i64 a5])))) (by kernel_rfl) (ld_boxN (i := 2) (k := 6) rfl rfl rfl (by kernel_rfl)) hS15 (hS15s1.rt ⟨_, _, rfl, rfl⟩)
theorem eqRadioPacket_c (a0 : Int) (a1 : Int) (a2 : Int) (a3 : Int) (a4A : Option Addr) (a4n a4c : Nat) (a4z : List Int) (b4A : Option Addr) (b4c : Nat) (a5 : Int) (w : World) (a4h : Rd w w.heap.size a4A a4n (a4z.map (Value.int .u8))) (a4w : a4n ≤ 1099511627776) (b4h : Rd w w.heap.size b4A a4n (a4z.map (Value.int .u8))) : Calls Try.prog 16 #[Value.agg #[Value.int .i64 a0, Value.int .i64 a1, Value.int .i64 a2, Value.int .i64 a3, Value.slice a4A a4n a4c, Value.int .i64 a5], Value.agg #[Value.int .i64 a0, Value.int .i64 a1, Value.int .i64 a2, Value.int .i64 a3, Value.slice b4A a4n b4c, Value.int .i64 a5]] w (RetV w (.bool true)) := by
  have a4l := a4h.len
  refine calls_FA Try.func16 rfl (n := 21) rfl (l := [(0, Value.agg #[Value.int .i64 a0, Value.int .i64 a1, Value.int .i64 a2, Value.int .i64 a3, Value.slice a4A a4n a4c, Value.int .i64 a5]), (1, Value.agg #[Value.int .i64 a0, Value.int .i64 a1, Value.int .i64 a2, Value.int .i64 a3, Value.slice b4A a4n b4c, Value.int .i64 a5])]) rfl (by simp) (fun g => ?_)
  have hS := St.init w
  refine wp_seq ?_
  refine c_reg ?_
  refine l_op rfl rfl (fun K hK => op_box (d := some 2) rfl rfl [Value.int .i64 a0, Value.int .i64 a1, Value.int .i64 a2, Value.int .i64 a3, Value.slice a4A a4n a4c, Value.int .i64 a5] (by kernel_rfl) hS (fun blk2 w1 hS1 => hK _ _ ?_))
  clear hK K
  refine l_op rfl rfl (fun K hK => op_box (d := some 3) rfl rfl [Value.int .i64 a0, Value.int .i64 a1, Value.int .i64 a2, Value.int .i64 a3, Value.slice b4A a4n b4c, Value.int .i64 a5] (by kernel_rfl) hS1 (fun blk4 w3 hS3 => hK _ _ ?_))
  clear hK K
  refine q_seg (S := (fun x_ => St w x_ [Res.box blk4 [Value.int .i64 a0, Value.int .i64 a1, Value.int .i64 a2, Value.int .i64 a3, Value.slice b4A a4n b4c, Value.int .i64 a5] 34, Res.box blk2 [Value.int .i64 a0, Value.int .i64 a1, Value.int .i64 a2, Value.int .i64 a3, Value.slice a4A a4n a4c, Value.int .i64 a5] 34])) [(4, Value.bool false)] [.no] True (by kernel_rfl) trivial hS3 ?_
  refine l_nil rfl ?_
  refine then_n ?_
  refine wp_seq ?_
  refine wp_seq ?_
  refine c_reg ?_
  refine q_seg (S := (fun x_ => St w x_ [Res.box blk4 [Value.int .i64 a0, Value.int .i64 a1, Value.int .i64 a2, Value.int .i64 a3, Value.slice b4A a4n b4c, Value.int .i64 a5] 34, Res.box blk2 [Value.int .i64 a0, Value.int .i64 a1, Value.int .i64 a2, Value.int .i64 a3, Value.slice a4A a4n a4c, Value.int .i64 a5] 34])) [(9, Value.bool (!(decide (a0 = a0)))), (8, Value.int .i64 a0), (7, Value.pointer (some ⟨blk4, 0 + 0, none⟩)), (6, Value.int .i64 a0), (5, Value.pointer (some ⟨blk2, 0 + 0, none⟩))] [.no, .v (Value.int .i64 a0), .no, .v (Value.int .i64 a0), .no] ((LoadsAt Try.prog (fun x_ => St w x_ [Res.box blk4 [Value.int .i64 a0, Value.int .i64 a1, Value.int .i64 a2, Value.int .i64 a3, Value.slice b4A a4n b4c, Value.int .i64 a5] 34, Res.box blk2 [Value.int .i64 a0, Value.int .i64 a1, Value.int .i64 a2, Value.int .i64 a3, Value.slice a4A a4n a4c, Value.int .i64 a5] 34]) 3 ⟨blk2, 0 + 0, none⟩ (Value.int .i64 a0)) ∧ (LoadsAt Try.prog (fun x_ => St w x_ [Res.box blk4 [Value.int .i64 a0, Value.int .i64 a1, Value.int .i64 a2, Value.int .i64 a3, Value.slice b4A a4n b4c, Value.int .i64 a5] 34, Res.box blk2 [Value.int .i64 a0, Value.int .i64 a1, Value.int .i64 a2, Value.int .i64 a3, Value.slice a4A a4n a4c, Value.int .i64 a5] 34]) 3 ⟨blk4, 0 + 0, none⟩ (Value.int .i64 a0))) (by kernel_rfl) ⟨(ld_box (i := 1) rfl rfl (by kernel_rfl)), (ld_box (i := 0) rfl rfl (by kernel_rfl))⟩ hS3 ?_
  refine l_nil rfl ?_
  refine then_n ?_
  refine c_false (b := (!(decide (a0 = a0)))) (by kernel_rfl) (nb (v := true) (decide_eq_true rfl)) ?_
  refine wp_skip ?_
  refine then_n ?_
  refine wp_seq ?_
  refine wp_seq ?_
  refine c_reg ?_
  refine q_seg (S := (fun x_ => St w x_ [Res.box blk4 [Value.int .i64 a0, Value.int .i64 a1, Value.int .i64 a2, Value.int .i64 a3, Value.slice b4A a4n b4c, Value.int .i64 a5] 34, Res.box blk2 [Value.int .i64 a0, Value.int .i64 a1, Value.int .i64 a2, Value.int .i64 a3, Value.slice a4A a4n a4c, Value.int .i64 a5] 34])) [(14, Value.bool (!(decide (a1 = a1)))), (13, Value.int .i64 a1), (12, Value.pointer (some ⟨blk4, 0 + 1, none⟩)), (11, Value.int .i64 a1), (10, Value.pointer (some ⟨blk2, 0 + 1, none⟩))] [.no, .v (Value.int .i64 a1), .no, .v (Value.int .i64 a1), .no] ((LoadsAt Try.prog (fun x_ => St w x_ [Res.box blk4 [Value.int .i64 a0, Value.int .i64 a1, Value.int .i64 a2, Value.int .i64 a3, Value.slice b4A a4n b4c, Value.int .i64 a5] 34, Res.box blk2 [Value.int .i64 a0, Value.int .i64 a1, Value.int .i64 a2, Value.int .i64 a3, Value.slice a4A a4n a4c, Value.int .i64 a5] 34]) 3 ⟨blk2, 0 + 1, none⟩ (Value.int .i64 a1)) ∧ (LoadsAt Try.prog (fun x_ => St w x_ [Res.box blk4 [Value.int .i64 a0, Value.int .i64 a1, Value.int .i64 a2, Value.int .i64 a3, Value.slice b4A a4n b4c, Value.int .i64 a5] 34, Res.box blk2 [Value.int .i64 a0, Value.int .i64 a1, Value.int .i64 a2, Value.int .i64 a3, Value.slice a4A a4n a4c, Value.int .i64 a5] 34]) 3 ⟨blk4, 0 + 1, none⟩ (Value.int .i64 a1))) (by kernel_rfl) ⟨(ld_box (i := 1) rfl rfl (by kernel_rfl)), (ld_box (i := 0) rfl rfl (by kernel_rfl))⟩ hS3 ?_
  refine l_nil rfl ?_
  refine then_n ?_
  refine c_false (b := (!(decide (a1 = a1)))) (by kernel_rfl) (nb (v := true) (decide_eq_true rfl)) ?_
  refine wp_skip ?_
  refine then_n ?_
  refine wp_seq ?_
  refine wp_seq ?_
  refine c_reg ?_
  refine q_seg (S := (fun x_ => St w x_ [Res.box blk4 [Value.int .i64 a0, Value.int .i64 a1, Value.int .i64 a2, Value.int .i64 a3, Value.slice b4A a4n b4c, Value.int .i64 a5] 34, Res.box blk2 [Value.int .i64 a0, Value.int .i64 a1, Value.int .i64 a2, Value.int .i64 a3, Value.slice a4A a4n a4c, Value.int .i64 a5] 34])) [(18, Value.agg #[Value.int .i64 a2, Value.int .i64 a3, Value.slice b4A a4n b4c, Value.int .i64 a5]), (17, Value.pointer (some ⟨blk4, 0 + 2, none⟩)), (16, Value.agg #[Value.int .i64 a2, Value.int .i64 a3, Value.slice a4A a4n a4c, Value.int .i64 a5]), (15, Value.pointer (some ⟨blk2, 0 + 2, none⟩))] [.no, .v (Value.agg #[Value.int .i64 a2, Value.int .i64 a3, Value.slice a4A a4n a4c, Value.int .i64 a5]), .no, .v (Value.agg #[Value.int .i64 a2, Value.int .i64 a3, Value.slice b4A a4n b4c, Value.int .i64 a5])] ((LoadsAt Try.prog (fun x_ => St w x_ [Res.box blk4 [Value.int .i64 a0, Value.int .i64 a1, Value.int .i64 a2, Value.int .i64 a3, Value.slice b4A a4n b4c, Value.int .i64 a5] 34, Res.box blk2 [Value.int .i64 a0, Value.int .i64 a1, Value.int .i64 a2, Value.int .i64 a3, Value.slice a4A a4n a4c, Value.int .i64 a5] 34]) 32 ⟨blk2, 0 + 2, none⟩ (Value.agg #[Value.int .i64 a2, Value.int .i64 a3, Value.slice a4A a4n a4c, Value.int .i64 a5])) ∧ (LoadsAt Try.prog (fun x_ => St w x_ [Res.box blk4 [Value.int .i64 a0, Value.int .i64 a1, Value.int .i64 a2, Value.int .i64 a3, Value.slice b4A a4n b4c, Value.int .i64 a5] 34, Res.box blk2 [Value.int .i64 a0, Value.int .i64 a1, Value.int .i64 a2, Value.int .i64 a3, Value.slice a4A a4n a4c, Value.int .i64 a5] 34]) 32 ⟨blk4, 0 + 2, none⟩ (Value.agg #[Value.int .i64 a2, Value.int .i64 a3, Value.slice b4A a4n b4c, Value.int .i64 a5]))) (by kernel_rfl) ⟨(ld_boxN (i := 1) (k := 4) rfl rfl rfl (by kernel_rfl)), (ld_boxN (i := 0) (k := 4) rfl rfl rfl (by kernel_rfl))⟩ hS3 ?_
  refine l_op rfl rfl (fun K hK => op_callv (d := some 19) rfl rfl ⟨_, Try.func50, by kernel_rfl, by kernel_rfl⟩ (vs := [Value.agg #[Value.int .i64 a2, Value.int .i64 a3, Value.slice a4A a4n a4c, Value.int .i64 a5], Value.agg #[Value.int .i64 a2, Value.int .i64 a3, Value.slice b4A a4n b4c, Value.int .i64 a5]]) (by kernel_rfl) (v := Value.bool true) (eqSecuredMessage_c a2 a3 a4A a4n a4c a4z b4A b4c a5 w3 (hS3.rdlow a4h) (by omega) (hS3.rdlow b4h)) hS3 (fun w5 hS5 => hK _ _ ?_))
  clear hK K
  refine q_seg (S := (fun x_ => St w x_ [Res.box blk4 [Value.int .i64 a0, Value.int .i64 a1, Value.int .i64 a2, Value.int .i64 a3, Value.slice b4A a4n b4c, Value.int .i64 a5] 34, Res.box blk2 [Value.int .i64 a0, Value.int .i64 a1, Value.int .i64 a2, Value.int .i64 a3, Value.slice a4A a4n a4c, Value.int .i64 a5] 34])) [(20, Value.bool false)] [.no] True (by kernel_rfl) trivial hS5 ?_
  refine l_nil rfl ?_
  refine then_n ?_
  refine c_false (b := false) (by kernel_rfl) rfl ?_
  refine wp_skip ?_
  refine then_n ?_
  refine wp_seq ?_
  refine c_reg ?_
  refine q_seg (S := (fun x_ => St w x_ [Res.box blk4 [Value.int .i64 a0, Value.int .i64 a1, Value.int .i64 a2, Value.int .i64 a3, Value.slice b4A a4n b4c, Value.int .i64 a5] 34, Res.box blk2 [Value.int .i64 a0, Value.int .i64 a1, Value.int .i64 a2, Value.int .i64 a3, Value.slice a4A a4n a4c, Value.int .i64 a5] 34])) [(4, Value.bool true)] [.no] True (by kernel_rfl) trivial hS5 ?_
  refine l_nil rfl ?_
  refine then_n ?_
  refine wp_ret ?_
  exact c_end (S := (fun x_ => St w x_ [Res.box blk4 [Value.int .i64 a0, Value.int .i64 a1, Value.int .i64 a2, Value.int .i64 a3, Value.slice b4A a4n b4c, Value.int .i64 a5] 34, Res.box blk2 [Value.int .i64 a0, Value.int .i64 a1, Value.int .i64 a2, Value.int .i64 a3, Value.slice a4A a4n a4c, Value.int .i64 a5] 34])) (rs := [.tmp 4]) rfl [] (v := Value.bool true) (C := True) (by kernel_rfl) trivial hS5 ((hS5.rv rfl))
theorem szRadioPacket_c (a0 : Int) (a1 : Int) (a2 : Int) (a3 : Int) (a4A : Option Addr) (a4n a4c : Nat) (a5 : Int) (lf : Int) (w : World) (h1 : 0 ≤ lf) (h2 : lf ≤ 1099511627776) (a4w : a4n ≤ 9223372036854775807) : Calls Try.prog 11 #[Value.agg #[Value.int .i64 a0, Value.int .i64 a1, Value.int .i64 a2, Value.int .i64 a3, Value.slice a4A a4n a4c, Value.int .i64 a5], .int .i64 lf] w (RetV w (.int .i64 (szl lf a4n))) := by
  refine calls_FA Try.func11 rfl (n := 12) rfl (l := [(0, Value.agg #[Value.int .i64 a0, Value.int .i64 a1, Value.int .i64 a2, Value.int .i64 a3, Value.slice a4A a4n a4c, Value.int .i64 a5]), (1, Value.int .i64 lf)]) rfl (by simp) (fun g => ?_)
  have hS := St.init w
  refine wp_seq ?_
  refine c_reg ?_
  refine l_op rfl rfl (fun K hK => op_box (d := some 2) rfl rfl [Value.int .i64 a0, Value.int .i64 a1, Value.int .i64 a2, Value.int .i64 a3, Value.slice a4A a4n a4c, Value.int .i64 a5] (by kernel_rfl) hS (fun blk2 w1 hS1 => hK _ _ ?_))
  clear hK K
  refine q_seg (S := (fun x_ => St w x_ [Res.box blk2 [Value.int .i64 a0, Value.int .i64 a1, Value.int .i64 a2, Value.int .i64 a3, Value.slice a4A a4n a4c, Value.int .i64 a5] 26])) [(4, Value.int .i64 0)] [.no] True (by kernel_rfl) trivial hS1 ?_
  refine l_nil rfl ?_
  refine then_n ?_
  refine wp_seq ?_
  refine c_reg ?_
  refine q_seg (S := (fun x_ => St w x_ [Res.box blk2 [Value.int .i64 a0, Value.int .i64 a1, Value.int .i64 a2, Value.int .i64 a3, Value.slice a4A a4n a4c, Value.int .i64 a5] 26])) [(7, Value.int .i64 lf), (6, Value.agg #[Value.int .i64 a2, Value.int .i64 a3, Value.slice a4A a4n a4c, Value.int .i64 a5]), (5, Value.pointer (some ⟨blk2, 0 + 2, none⟩))] [.no, .v (Value.agg #[Value.int .i64 a2, Value.int .i64 a3, Value.slice a4A a4n a4c, Value.int .i64 a5]), .no] ((LoadsAt Try.prog (fun x_ => St w x_ [Res.box blk2 [Value.int .i64 a0, Value.int .i64 a1, Value.int .i64 a2, Value.int .i64 a3, Value.slice a4A a4n a4c, Value.int .i64 a5] 26]) 24 ⟨blk2, 0 + 2, none⟩ (Value.agg #[Value.int .i64 a2, Value.int .i64 a3, Value.slice a4A a4n a4c, Value.int .i64 a5]))) (by kernel_rfl) (ld_boxN (i := 0) (k := 4) rfl rfl rfl (by kernel_rfl)) hS1 ?_
  refine l_op rfl rfl (fun K hK => op_callv (d := some 8) rfl rfl ⟨_, Try.func44, by kernel_rfl, by kernel_rfl⟩ (vs := [Value.agg #[Value.int .i64 a2, Value.int .i64 a3, Value.slice a4A a4n a4c, Value.int .i64 a5], Value.int .i64 lf]) (by kernel_rfl) (v := Value.int .i64 (szl lf a4n)) (szSecuredMessage_c a2 a3 a4A a4n a4c a5 lf w1 (by omega) (by omega) (by omega)) hS1 (fun w3 hS3 => hK _ _ ?_))
  clear hK K
  refine q_seg (S := (fun x_ => St w x_ [Res.box blk2 [Value.int .i64 a0, Value.int .i64 a1, Value.int .i64 a2, Value.int .i64 a3, Value.slice a4A a4n a4c, Value.int .i64 a5] 26])) [(1, Value.int .i64 (szl lf a4n))] [.no] True (by kernel_rfl) trivial hS3 ?_
  refine l_nil rfl ?_
  refine then_n ?_
  refine wp_seq ?_
  refine wp_seq ?_
  refine c_reg ?_
  refine q_seg (S := (fun x_ => St w x_ [Res.box blk2 [Value.int .i64 a0, Value.int .i64 a1, Value.int .i64 a2, Value.int .i64 a3, Value.slice a4A a4n a4c, Value.int .i64 a5] 26])) [(10, Value.bool (decide ((szl lf a4n) < (0 : Int)))), (9, Value.int .i64 (szl lf a4n))] [.no, .no] True (by kernel_rfl) trivial hS3 ?_
  refine l_nil rfl ?_
  refine then_n ?_
  rcases Bool.eq_false_or_eq_true (decide ((szl lf a4n) < (0 : Int))) with hb4 | hb4
  · skip
    have hb4p := of_decide_eq_true hb4
    refine c_true (b := (decide ((szl lf a4n) < (0 : Int)))) (by kernel_rfl) hb4 ?_
    refine wp_seq ?_
    refine c_reg ?_
    refine q_seg (S := (fun x_ => St w x_ [Res.box blk2 [Value.int .i64 a0, Value.int .i64 a1, Value.int .i64 a2, Value.int .i64 a3, Value.slice a4A a4n a4c, Value.int .i64 a5] 26])) [(4, Value.int .i64 (-1))] [.no] True (by kernel_rfl) trivial hS3 ?_
    refine l_nil rfl ?_
    refine then_n ?_
    refine wp_ret ?_
    refine then_r ?_
    exact c_end (S := (fun x_ => St w x_ [Res.box blk2 [Value.int .i64 a0, Value.int .i64 a1, Value.int .i64 a2, Value.int .i64 a3, Value.slice a4A a4n a4c, Value.int .i64 a5] 26])) (rs := [.tmp 4]) rfl [] (v := Value.int .i64 (-1)) (C := True) (by kernel_rfl) trivial hS3 ((hS3.rv (congrArg (Value.int .i64) (by unfold szl at *; split <;> omega))))
  · skip
    have hb4p := of_decide_eq_false hb4
    refine c_false (b := (decide ((szl lf a4n) < (0 : Int)))) (by kernel_rfl) hb4 ?_
    refine wp_skip ?_
    refine then_n ?_
    refine wp_seq ?_
    refine c_reg ?_
    refine q_seg (S := (fun x_ => St w x_ [Res.box blk2 [Value.int .i64 a0, Value.int .i64 a1, Value.int .i64 a2, Value.int .i64 a3, Value.slice a4A a4n a4c, Value.int .i64 a5] 26])) [(4, Value.int .i64 (szl lf a4n)), (11, Value.int .i64 (szl lf a4n))] [.no, .no] True (by kernel_rfl) trivial hS3 ?_
    refine l_nil rfl ?_
    refine then_n ?_
    refine wp_ret ?_
    exact c_end (S := (fun x_ => St w x_ [Res.box blk2 [Value.int .i64 a0, Value.int .i64 a1, Value.int .i64 a2, Value.int .i64 a3, Value.slice a4A a4n a4c, Value.int .i64 a5] 26])) (rs := [.tmp 4]) rfl [] (v := Value.int .i64 (szl lf a4n)) (C := True) (by kernel_rfl) trivial hS3 ((hS3.rv (congrArg (Value.int .i64) (by unfold szl at *; split <;> omega))))
theorem markRadioPacket_c (a0 : Int) (a1 : Int) (a2 : Int) (a3 : Int) (a5 : Int) (a4A : Option Addr) (a4n a4c : Nat) (k0 : Int) (xs : List Value) (tl : List Res) (w0 w : World) (hS : St w0 w (Res.row (Value.slice a4A a4n a4c) 5 1 a4n xs :: tl)) (hk1 : -1099511627776 ≤ k0) (hk2 : k0 ≤ 1099511627776) (hn : a4n ≤ 1099511627776) : Calls Try.prog 17 #[Value.agg #[Value.int .i64 a0, Value.int .i64 a1, Value.int .i64 a2, Value.int .i64 a3, Value.slice a4A a4n a4c, Value.int .i64 a5], .int .i64 k0] w (fun e w' => ∃ v own', e = .returned v ∧ St w0 w' own' ∧ (v = .int .i64 (k0 + ((a4n : Nat) : Int)) ∧ own' = (Res.row (Value.slice a4A a4n a4c) 5 1 a4n ((marks (IntKind.wrap .u8) k0 a4n).map (Value.int .u8)) :: tl))) := by
  refine calls_FA Try.func17 rfl (n := 10) rfl (l := [(0, Value.agg #[Value.int .i64 a0, Value.int .i64 a1, Value.int .i64 a2, Value.int .i64 a3, Value.slice a4A a4n a4c, Value.int .i64 a5]), (1, Value.int .i64 k0)]) rfl (by simp) (fun g => ?_)
  refine wp_seq ?_
  refine c_reg ?_
  refine l_op rfl rfl (fun K hK => op_box (d := some 2) rfl rfl [Value.int .i64 a0, Value.int .i64 a1, Value.int .i64 a2, Value.int .i64 a3, Value.slice a4A a4n a4c, Value.int .i64 a5] (by kernel_rfl) hS (fun blk2 w1 hS1 => hK _ _ ?_))
  clear hK K
  refine q_seg (S := (fun x_ => St w0 x_ (Res.box blk2 [Value.int .i64 a0, Value.int .i64 a1, Value.int .i64 a2, Value.int .i64 a3, Value.slice a4A a4n a4c, Value.int .i64 a5] 34 :: Res.row (Value.slice a4A a4n a4c) 5 1 a4n xs :: tl))) [(4, Value.int .i64 0)] [.no] True (by kernel_rfl) trivial hS1 ?_
  refine l_nil rfl ?_
  refine then_n ?_
  refine wp_seq ?_
  refine c_reg ?_
  refine q_seg (S := (fun x_ => St w0 x_ (Res.box blk2 [Value.int .i64 a0, Value.int .i64 a1, Value.int .i64 a2, Value.int .i64 a3, Value.slice a4A a4n a4c, Value.int .i64 a5] 34 :: Res.row (Value.slice a4A a4n a4c) 5 1 a4n xs :: tl))) [(7, Value.int .i64 k0), (6, Value.agg #[Value.int .i64 a2, Value.int .i64 a3, Value.slice a4A a4n a4c, Value.int .i64 a5]), (5, Value.pointer (some ⟨blk2, 0 + 2, none⟩))] [.no, .v (Value.agg #[Value.int .i64 a2, Value.int .i64 a3, Value.slice a4A a4n a4c, Value.int .i64 a5]), .no] ((LoadsAt Try.prog (fun x_ => St w0 x_ (Res.box blk2 [Value.int .i64 a0, Value.int .i64 a1, Value.int .i64 a2, Value.int .i64 a3, Value.slice a4A a4n a4c, Value.int .i64 a5] 34 :: Res.row (Value.slice a4A a4n a4c) 5 1 a4n xs :: tl)) 32 ⟨blk2, 0 + 2, none⟩ (Value.agg #[Value.int .i64 a2, Value.int .i64 a3, Value.slice a4A a4n a4c, Value.int .i64 a5]))) (by kernel_rfl) (ld_boxN (i := 0) (k := 4) rfl rfl rfl (by kernel_rfl)) hS1 ?_
  refine l_op rfl rfl (fun K hK => op_callm (d := some 8) rfl rfl ⟨_, Try.func51, by kernel_rfl, by kernel_rfl⟩ (vs := [Value.agg #[Value.int .i64 a2, Value.int .i64 a3, Value.slice a4A a4n a4c, Value.int .i64 a5], Value.int .i64 k0]) (by kernel_rfl) (markSecuredMessage_c a2 a3 a5 a4A a4n a4c k0 _ _ w0 w1 (hS1.front 1 rfl) (by omega) (by omega) (by omega)) (fun v4 new5 w3 Rw3 hS3 => hK _ _ ?_))
  clear hK K
  obtain ⟨rfl, rfl⟩ := Rw3
  refine q_seg (S := (fun x_ => St w0 x_ (Res.row (Value.slice a4A a4n a4c) 5 1 a4n ((marks (IntKind.wrap .u8) k0 a4n).map (Value.int .u8)) :: Res.box blk2 [Value.int .i64 a0, Value.int .i64 a1, Value.int .i64 a2, Value.int .i64 a3, Value.slice a4A a4n a4c, Value.int .i64 a5] 34 :: tl))) [(1, Value.int .i64 (k0 + ((a4n : Nat) : Int)))] [.no] True (by kernel_rfl) trivial hS3 ?_
  refine l_nil rfl ?_
  refine then_n ?_
  refine wp_seq ?_
  refine c_reg ?_
  refine q_seg (S := (fun x_ => St w0 x_ (Res.row (Value.slice a4A a4n a4c) 5 1 a4n ((marks (IntKind.wrap .u8) k0 a4n).map (Value.int .u8)) :: Res.box blk2 [Value.int .i64 a0, Value.int .i64 a1, Value.int .i64 a2, Value.int .i64 a3, Value.slice a4A a4n a4c, Value.int .i64 a5] 34 :: tl))) [(4, Value.int .i64 (k0 + ((a4n : Nat) : Int))), (9, Value.int .i64 (k0 + ((a4n : Nat) : Int)))] [.no, .no] True (by kernel_rfl) trivial hS3 ?_
  refine l_nil rfl ?_
  refine then_n ?_
  refine wp_ret ?_
  have hS3s1 : St w0 w3 (Res.row (Value.slice a4A a4n a4c) 5 1 a4n ((marks (IntKind.wrap .u8) k0 a4n).map (Value.int .u8)) :: tl) := (hS3.sub (List.Sublist.cons_cons _ (List.Sublist.cons _ (List.Sublist.refl _))))
  exact c_end (S := (fun x_ => St w0 x_ (Res.row (Value.slice a4A a4n a4c) 5 1 a4n ((marks (IntKind.wrap .u8) k0 a4n).map (Value.int .u8)) :: Res.box blk2 [Value.int .i64 a0, Value.int .i64 a1, Value.int .i64 a2, Value.int .i64 a3, Value.slice a4A a4n a4c, Value.int .i64 a5] 34 :: tl))) (rs := [.tmp 4]) rfl [] (v := Value.int .i64 (k0 + ((a4n : Nat) : Int))) (C := True) (by kernel_rfl) trivial hS3 (⟨_, _, rfl, hS3s1, rfl, rfl⟩)
theorem heldRadioPacket_c (a0 : Int) (a1 : Int) (a2 : Int) (a3 : Int) (a5 : Int) (a4A : Option Addr) (a4n a4c : Nat) (k0 : Int) (w : World) (hk1 : 0 ≤ k0) (hk2 : k0 ≤ 1099511627776) (hn : a4n ≤ 1099511627776) (hr : Rd w w.heap.size a4A a4n ((marks (IntKind.wrap .u8) k0 a4n).map (Value.int .u8))) : Calls Try.prog 40 #[Value.agg #[Value.int .i64 a0, Value.int .i64 a1, Value.int .i64 a2, Value.int .i64 a3, Value.slice a4A a4n a4c, Value.int .i64 a5], .int .i64 k0] w (RetV w (.int .i64 (k0 + ((a4n : Nat) : Int)))) := by
  refine calls_FA Try.func40 rfl (n := 12) rfl (l := [(0, Value.agg #[Value.int .i64 a0, Value.int .i64 a1, Value.int .i64 a2, Value.int .i64 a3, Value.slice a4A a4n a4c, Value.int .i64 a5]), (1, Value.int .i64 k0)]) rfl (by simp) (fun g => ?_)
  have hS := St.init w
  refine wp_seq ?_
  refine c_reg ?_
  refine l_op rfl rfl (fun K hK => op_box (d := some 2) rfl rfl [Value.int .i64 a0, Value.int .i64 a1, Value.int .i64 a2, Value.int .i64 a3, Value.slice a4A a4n a4c, Value.int .i64 a5] (by kernel_rfl) hS (fun blk2 w1 hS1 => hK _ _ ?_))
  clear hK K
  refine q_seg (S := (fun x_ => St w x_ [Res.box blk2 [Value.int .i64 a0, Value.int .i64 a1, Value.int .i64 a2, Value.int .i64 a3, Value.slice a4A a4n a4c, Value.int .i64 a5] 34])) [(4, Value.int .i64 0)] [.no] True (by kernel_rfl) trivial hS1 ?_
  refine l_nil rfl ?_
  refine then_n ?_
  refine wp_seq ?_
  refine c_reg ?_
  refine q_seg (S := (fun x_ => St w x_ [Res.box blk2 [Value.int .i64 a0, Value.int .i64 a1, Value.int .i64 a2, Value.int .i64 a3, Value.slice a4A a4n a4c, Value.int .i64 a5] 34])) [(7, Value.int .i64 k0), (6, Value.agg #[Value.int .i64 a2, Value.int .i64 a3, Value.slice a4A a4n a4c, Value.int .i64 a5]), (5, Value.pointer (some ⟨blk2, 0 + 2, none⟩))] [.no, .v (Value.agg #[Value.int .i64 a2, Value.int .i64 a3, Value.slice a4A a4n a4c, Value.int .i64 a5]), .no] ((LoadsAt Try.prog (fun x_ => St w x_ [Res.box blk2 [Value.int .i64 a0, Value.int .i64 a1, Value.int .i64 a2, Value.int .i64 a3, Value.slice a4A a4n a4c, Value.int .i64 a5] 34]) 32 ⟨blk2, 0 + 2, none⟩ (Value.agg #[Value.int .i64 a2, Value.int .i64 a3, Value.slice a4A a4n a4c, Value.int .i64 a5]))) (by kernel_rfl) (ld_boxN (i := 0) (k := 4) rfl rfl rfl (by kernel_rfl)) hS1 ?_
  refine l_op rfl rfl (fun K hK => op_callv (d := some 8) rfl rfl ⟨_, Try.func76, by kernel_rfl, by kernel_rfl⟩ (vs := [Value.agg #[Value.int .i64 a2, Value.int .i64 a3, Value.slice a4A a4n a4c, Value.int .i64 a5], Value.int .i64 k0]) (by kernel_rfl) (v := Value.int .i64 (k0 + ((a4n : Nat) : Int))) (heldSecuredMessage_c a2 a3 a5 a4A a4n a4c k0 w1 (by omega) (by omega) (by omega) (hS1.rdlow hr)) hS1 (fun w3 hS3 => hK _ _ ?_))
  clear hK K
  refine q_seg (S := (fun x_ => St w x_ [Res.box blk2 [Value.int .i64 a0, Value.int .i64 a1, Value.int .i64 a2, Value.int .i64 a3, Value.slice a4A a4n a4c, Value.int .i64 a5] 34])) [(1, Value.int .i64 (k0 + ((a4n : Nat) : Int)))] [.no] True (by kernel_rfl) trivial hS3 ?_
  refine l_nil rfl ?_
  refine then_n ?_
  refine wp_seq ?_
  refine wp_seq ?_
  refine c_reg ?_
  refine q_seg (S := (fun x_ => St w x_ [Res.box blk2 [Value.int .i64 a0, Value.int .i64 a1, Value.int .i64 a2, Value.int .i64 a3, Value.slice a4A a4n a4c, Value.int .i64 a5] 34])) [(10, Value.bool (decide ((k0 + ((a4n : Nat) : Int)) < (0 : Int)))), (9, Value.int .i64 (k0 + ((a4n : Nat) : Int)))] [.no, .no] True (by kernel_rfl) trivial hS3 ?_
  refine l_nil rfl ?_
  refine then_n ?_
  refine c_false (b := (decide ((k0 + ((a4n : Nat) : Int)) < (0 : Int)))) (by kernel_rfl) (decide_eq_false (by omega)) ?_
  refine wp_skip ?_
  refine then_n ?_
  refine wp_seq ?_
  refine c_reg ?_
  refine q_seg (S := (fun x_ => St w x_ [Res.box blk2 [Value.int .i64 a0, Value.int .i64 a1, Value.int .i64 a2, Value.int .i64 a3, Value.slice a4A a4n a4c, Value.int .i64 a5] 34])) [(4, Value.int .i64 (k0 + ((a4n : Nat) : Int))), (11, Value.int .i64 (k0 + ((a4n : Nat) : Int)))] [.no, .no] True (by kernel_rfl) trivial hS3 ?_
  refine l_nil rfl ?_
  refine then_n ?_
  refine wp_ret ?_
  exact c_end (S := (fun x_ => St w x_ [Res.box blk2 [Value.int .i64 a0, Value.int .i64 a1, Value.int .i64 a2, Value.int .i64 a3, Value.slice a4A a4n a4c, Value.int .i64 a5] 34])) (rs := [.tmp 4]) rfl [] (v := Value.int .i64 (k0 + ((a4n : Nat) : Int))) (C := True) (by kernel_rfl) trivial hS3 ((hS3.rv rfl))
theorem toNumberedPacket_c (a0 : Int) (a1A : Option Addr) (a1n a1c : Nat) (a1z : List Int) (w : World) (a1h : Rd w w.heap.size a1A a1n (a1z.map (Value.int .u8))) (a1w : a1n ≤ 1099511627776) (a1o : okz .u8 a1z) : Calls Try.prog 43 #[Value.agg #[Value.int .i64 a0, Value.slice a1A a1n a1c]] w (Ret w (fun v new => ∃ (A0_ : Option Addr) (c0_ : Nat), v = Value.agg #[Value.int .i64 a0, Value.slice A0_ a1n c0_] ∧ new = [Res.row (Value.slice A0_ a1n c0_) 5 1 a1n (a1z.map (Value.int .u8))])) := by
  have a1l := a1h.len
  refine calls_FA Try.func43 rfl (n := 12) rfl (l := [(0, Value.agg #[Value.int .i64 a0, Value.slice a1A a1n a1c])]) rfl (by simp) (fun g => ?_)
  have hS := St.init w
  refine wp_seq ?_
  refine c_reg ?_
  refine l_op rfl rfl (fun K hK => op_box (d := some 1) rfl rfl [Value.int .i64 a0, Value.slice a1A a1n a1c] (by kernel_rfl) hS (fun blk2 w1 hS1 => hK _ _ ?_))
  clear hK K
  refine l_op rfl rfl (fun K hK => op_alloc (d := some 2) rfl rfl [Value.int .i64 0, Value.slice none 0 0] (by kernel_rfl) hS1 (fun blk4 w3 hS3 => hK _ _ ?_))
  clear hK K
  refine l_nil rfl ?_
  refine then_n ?_
  refine wp_seq ?_
  refine c_reg ?_
  refine l_op rfl rfl (fun K hK => op_alloc (d := some 3) rfl rfl [Value.int .i64 0, Value.slice none 0 0] (by kernel_rfl) hS3 (fun blk6 w5 hS5 => hK _ _ ?_))
  clear hK K
  refine l_nil rfl ?_
  refine then_n ?_
  refine wp_seq ?_
  refine c_reg ?_
  refine q_seg (S := (fun x_ => St w x_ [Res.box blk6 [Value.int .i64 0, Value.slice none 0 0] 29, Res.box blk4 [Value.int .i64 0, Value.slice none 0 0] 29, Res.box blk2 [Value.int .i64 a0, Value.slice a1A a1n a1c] 57])) [(6, Value.pointer (some ⟨blk6, 0 + 0, none⟩)), (5, Value.int .i64 a0), (4, Value.pointer (some ⟨blk2, 0 + 0, none⟩))] [.no, .v (Value.int .i64 a0), .no] ((LoadsAt Try.prog (fun x_ => St w x_ [Res.box blk6 [Value.int .i64 0, Value.slice none 0 0] 29, Res.box blk4 [Value.int .i64 0, Value.slice none 0 0] 29, Res.box blk2 [Value.int .i64 a0, Value.slice a1A a1n a1c] 57]) 3 ⟨blk2, 0 + 0, none⟩ (Value.int .i64 a0))) (by kernel_rfl) (ld_box (i := 2) rfl rfl (by kernel_rfl)) hS5 ?_
  refine l_op rfl rfl (fun K hK => op_store (d := none) rfl rfl (i := 0) (b := blk6) (off := 0 + 0) (cs := [Value.int .i64 0, Value.slice none 0 0]) (bt := 29) (by kernel_rfl) (by kernel_rfl) [Value.int .i64 a0] (by kernel_rfl) (by kernel_rfl) (Nat.le_of_ble_eq_true (by kernel_rfl)) (by kernel_rfl) [Res.box blk6 [Value.int .i64 a0, Value.slice none 0 0] 29, Res.box blk4 [Value.int .i64 0, Value.slice none 0 0] 29, Res.box blk2 [Value.int .i64 a0, Value.slice a1A a1n a1c] 57] (by kernel_rfl) hS5 (fun w7 hS7 => hK _ _ ?_))
  clear hK K
  refine l_nil rfl ?_
  refine then_n ?_
  refine wp_seq ?_
  refine c_reg ?_
  refine q_seg (S := (fun x_ => St w x_ [Res.box blk6 [Value.int .i64 a0, Value.slice none 0 0] 29, Res.box blk4 [Value.int .i64 0, Value.slice none 0 0] 29, Res.box blk2 [Value.int .i64 a0, Value.slice a1A a1n a1c] 57])) [(8, Value.slice a1A a1n a1c), (7, Value.pointer (some ⟨blk2, 0 + 1, none⟩))] [.no, .v (Value.slice a1A a1n a1c)] ((LoadsAt Try.prog (fun x_ => St w x_ [Res.box blk6 [Value.int .i64 a0, Value.slice none 0 0] 29, Res.box blk4 [Value.int .i64 0, Value.slice none 0 0] 29, Res.box blk2 [Value.int .i64 a0, Value.slice a1A a1n a1c] 57]) 22 ⟨blk2, 0 + 1, none⟩ (Value.slice a1A a1n a1c))) (by kernel_rfl) (ld_box (i := 2) rfl rfl (by kernel_rfl)) hS7 ?_
  refine l_op rfl rfl (fun K hK => op_call (d := some 9) rfl rfl ⟨_, Try.func39, by kernel_rfl, by kernel_rfl⟩ (vs := [Value.slice a1A a1n a1c]) (by kernel_rfl) (toByteS_c a1A a1n a1c a1z w7 (by omega) (hS7.rdlow a1h)) hS7 (fun v9 new10 w8 Rw8 hS8 => hK _ _ ?_))
  clear hK K
  obtain ⟨blk11, rfl, rfl⟩ := Rw8
  refine q_seg (S := (fun x_ => St w x_ [Res.row (Value.slice (some ⟨blk11, 0, none⟩) a1n a1n) 5 1 a1n (a1z.map (Value.int .u8)), Res.box blk6 [Value.int .i64 a0, Value.slice none 0 0] 29, Res.box blk4 [Value.int .i64 0, Value.slice none 0 0] 29, Res.box blk2 [Value.int .i64 a0, Value.slice a1A a1n a1c] 57])) [(10, Value.pointer (some ⟨blk6, 0 + 1, none⟩))] [.no] True (by kernel_rfl) trivial hS8 ?_
  refine l_op rfl rfl (fun K hK => op_store (d := none) rfl rfl (i := 1) (b := blk6) (off := 0 + 1) (cs := [Value.int .i64 a0, Value.slice none 0 0]) (bt := 29) (by kernel_rfl) (by kernel_rfl) [Value.slice (some ⟨blk11, 0, none⟩) a1n a1n] (by kernel_rfl) (by kernel_rfl) (Nat.le_of_ble_eq_true (by kernel_rfl)) (by kernel_rfl) [Res.row (Value.slice (some ⟨blk11, 0, none⟩) a1n a1n) 5 1 a1n (a1z.map (Value.int .u8)), Res.box blk6 [Value.int .i64 a0, Value.slice (some ⟨blk11, 0, none⟩) a1n a1n] 29, Res.box blk4 [Value.int .i64 0, Value.slice none 0 0] 29, Res.box blk2 [Value.int .i64 a0, Value.slice a1A a1n a1c] 57] (by kernel_rfl) hS8 (fun w12 hS12 => hK _ _ ?_))
  clear hK K
  refine l_nil rfl ?_
  refine then_n ?_
  refine wp_seq ?_
  refine c_reg ?_
  refine q_seg (S := (fun x_ => St w x_ [Res.row (Value.slice (some ⟨blk11, 0, none⟩) a1n a1n) 5 1 a1n (a1z.map (Value.int .u8)), Res.box blk6 [Value.int .i64 a0, Value.slice (some ⟨blk11, 0, none⟩) a1n a1n] 29, Res.box blk4 [Value.int .i64 0, Value.slice none 0 0] 29, Res.box blk2 [Value.int .i64 a0, Value.slice a1A a1n a1c] 57])) [(11, Value.agg #[Value.int .i64 a0, Value.slice (some ⟨blk11, 0, none⟩) a1n a1n])] [.v (Value.agg #[Value.int .i64 a0, Value.slice (some ⟨blk11, 0, none⟩) a1n a1n])] ((LoadsAt Try.prog (fun x_ => St w x_ [Res.row (Value.slice (some ⟨blk11, 0, none⟩) a1n a1n) 5 1 a1n (a1z.map (Value.int .u8)), Res.box blk6 [Value.int .i64 a0, Value.slice (some ⟨blk11, 0, none⟩) a1n a1n] 29, Res.box blk4 [Value.int .i64 0, Value.slice none 0 0] 29, Res.box blk2 [Value.int .i64 a0, Value.slice a1A a1n a1c] 57]) 29 ⟨blk6, 0, none⟩ (Value.agg #[Value.int .i64 a0, Value.slice (some ⟨blk11, 0, none⟩) a1n a1n]))) (by kernel_rfl) (ld_boxN (i := 1) (k := 2) rfl rfl rfl (by kernel_rfl)) hS12 ?_
  refine l_op rfl rfl (fun K hK => op_store (d := none) rfl rfl (i := 2) (b := blk4) (off := 0) (cs := [Value.int .i64 0, Value.slice none 0 0]) (bt := 29) (by kernel_rfl) (by kernel_rfl) [Value.int .i64 a0, Value.slice (some ⟨blk11, 0, none⟩) a1n a1n] (by kernel_rfl) (by kernel_rfl) (Nat.le_of_ble_eq_true (by kernel_rfl)) (by kernel_rfl) [Res.row (Value.slice (some ⟨blk11, 0, none⟩) a1n a1n) 5 1 a1n (a1z.map (Value.int .u8)), Res.box blk6 [Value.int .i64 a0, Value.slice (some ⟨blk11, 0, none⟩) a1n a1n] 29, Res.box blk4 [Value.int .i64 a0, Value.slice (some ⟨blk11, 0, none⟩) a1n a1n] 29, Res.box blk2 [Value.int .i64 a0, Value.slice a1A a1n a1c] 57] (by kernel_rfl) hS12 (fun w13 hS13 => hK _ _ ?_))
  clear hK K
  refine l_nil rfl ?_
  refine then_n ?_
  refine wp_ret ?_
  have hS13s1 : St w w13 [Res.row (Value.slice (some ⟨blk11, 0, none⟩) a1n a1n) 5 1 a1n (a1z.map (Value.int .u8))] := (hS13.sub (List.Sublist.cons_cons _ (List.Sublist.cons _ (List.Sublist.cons _ (List.Sublist.cons _ List.Sublist.slnil)))))
  exact c_end (S := (fun x_ => St w x_ [Res.row (Value.slice (some ⟨blk11, 0, none⟩) a1n a1n) 5 1 a1n (a1z.map (Value.int .u8)), Res.box blk6 [Value.int .i64 a0, Value.slice (some ⟨blk11, 0, none⟩) a1n a1n] 29, Res.box blk4 [Value.int .i64 a0, Value.slice (some ⟨blk11, 0, none⟩) a1n a1n] 29, Res.box blk2 [Value.int .i64 a0, Value.slice a1A a1n a1c] 57])) (rs := [.cell 2 29]) rfl [Value.agg #[Value.int .i64 a0, Value.slice (some ⟨blk11, 0, none⟩) a1n a1n]] (v := Value.agg #[Value.int .i64 a0, Value.slice (some ⟨blk11, 0, none⟩) a1n a1n]) (C := ((LoadsAt Try.prog (fun x_ => St w x_ [Res.row (Value.slice (some ⟨blk11, 0, none⟩) a1n a1n) 5 1 a1n (a1z.map (Value.int .u8)), Res.box blk6 [Value.int .i64 a0, Value.slice (some ⟨blk11, 0, none⟩) a1n a1n] 29, Res.box blk4 [Value.int .i64 a0, Value.slice (some ⟨blk11, 0, none⟩) a1n a1n] 29, Res.box blk2 [Value.int .i64 a0, Value.slice a1A a1n a1c] 57]) 29 ⟨blk4, 0, none⟩ (Value.agg #[Value.int .i64 a0, Value.slice (some ⟨blk11, 0, none⟩) a1n a1n])))) (by kernel_rfl) (ld_boxN (i := 2) (k := 2) rfl rfl rfl (by kernel_rfl)) hS13 (hS13s1.rt ⟨_, _, rfl, rfl⟩)
theorem eqNumberedPacket_c (a0 : Int) (a1A : Option Addr) (a1n a1c : Nat) (a1z : List Int) (b1A : Option Addr) (b1c : Nat) (w : World) (a1h : Rd w w.heap.size a1A a1n (a1z.map (Value.int .u8))) (a1w : a1n ≤ 1099511627776) (b1h : Rd w w.heap.size b1A a1n (a1z.map (Value.int .u8))) : Calls Try.prog 15 #[Value.agg #[Value.int .i64 a0, Value.slice a1A a1n a1c], Value.agg #[Value.int .i64 a0, Value.slice b1A a1n b1c]] w (RetV w (.bool true)) := by
  have a1l := a1h.len
  refine calls_FA Try.func15 rfl (n := 16) rfl (l := [(0, Value.agg #[Value.int .i64 a0, Value.slice a1A a1n a1c]), (1, Value.agg #[Value.int .i64 a0, Value.slice b1A a1n b1c])]) rfl (by simp) (fun g => ?_)
  have hS := St.init w
  refine wp_seq ?_
  refine c_reg ?_
  refine l_op rfl rfl (fun K hK => op_box (d := some 2) rfl rfl [Value.int .i64 a0, Value.slice a1A a1n a1c] (by kernel_rfl) hS (fun blk2 w1 hS1 => hK _ _ ?_))
  clear hK K
  refine l_op rfl rfl (fun K hK => op_box (d := some 3) rfl rfl [Value.int .i64 a0, Value.slice b1A a1n b1c] (by kernel_rfl) hS1 (fun blk4 w3 hS3 => hK _ _ ?_))
  clear hK K
  refine q_seg (S := (fun x_ => St w x_ [Res.box blk4 [Value.int .i64 a0, Value.slice b1A a1n b1c] 29, Res.box blk2 [Value.int .i64 a0, Value.slice a1A a1n a1c] 29])) [(4, Value.bool false)] [.no] True (by kernel_rfl) trivial hS3 ?_
  refine l_nil rfl ?_
  refine then_n ?_
  refine wp_seq ?_
  refine wp_seq ?_
  refine c_reg ?_
  refine q_seg (S := (fun x_ => St w x_ [Res.box blk4 [Value.int .i64 a0, Value.slice b1A a1n b1c] 29, Res.box blk2 [Value.int .i64 a0, Value.slice a1A a1n a1c] 29])) [(9, Value.bool (!(decide (a0 = a0)))), (8, Value.int .i64 a0), (7, Value.pointer (some ⟨blk4, 0 + 0, none⟩)), (6, Value.int .i64 a0), (5, Value.pointer (some ⟨blk2, 0 + 0, none⟩))] [.no, .v (Value.int .i64 a0), .no, .v (Value.int .i64 a0), .no] ((LoadsAt Try.prog (fun x_ => St w x_ [Res.box blk4 [Value.int .i64 a0, Value.slice b1A a1n b1c] 29, Res.box blk2 [Value.int .i64 a0, Value.slice a1A a1n a1c] 29]) 3 ⟨blk2, 0 + 0, none⟩ (Value.int .i64 a0)) ∧ (LoadsAt Try.prog (fun x_ => St w x_ [Res.box blk4 [Value.int .i64 a0, Value.slice b1A a1n b1c] 29, Res.box blk2 [Value.int .i64 a0, Value.slice a1A a1n a1c] 29]) 3 ⟨blk4, 0 + 0, none⟩ (Value.int .i64 a0))) (by kernel_rfl) ⟨(ld_box (i := 1) rfl rfl (by kernel_rfl)), (ld_box (i := 0) rfl rfl (by kernel_rfl))⟩ hS3 ?_
  refine l_nil rfl ?_
  refine then_n ?_
  refine c_false (b := (!(decide (a0 = a0)))) (by kernel_rfl) (nb (v := true) (decide_eq_true rfl)) ?_
  refine wp_skip ?_
  refine then_n ?_
  refine wp_seq ?_
  refine wp_seq ?_
  refine c_reg ?_
  refine q_seg (S := (fun x_ => St w x_ [Res.box blk4 [Value.int .i64 a0, Value.slice b1A a1n b1c] 29, Res.box blk2 [Value.int .i64 a0, Value.slice a1A a1n a1c] 29])) [(13, Value.slice b1A a1n b1c), (12, Value.pointer (some ⟨blk4, 0 + 1, none⟩)), (11, Value.slice a1A a1n a1c), (10, Value.pointer (some ⟨blk2, 0 + 1, none⟩))] [.no, .v (Value.slice a1A a1n a1c), .no, .v (Value.slice b1A a1n b1c)] ((LoadsAt Try.prog (fun x_ => St w x_ [Res.box blk4 [Value.int .i64 a0, Value.slice b1A a1n b1c] 29, Res.box blk2 [Value.int .i64 a0, Value.slice a1A a1n a1c] 29]) 22 ⟨blk2, 0 + 1, none⟩ (Value.slice a1A a1n a1c)) ∧ (LoadsAt Try.prog (fun x_ => St w x_ [Res.box blk4 [Value.int .i64 a0, Value.slice b1A a1n b1c] 29, Res.box blk2 [Value.int .i64 a0, Value.slice a1A a1n a1c] 29]) 22 ⟨blk4, 0 + 1, none⟩ (Value.slice b1A a1n b1c))) (by kernel_rfl) ⟨(ld_box (i := 1) rfl rfl (by kernel_rfl)), (ld_box (i := 0) rfl rfl (by kernel_rfl))⟩ hS3 ?_
  refine l_op rfl rfl (fun K hK => op_callv (d := some 14) rfl rfl ⟨_, Try.func35, by kernel_rfl, by kernel_rfl⟩ (vs := [Value.slice a1A a1n a1c, Value.slice b1A a1n b1c]) (by kernel_rfl) (v := Value.bool true) (eqByteS_c a1A b1A a1n a1c b1c a1z w3 (by omega) (hS3.rdlow a1h) (hS3.rdlow b1h)) hS3 (fun w5 hS5 => hK _ _ ?_))
  clear hK K
  refine q_seg (S := (fun x_ => St w x_ [Res.box blk4 [Value.int .i64 a0, Value.slice b1A a1n b1c] 29, Res.box blk2 [Value.int .i64 a0, Value.slice a1A a1n a1c] 29])) [(15, Value.bool false)] [.no] True (by kernel_rfl) trivial hS5 ?_
  refine l_nil rfl ?_
  refine then_n ?_
  refine c_false (b := false) (by kernel_rfl) rfl ?_
  refine wp_skip ?_
  refine then_n ?_
  refine wp_seq ?_
  refine c_reg ?_
  refine q_seg (S := (fun x_ => St w x_ [Res.box blk4 [Value.int .i64 a0, Value.slice b1A a1n b1c] 29, Res.box blk2 [Value.int .i64 a0, Value.slice a1A a1n a1c] 29])) [(4, Value.bool true)] [.no] True (by kernel_rfl) trivial hS5 ?_
  refine l_nil rfl ?_
  refine then_n ?_
  refine wp_ret ?_
  exact c_end (S := (fun x_ => St w x_ [Res.box blk4 [Value.int .i64 a0, Value.slice b1A a1n b1c] 29, Res.box blk2 [Value.int .i64 a0, Value.slice a1A a1n a1c] 29])) (rs := [.tmp 4]) rfl [] (v := Value.bool true) (C := True) (by kernel_rfl) trivial hS5 ((hS5.rv rfl))
theorem szNumberedPacket_c (a0 : Int) (a1A : Option Addr) (a1n a1c : Nat) (lf : Int) (w : World) (h1 : 0 ≤ lf) (h2 : lf ≤ 1099511627776) (a1w : a1n ≤ 9223372036854775807) : Calls Try.prog 41 #[Value.agg #[Value.int .i64 a0, Value.slice a1A a1n a1c], .int .i64 lf] w (RetV w (.int .i64 (szl lf a1n))) := by
  refine calls_FA Try.func41 rfl (n := 12) rfl (l := [(0, Value.agg #[Value.int .i64 a0, Value.slice a1A a1n a1c]), (1, Value.int .i64 lf)]) rfl (by simp) (fun g => ?_)
  have hS := St.init w
  refine wp_seq ?_
  refine c_reg ?_
  refine l_op rfl rfl (fun K hK => op_box (d := some 2) rfl rfl [Value.int .i64 a0, Value.slice a1A a1n a1c] (by kernel_rfl) hS (fun blk2 w1 hS1 => hK _ _ ?_))
  clear hK K
  refine q_seg (S := (fun x_ => St w x_ [Res.box blk2 [Value.int .i64 a0, Value.slice a1A a1n a1c] 57])) [(4, Value.int .i64 0)] [.no] True (by kernel_rfl) trivial hS1 ?_
  refine l_nil rfl ?_
  refine then_n ?_
  refine wp_seq ?_
  refine c_reg ?_
  refine q_seg (S := (fun x_ => St w x_ [Res.box blk2 [Value.int .i64 a0, Value.slice a1A a1n a1c] 57])) [(7, Value.int .i64 lf), (6, Value.slice a1A a1n a1c), (5, Value.pointer (some ⟨blk2, 0 + 1, none⟩))] [.no, .v (Value.slice a1A a1n a1c), .no] ((LoadsAt Try.prog (fun x_ => St w x_ [Res.box blk2 [Value.int .i64 a0, Value.slice a1A a1n a1c] 57]) 22 ⟨blk2, 0 + 1, none⟩ (Value.slice a1A a1n a1c))) (by kernel_rfl) (ld_box (i := 0) rfl rfl (by kernel_rfl)) hS1 ?_
  refine l_op rfl rfl (fun K hK => op_callv (d := some 8) rfl rfl ⟨_, Try.func77, by kernel_rfl, by kernel_rfl⟩ (vs := [Value.slice a1A a1n a1c, Value.int .i64 lf]) (by kernel_rfl) (v := Value.int .i64 (szl lf a1n)) (szByteS_c a1A a1n a1c lf w1 (by omega) (by omega) (by omega)) hS1 (fun w3 hS3 => hK _ _ ?_))
  clear hK K
  refine q_seg (S := (fun x_ => St w x_ [Res.box blk2 [Value.int .i64 a0, Value.slice a1A a1n a1c] 57])) [(1, Value.int .i64 (szl lf a1n))] [.no] True (by kernel_rfl) trivial hS3 ?_
  refine l_nil rfl ?_
  refine then_n ?_
  refine wp_seq ?_
  refine wp_seq ?_
  refine c_reg ?_
  refine q_seg (S := (fun x_ => St w x_ [Res.box blk2 [Value.int .i64 a0, Value.slice a1A a1n a1c] 57])) [(10, Value.bool (decide ((szl lf a1n) < (0 : Int)))), (9, Value.int .i64 (szl lf a1n))] [.no, .no] True (by kernel_rfl) trivial hS3 ?_
  refine l_nil rfl ?_
  refine then_n ?_
  rcases Bool.eq_false_or_eq_true (decide ((szl lf a1n) < (0 : Int))) with hb4 | hb4
  · skip
    have hb4p := of_decide_eq_true hb4
    refine c_true (b := (decide ((szl lf a1n) < (0 : Int)))) (by kernel_rfl) hb4 ?_
    refine wp_seq ?_
    refine c_reg ?_
    refine q_seg (S := (fun x_ => St w x_ [Res.box blk2 [Value.int .i64 a0, Value.slice a1A a1n a1c] 57])) [(4, Value.int .i64 (-1))] [.no] True (by kernel_rfl) trivial hS3 ?_
    refine l_nil rfl ?_
    refine then_n ?_
    refine wp_ret ?_
    refine then_r ?_
    exact c_end (S := (fun x_ => St w x_ [Res.box blk2 [Value.int .i64 a0, Value.slice a1A a1n a1c] 57])) (rs := [.tmp 4]) rfl [] (v := Value.int .i64 (-1)) (C := True) (by kernel_rfl) trivial hS3 ((hS3.rv (congrArg (Value.int .i64) (by unfold szl at *; split <;> omega))))
  · skip
    have hb4p := of_decide_eq_false hb4
    refine c_false (b := (decide ((szl lf a1n) < (0 : Int)))) (by kernel_rfl) hb4 ?_
    refine wp_skip ?_
    refine then_n ?_
    refine wp_seq ?_
    refine c_reg ?_
    refine q_seg (S := (fun x_ => St w x_ [Res.box blk2 [Value.int .i64 a0, Value.slice a1A a1n a1c] 57])) [(4, Value.int .i64 (szl lf a1n)), (11, Value.int .i64 (szl lf a1n))] [.no, .no] True (by kernel_rfl) trivial hS3 ?_
    refine l_nil rfl ?_
    refine then_n ?_
    refine wp_ret ?_
    exact c_end (S := (fun x_ => St w x_ [Res.box blk2 [Value.int .i64 a0, Value.slice a1A a1n a1c] 57])) (rs := [.tmp 4]) rfl [] (v := Value.int .i64 (szl lf a1n)) (C := True) (by kernel_rfl) trivial hS3 ((hS3.rv (congrArg (Value.int .i64) (by unfold szl at *; split <;> omega))))
theorem markNumberedPacket_c (a0 : Int) (a1A : Option Addr) (a1n a1c : Nat) (k0 : Int) (xs : List Value) (tl : List Res) (w0 w : World) (hS : St w0 w (Res.row (Value.slice a1A a1n a1c) 5 1 a1n xs :: tl)) (hk1 : -1099511627776 ≤ k0) (hk2 : k0 ≤ 1099511627776) (hn : a1n ≤ 1099511627776) : Calls Try.prog 18 #[Value.agg #[Value.int .i64 a0, Value.slice a1A a1n a1c], .int .i64 k0] w (fun e w' => ∃ v own', e = .returned v ∧ St w0 w' own' ∧ (v = .int .i64 (k0 + ((a1n : Nat) : Int)) ∧ own' = (Res.row (Value.slice a1A a1n a1c) 5 1 a1n ((marks (IntKind.wrap .u8) k0 a1n).map (Value.int .u8)) :: tl))) := by
  refine calls_FA Try.func18 rfl (n := 10) rfl (l := [(0, Value.agg #[Value.int .i64 a0, Value.slice a1A a1n a1c]), (1, Value.int .i64 k0)]) rfl (by simp) (fun g => ?_)
  refine wp_seq ?_
  refine c_reg ?_
  refine l_op rfl rfl (fun K hK => op_box (d := some 2) rfl rfl [Value.int .i64 a0, Value.slice a1A a1n a1c] (by kernel_rfl) hS (fun blk2 w1 hS1 => hK _ _ ?_))
  clear hK K
  refine q_seg (S := (fun x_ => St w0 x_ (Res.box blk2 [Value.int .i64 a0, Value.slice a1A a1n a1c] 29 :: Res.row (Value.slice a1A a1n a1c) 5 1 a1n xs :: tl))) [(4, Value.int .i64 0)] [.no] True (by kernel_rfl) trivial hS1 ?_
  refine l_nil rfl ?_
  refine then_n ?_
  refine wp_seq ?_
  refine c_reg ?_
  refine q_seg (S := (fun x_ => St w0 x_ (Res.box blk2 [Value.int .i64 a0, Value.slice a1A a1n a1c] 29 :: Res.row (Value.slice a1A a1n a1c) 5 1 a1n xs :: tl))) [(7, Value.int .i64 k0), (6, Value.slice a1A a1n a1c), (5, Value.pointer (some ⟨blk2, 0 + 1, none⟩))] [.no, .v (Value.slice a1A a1n a1c), .no] ((LoadsAt Try.prog (fun x_ => St w0 x_ (Res.box blk2 [Value.int .i64 a0, Value.slice a1A a1n a1c] 29 :: Res.row (Value.slice a1A a1n a1c) 5 1 a1n xs :: tl)) 22 ⟨blk2, 0 + 1, none⟩ (Value.slice a1A a1n a1c))) (by kernel_rfl) (ld_box (i := 0) rfl rfl (by kernel_rfl)) hS1 ?_
  refine l_op rfl rfl (fun K hK => op_callm (d := some 8) rfl rfl ⟨_, Try.func36, by kernel_rfl, by kernel_rfl⟩ (vs := [Value.slice a1A a1n a1c, Value.int .i64 k0]) (by kernel_rfl) (markByteS_c a1A a1n a1c k0 _ _ w0 w1 (hS1.front 1 rfl) (by omega) (by omega) (by omega)) (fun v4 new5 w3 Rw3 hS3 => hK _ _ ?_))
  clear hK K
  obtain ⟨rfl, rfl⟩ := Rw3
  refine q_seg (S := (fun x_ => St w0 x_ (Res.row (Value.slice a1A a1n a1c) 5 1 a1n ((marks (IntKind.wrap .u8) k0 a1n).map (Value.int .u8)) :: Res.box blk2 [Value.int .i64 a0, Value.slice a1A a1n a1c] 29 :: tl))) [(1, Value.int .i64 (k0 + ((a1n : Nat) : Int)))] [.no] True (by kernel_rfl) trivial hS3 ?_
  refine l_nil rfl ?_
  refine then_n ?_
  refine wp_seq ?_
  refine c_reg ?_
  refine q_seg (S := (fun x_ => St w0 x_ (Res.row (Value.slice a1A a1n a1c) 5 1 a1n ((marks (IntKind.wrap .u8) k0 a1n).map (Value.int .u8)) :: Res.box blk2 [Value.int .i64 a0, Value.slice a1A a1n a1c] 29 :: tl))) [(4, Value.int .i64 (k0 + ((a1n : Nat) : Int))), (9, Value.int .i64 (k0 + ((a1n : Nat) : Int)))] [.no, .no] True (by kernel_rfl) trivial hS3 ?_
  refine l_nil rfl ?_
  refine then_n ?_
  refine wp_ret ?_
  have hS3s1 : St w0 w3 (Res.row (Value.slice a1A a1n a1c) 5 1 a1n ((marks (IntKind.wrap .u8) k0 a1n).map (Value.int .u8)) :: tl) := (hS3.sub (List.Sublist.cons_cons _ (List.Sublist.cons _ (List.Sublist.refl _))))
  exact c_end (S := (fun x_ => St w0 x_ (Res.row (Value.slice a1A a1n a1c) 5 1 a1n ((marks (IntKind.wrap .u8) k0 a1n).map (Value.int .u8)) :: Res.box blk2 [Value.int .i64 a0, Value.slice a1A a1n a1c] 29 :: tl))) (rs := [.tmp 4]) rfl [] (v := Value.int .i64 (k0 + ((a1n : Nat) : Int))) (C := True) (by kernel_rfl) trivial hS3 (⟨_, _, rfl, hS3s1, rfl, rfl⟩)
theorem heldNumberedPacket_c (a0 : Int) (a1A : Option Addr) (a1n a1c : Nat) (k0 : Int) (w : World) (hk1 : 0 ≤ k0) (hk2 : k0 ≤ 1099511627776) (hn : a1n ≤ 1099511627776) (hr : Rd w w.heap.size a1A a1n ((marks (IntKind.wrap .u8) k0 a1n).map (Value.int .u8))) : Calls Try.prog 19 #[Value.agg #[Value.int .i64 a0, Value.slice a1A a1n a1c], .int .i64 k0] w (RetV w (.int .i64 (k0 + ((a1n : Nat) : Int)))) := by
  refine calls_FA Try.func19 rfl (n := 12) rfl (l := [(0, Value.agg #[Value.int .i64 a0, Value.slice a1A a1n a1c]), (1, Value.int .i64 k0)]) rfl (by simp) (fun g => ?_)
  have hS := St.init w
  refine wp_seq ?_
  refine c_reg ?_
  refine l_op rfl rfl (fun K hK => op_box (d := some 2) rfl rfl [Value.int .i64 a0, Value.slice a1A a1n a1c] (by kernel_rfl) hS (fun blk2 w1 hS1 => hK _ _ ?_))
  clear hK K
  refine q_seg (S := (fun x_ => St w x_ [Res.box blk2 [Value.int .i64 a0, Value.slice a1A a1n a1c] 29])) [(4, Value.int .i64 0)] [.no] True (by kernel_rfl) trivial hS1 ?_
  refine l_nil rfl ?_
  refine then_n ?_
  refine wp_seq ?_
  refine c_reg ?_
  refine q_seg (S := (fun x_ => St w x_ [Res.box blk2 [Value.int .i64 a0, Value.slice a1A a1n a1c] 29])) [(7, Value.int .i64 k0), (6, Value.slice a1A a1n a1c), (5, Value.pointer (some ⟨blk2, 0 + 1, none⟩))] [.no, .v (Value.slice a1A a1n a1c), .no] ((LoadsAt Try.prog (fun x_ => St w x_ [Res.box blk2 [Value.int .i64 a0, Value.slice a1A a1n a1c] 29]) 22 ⟨blk2, 0 + 1, none⟩ (Value.slice a1A a1n a1c))) (by kernel_rfl) (ld_box (i := 0) rfl rfl (by kernel_rfl)) hS1 ?_
  refine l_op rfl rfl (fun K hK => op_callv (d := some 8) rfl rfl ⟨_, Try.func37, by kernel_rfl, by kernel_rfl⟩ (vs := [Value.slice a1A a1n a1c, Value.int .i64 k0]) (by kernel_rfl) (v := Value.int .i64 (k0 + ((a1n : Nat) : Int))) (heldByteS_c a1A a1n a1c k0 w1 (by omega) (by omega) (by omega) (hS1.rdlow hr)) hS1 (fun w3 hS3 => hK _ _ ?_))
  clear hK K
  refine q_seg (S := (fun x_ => St w x_ [Res.box blk2 [Value.int .i64 a0, Value.slice a1A a1n a1c] 29])) [(1, Value.int .i64 (k0 + ((a1n : Nat) : Int)))] [.no] True (by kernel_rfl) trivial hS3 ?_
  refine l_nil rfl ?_
  refine then_n ?_
  refine wp_seq ?_
  refine wp_seq ?_
  refine c_reg ?_
  refine q_seg (S := (fun x_ => St w x_ [Res.box blk2 [Value.int .i64 a0, Value.slice a1A a1n a1c] 29])) [(10, Value.bool (decide ((k0 + ((a1n : Nat) : Int)) < (0 : Int)))), (9, Value.int .i64 (k0 + ((a1n : Nat) : Int)))] [.no, .no] True (by kernel_rfl) trivial hS3 ?_
  refine l_nil rfl ?_
  refine then_n ?_
  refine c_false (b := (decide ((k0 + ((a1n : Nat) : Int)) < (0 : Int)))) (by kernel_rfl) (decide_eq_false (by omega)) ?_
  refine wp_skip ?_
  refine then_n ?_
  refine wp_seq ?_
  refine c_reg ?_
  refine q_seg (S := (fun x_ => St w x_ [Res.box blk2 [Value.int .i64 a0, Value.slice a1A a1n a1c] 29])) [(4, Value.int .i64 (k0 + ((a1n : Nat) : Int))), (11, Value.int .i64 (k0 + ((a1n : Nat) : Int)))] [.no, .no] True (by kernel_rfl) trivial hS3 ?_
  refine l_nil rfl ?_
  refine then_n ?_
  refine wp_ret ?_
  exact c_end (S := (fun x_ => St w x_ [Res.box blk2 [Value.int .i64 a0, Value.slice a1A a1n a1c] 29])) (rs := [.tmp 4]) rfl [] (v := Value.int .i64 (k0 + ((a1n : Nat) : Int))) (C := True) (by kernel_rfl) trivial hS3 ((hS3.rv rfl))
theorem EqualSecured_i_c (a0 : Int) (a1 : Int) (a2A : Option Addr) (a2n a2c : Nat) (a2z : List Int) (a3 : Int) (b0 : Int) (b1 : Int) (b2A : Option Addr) (b2n b2c : Nat) (b2z : List Int) (b3 : Int) (w : World) (a2h : Rd w w.heap.size a2A a2n (a2z.map (Value.int .u8))) (a2w : a2n ≤ 1099511627776) (a2o : okz .u8 a2z) (b2h : Rd w w.heap.size b2A b2n (b2z.map (Value.int .u8))) (b2w : b2n ≤ 1099511627776) (b2o : okz .u8 b2z) : Calls Try.prog 53 #[Value.agg #[Value.int .i64 a0, Value.int .i64 a1, Value.slice a2A a2n a2c, Value.int .i64 a3], Value.agg #[Value.int .i64 b0, Value.int .i64 b1, Value.slice b2A b2n b2c, Value.int .i64 b3]] w (RetV w (.bool (((decide (a0 = b0) && decide (a1 = b1)) && decide (a3 = b3)) && decide (a2z = b2z)))) := by
  have a2l := a2h.len
  have b2l := b2h.len
  refine calls_FA Try.func53 rfl (n := 31) rfl (l := [(0, Value.agg #[Value.int .i64 a0, Value.int .i64 a1, Value.slice a2A a2n a2c, Value.int .i64 a3]), (1, Value.agg #[Value.int .i64 b0, Value.int .i64 b1, Value.slice b2A b2n b2c, Value.int .i64 b3])]) rfl (by simp) (fun g => ?_)
  have hS := St.init w
  refine wp_seq ?_
  refine c_reg ?_
  refine l_op rfl rfl (fun K hK => op_box (d := some 2) rfl rfl [Value.int .i64 a0, Value.int .i64 a1, Value.slice a2A a2n a2c, Value.int .i64 a3] (by kernel_rfl) hS (fun blk2 w1 hS1 => hK _ _ ?_))
  clear hK K
  refine l_op rfl rfl (fun K hK => op_box (d := some 3) rfl rfl [Value.int .i64 b0, Value.int .i64 b1, Value.slice b2A b2n b2c, Value.int .i64 b3] (by kernel_rfl) hS1 (fun blk4 w3 hS3 => hK _ _ ?_))
  clear hK K
  refine q_seg (S := (fun x_ => St w x_ [Res.box blk4 [Value.int .i64 b0, Value.int .i64 b1, Value.slice b2A b2n b2c, Value.int .i64 b3] 32, Res.box blk2 [Value.int .i64 a0, Value.int .i64 a1, Value.slice a2A a2n a2c, Value.int .i64 a3] 32])) [(4, Value.bool false)] [.no] True (by kernel_rfl) trivial hS3 ?_
  refine l_nil rfl ?_
  refine then_n ?_
  refine wp_seq ?_
  refine c_reg ?_
  refine q_seg (S := (fun x_ => St w x_ [Res.box blk4 [Value.int .i64 b0, Value.int .i64 b1, Value.slice b2A b2n b2c, Value.int .i64 b3] 32, Res.box blk2 [Value.int .i64 a0, Value.int .i64 a1, Value.slice a2A a2n a2c, Value.int .i64 a3] 32])) [(10, Value.bool (decide (a0 = b0))), (9, Value.bool (decide (a0 = b0))), (8, Value.int .i64 b0), (7, Value.pointer (some ⟨blk4, 0 + 0, none⟩)), (6, Value.int .i64 a0), (5, Value.pointer (some ⟨blk2, 0 + 0, none⟩))] [.no, .v (Value.int .i64 a0), .no, .v (Value.int .i64 b0), .no, .no] ((LoadsAt Try.prog (fun x_ => St w x_ [Res.box blk4 [Value.int .i64 b0, Value.int .i64 b1, Value.slice b2A b2n b2c, Value.int .i64 b3] 32, Res.box blk2 [Value.int .i64 a0, Value.int .i64 a1, Value.slice a2A a2n a2c, Value.int .i64 a3] 32]) 3 ⟨blk2, 0 + 0, none⟩ (Value.int .i64 a0)) ∧ (LoadsAt Try.prog (fun x_ => St w x_ [Res.box blk4 [Value.int .i64 b0, Value.int .i64 b1, Value.slice b2A b2n b2c, Value.int .i64 b3] 32, Res.box blk2 [Value.int .i64 a0, Value.int .i64 a1, Value.slice a2A a2n a2c, Value.int .i64 a3] 32]) 3 ⟨blk4, 0 + 0, none⟩ (Value.int .i64 b0))) (by kernel_rfl) ⟨(ld_box (i := 1) rfl rfl (by kernel_rfl)), (ld_box (i := 0) rfl rfl (by kernel_rfl))⟩ hS3 ?_
  rcases Bool.eq_false_or_eq_true (decide (a0 = b0)) with hb5 | hb5
  · skip
    have hb5p := of_decide_eq_true hb5
    refine q_seg (S := (fun x_ => St w x_ [Res.box blk4 [Value.int .i64 b0, Value.int .i64 b1, Value.slice b2A b2n b2c, Value.int .i64 b3] 32, Res.box blk2 [Value.int .i64 a0, Value.int .i64 a1, Value.slice a2A a2n a2c, Value.int .i64 a3] 32])) [(17, Value.bool (decide (a1 = b1))), (16, Value.bool (decide (a1 = b1))), (15, Value.bool (decide (a1 = b1))), (14, Value.int .i64 b1), (13, Value.pointer (some ⟨blk4, 0 + 1, none⟩)), (12, Value.int .i64 a1), (11, Value.pointer (some ⟨blk2, 0 + 1, none⟩))] [.no, .v (Value.int .i64 a1), .no, .v (Value.int .i64 b1), .no, .v (.bool true), .no] (((decide (a0 = b0)) = true) ∧ ((decide (a0 = b0)) = true) ∧ (LoadsAt Try.prog (fun x_ => St w x_ [Res.box blk4 [Value.int .i64 b0, Value.int .i64 b1, Value.slice b2A b2n b2c, Value.int .i64 b3] 32, Res.box blk2 [Value.int .i64 a0, Value.int .i64 a1, Value.slice a2A a2n a2c, Value.int .i64 a3] 32]) 3 ⟨blk2, 0 + 1, none⟩ (Value.int .i64 a1)) ∧ ((decide (a0 = b0)) = true) ∧ ((decide (a0 = b0)) = true) ∧ (LoadsAt Try.prog (fun x_ => St w x_ [Res.box blk4 [Value.int .i64 b0, Value.int .i64 b1, Value.slice b2A b2n b2c, Value.int .i64 b3] 32, Res.box blk2 [Value.int .i64 a0, Value.int .i64 a1, Value.slice a2A a2n a2c, Value.int .i64 a3] 32]) 3 ⟨blk4, 0 + 1, none⟩ (Value.int .i64 b1)) ∧ ((decide (a0 = b0)) = true) ∧ ((decide (a0 = b0)) = true)) (by kernel_rfl) ⟨hb5, hb5, (ld_box (i := 1) rfl rfl (by kernel_rfl)), hb5, hb5, (ld_box (i := 0) rfl rfl (by kernel_rfl)), hb5, hb5⟩ hS3 ?_
    rcases Bool.eq_false_or_eq_true (decide (a1 = b1)) with hb6 | hb6
    · skip
      have hb6p := of_decide_eq_true hb6
      refine q_seg (S := (fun x_ => St w x_ [Res.box blk4 [Value.int .i64 b0, Value.int .i64 b1, Value.slice b2A b2n b2c, Value.int .i64 b3] 32, Res.box blk2 [Value.int .i64 a0, Value.int .i64 a1, Value.slice a2A a2n a2c, Value.int .i64 a3] 32])) [(24, Value.bool (decide (a3 = b3))), (23, Value.bool (decide (a3 = b3))), (22, Value.bool (decide (a3 = b3))), (21, Value.int .i64 b3), (20, Value.pointer (some ⟨blk4, 0 + 3, none⟩)), (19, Value.int .i64 a3), (18, Value.pointer (some ⟨blk2, 0 + 3, none⟩))] [.no, .v (Value.int .i64 a3), .no, .v (Value.int .i64 b3), .no, .v (.bool true), .no] (((decide (a1 = b1)) = true) ∧ ((decide (a1 = b1)) = true) ∧ (LoadsAt Try.prog (fun x_ => St w x_ [Res.box blk4 [Value.int .i64 b0, Value.int .i64 b1, Value.slice b2A b2n b2c, Value.int .i64 b3] 32, Res.box blk2 [Value.int .i64 a0, Value.int .i64 a1, Value.slice a2A a2n a2c, Value.int .i64 a3] 32]) 3 ⟨blk2, 0 + 3, none⟩ (Value.int .i64 a3)) ∧ ((decide (a1 = b1)) = true) ∧ ((decide (a1 = b1)) = true) ∧ (LoadsAt Try.prog (fun x_ => St w x_ [Res.box blk4 [Value.int .i64 b0, Value.int .i64 b1, Value.slice b2A b2n b2c, Value.int .i64 b3] 32, Res.box blk2 [Value.int .i64 a0, Value.int .i64 a1, Value.slice a2A a2n a2c, Value.int .i64 a3] 32]) 3 ⟨blk4, 0 + 3, none⟩ (Value.int .i64 b3)) ∧ ((decide (a1 = b1)) = true) ∧ ((decide (a1 = b1)) = true)) (by kernel_rfl) ⟨hb6, hb6, (ld_box (i := 1) rfl rfl (by kernel_rfl)), hb6, hb6, (ld_box (i := 0) rfl rfl (by kernel_rfl)), hb6, hb6⟩ hS3 ?_
      rcases Bool.eq_false_or_eq_true (decide (a3 = b3)) with hb7 | hb7
      · skip
        have hb7p := of_decide_eq_true hb7
        refine q_seg (S := (fun x_ => St w x_ [Res.box blk4 [Value.int .i64 b0, Value.int .i64 b1, Value.slice b2A b2n b2c, Value.int .i64 b3] 32, Res.box blk2 [Value.int .i64 a0, Value.int .i64 a1, Value.slice a2A a2n a2c, Value.int .i64 a3] 32])) [(28, Value.slice b2A b2n b2c), (27, Value.pointer (some ⟨blk4, 0 + 2, none⟩)), (26, Value.slice a2A a2n a2c), (25, Value.pointer (some ⟨blk2, 0 + 2, none⟩))] [.no, .v (Value.slice a2A a2n a2c), .no, .v (Value.slice b2A b2n b2c)] (((decide (a3 = b3)) = true) ∧ ((decide (a3 = b3)) = true) ∧ (LoadsAt Try.prog (fun x_ => St w x_ [Res.box blk4 [Value.int .i64 b0, Value.int .i64 b1, Value.slice b2A b2n b2c, Value.int .i64 b3] 32, Res.box blk2 [Value.int .i64 a0, Value.int .i64 a1, Value.slice a2A a2n a2c, Value.int .i64 a3] 32]) 22 ⟨blk2, 0 + 2, none⟩ (Value.slice a2A a2n a2c)) ∧ ((decide (a3 = b3)) = true) ∧ ((decide (a3 = b3)) = true) ∧ (LoadsAt Try.prog (fun x_ => St w x_ [Res.box blk4 [Value.int .i64 b0, Value.int .i64 b1, Value.slice b2A b2n b2c, Value.int .i64 b3] 32, Res.box blk2 [Value.int .i64 a0, Value.int .i64 a1, Value.slice a2A a2n a2c, Value.int .i64 a3] 32]) 22 ⟨blk4, 0 + 2, none⟩ (Value.slice b2A b2n b2c))) (by kernel_rfl) ⟨hb7, hb7, (ld_box (i := 1) rfl rfl (by kernel_rfl)), hb7, hb7, (ld_box (i := 0) rfl rfl (by kernel_rfl))⟩ hS3 ?_
        refine l_opg rfl (b := (decide (a3 = b3))) (want := true) (by kernel_rfl) hb7 (fun K hK => op_callv (d := some 29) rfl rfl ⟨_, Try.func88, by kernel_rfl, by kernel_rfl⟩ (vs := [Value.slice a2A a2n a2c, Value.slice b2A b2n b2c]) (by kernel_rfl) (v := Value.bool (decide (a2z = b2z))) (EqualBytes_i_c a2A b2A a2n a2c b2n b2c a2z b2z w3 a2o b2o (hS3.rdlow a2h) (hS3.rdlow b2h)) hS3 (fun w8 hS8 => hK _ _ ?_))
        clear hK K
        refine q_seg (S := (fun x_ => St w x_ [Res.box blk4 [Value.int .i64 b0, Value.int .i64 b1, Value.slice b2A b2n b2c, Value.int .i64 b3] 32, Res.box blk2 [Value.int .i64 a0, Value.int .i64 a1, Value.slice a2A a2n a2c, Value.int .i64 a3] 32])) [(4, Value.bool (decide (a2z = b2z))), (30, Value.bool (decide (a2z = b2z)))] [.v (.bool true), .no] (((decide (a3 = b3)) = true)) (by kernel_rfl) hb7 hS8 ?_
        refine l_nil rfl ?_
        refine then_n ?_
        refine wp_ret ?_
        exact c_end (S := (fun x_ => St w x_ [Res.box blk4 [Value.int .i64 b0, Value.int .i64 b1, Value.slice b2A b2n b2c, Value.int .i64 b3] 32, Res.box blk2 [Value.int .i64 a0, Value.int .i64 a1, Value.slice a2A a2n a2c, Value.int .i64 a3] 32])) (rs := [.tmp 4]) rfl [] (v := Value.bool (decide (a2z = b2z))) (C := True) (by kernel_rfl) trivial hS8 ((hS8.rv (congrArg Value.bool (by first | rfl | simp [*]))))
      · skip
        have hb7p := of_decide_eq_false hb7
        refine q_seg (S := (fun x_ => St w x_ [Res.box blk4 [Value.int .i64 b0, Value.int .i64 b1, Value.slice b2A b2n b2c, Value.int .i64 b3] 32, Res.box blk2 [Value.int .i64 a0, Value.int .i64 a1, Value.slice a2A a2n a2c, Value.int .i64 a3] 32])) [(4, Value.bool false), (30, Value.bool false), (29, undef), (28, undef), (27, undef), (26, undef), (25, undef)] [.skip, .skip, .skip, .skip, .skip, .v (.bool false), .no] (((decide (a3 = b3)) = !true) ∧ ((decide (a3 = b3)) = !true) ∧ ((decide (a3 = b3)) = !true) ∧ ((decide (a3 = b3)) = !true) ∧ ((decide (a3 = b3)) = !true) ∧ ((decide (a3 = b3)) = false)) (by kernel_rfl) ⟨hb7, hb7, hb7, hb7, hb7, hb7⟩ hS3 ?_
        refine l_nil rfl ?_
        refine then_n ?_
        refine wp_ret ?_
        exact c_end (S := (fun x_ => St w x_ [Res.box blk4 [Value.int .i64 b0, Value.int .i64 b1, Value.slice b2A b2n b2c, Value.int .i64 b3] 32, Res.box blk2 [Value.int .i64 a0, Value.int .i64 a1, Value.slice a2A a2n a2c, Value.int .i64 a3] 32])) (rs := [.tmp 4]) rfl [] (v := Value.bool false) (C := True) (by kernel_rfl) trivial hS3 ((hS3.rv (congrArg Value.bool (by first | rfl | simp [*]))))
    · skip
      have hb6p := of_decide_eq_false hb6
      refine q_seg (S := (fun x_ => St w x_ [Res.box blk4 [Value.int .i64 b0, Value.int .i64 b1, Value.slice b2A b2n b2c, Value.int .i64 b3] 32, Res.box blk2 [Value.int .i64 a0, Value.int .i64 a1, Value.slice a2A a2n a2c, Value.int .i64 a3] 32])) [(4, Value.bool false), (30, Value.bool false), (29, undef), (28, undef), (27, undef), (26, undef), (25, undef), (24, Value.bool false), (23, Value.bool false), (22, undef), (21, undef), (20, undef), (19, undef), (18, undef)] [.skip, .skip, .skip, .skip, .skip, .v (.bool false), .no, .skip, .skip, .skip, .skip, .skip, .v (.bool false), .no] (((decide (a1 = b1)) = !true) ∧ ((decide (a1 = b1)) = !true) ∧ ((decide (a1 = b1)) = !true) ∧ ((decide (a1 = b1)) = !true) ∧ ((decide (a1 = b1)) = !true) ∧ ((decide (a1 = b1)) = false) ∧ (false = !true) ∧ (false = !true) ∧ (false = !true) ∧ (false = !true) ∧ (false = !true) ∧ (false = false)) (by kernel_rfl) ⟨hb6, hb6, hb6, hb6, hb6, hb6, rfl, rfl, rfl, rfl, rfl, rfl⟩ hS3 ?_
      refine l_nil rfl ?_
      refine then_n ?_
      refine wp_ret ?_
      exact c_end (S := (fun x_ => St w x_ [Res.box blk4 [Value.int .i64 b0, Value.int .i64 b1, Value.slice b2A b2n b2c, Value.int .i64 b3] 32, Res.box blk2 [Value.int .i64 a0, Value.int .i64 a1, Value.slice a2A a2n a2c, Value.int .i64 a3] 32])) (rs := [.tmp 4]) rfl [] (v := Value.bool false) (C := True) (by kernel_rfl) trivial hS3 ((hS3.rv (congrArg Value.bool (by first | rfl | simp [*]))))
  · skip
    have hb5p := of_decide_eq_false hb5
    refine q_seg (S := (fun x_ => St w x_ [Res.box blk4 [Value.int .i64 b0, Value.int .i64 b1, Value.slice b2A b2n b2c, Value.int .i64 b3] 32, Res.box blk2 [Value.int .i64 a0, Value.int .i64 a1, Value.slice a2A a2n a2c, Value.int .i64 a3] 32])) [(4, Value.bool false), (30, Value.bool false), (29, undef), (28, undef), (27, undef), (26, undef), (25, undef), (24, Value.bool false), (23, Value.bool false), (22, undef), (21, undef), (20, undef), (19, undef), (18, undef), (17, Value.bool false), (16, Value.bool false), (15, undef), (14, undef), (13, undef), (12, undef), (11, undef)] [.skip, .skip, .skip, .skip, .skip, .v (.bool false), .no, .skip, .skip, .skip, .skip, .skip, .v (.bool false), .no, .skip, .skip, .skip, .skip, .skip, .v (.bool false), .no] (((decide (a0 = b0)) = !true) ∧ ((decide (a0 = b0)) = !true) ∧ ((decide (a0 = b0)) = !true) ∧ ((decide (a0 = b0)) = !true) ∧ ((decide (a0 = b0)) = !true) ∧ ((decide (a0 = b0)) = false) ∧ (false = !true) ∧ (false = !true) ∧ (false = !true) ∧ (false = !true) ∧ (false = !true) ∧ (false = false) ∧ (false = !true) ∧ (false = !true) ∧ (false = !true) ∧ (false = !true) ∧ (false = !true) ∧ (false = false)) (by kernel_rfl) ⟨hb5, hb5, hb5, hb5, hb5, hb5, rfl, rfl, rfl, rfl, rfl, rfl, rfl, rfl, rfl, rfl, rfl, rfl⟩ hS3 ?_
    refine l_nil rfl ?_
    refine then_n ?_
    refine wp_ret ?_
    exact c_end (S := (fun x_ => St w x_ [Res.box blk4 [Value.int .i64 b0, Value.int .i64 b1, Value.slice b2A b2n b2c, Value.int .i64 b3] 32, Res.box blk2 [Value.int .i64 a0, Value.int .i64 a1, Value.slice a2A a2n a2c, Value.int .i64 a3] 32])) (rs := [.tmp 4]) rfl [] (v := Value.bool false) (C := True) (by kernel_rfl) trivial hS3 ((hS3.rv (congrArg Value.bool (by first | rfl | simp [*]))))
theorem EqualRadio_i_c (a0 : Int) (a1 : Int) (a2 : Int) (a3 : Int) (a4A : Option Addr) (a4n a4c : Nat) (a4z : List Int) (a5 : Int) (b0 : Int) (b1 : Int) (b2 : Int) (b3 : Int) (b4A : Option Addr) (b4n b4c : Nat) (b4z : List Int) (b5 : Int) (w : World) (a4h : Rd w w.heap.size a4A a4n (a4z.map (Value.int .u8))) (a4w : a4n ≤ 1099511627776) (a4o : okz .u8 a4z) (b4h : Rd w w.heap.size b4A b4n (b4z.map (Value.int .u8))) (b4w : b4n ≤ 1099511627776) (b4o : okz .u8 b4z) : Calls Try.prog 21 #[Value.agg #[Value.int .i64 a0, Value.int .i64 a1, Value.int .i64 a2, Value.int .i64 a3, Value.slice a4A a4n a4c, Value.int .i64 a5], Value.agg #[Value.int .i64 b0, Value.int .i64 b1, Value.int .i64 b2, Value.int .i64 b3, Value.slice b4A b4n b4c, Value.int .i64 b5]] w (RetV w (.bool ((decide (a0 = b0) && decide (a1 = b1)) && (((decide (a2 = b2) && decide (a3 = b3)) && decide (a5 = b5)) && decide (a4z = b4z))))) := by
  have a4l := a4h.len
  have b4l := b4h.len
  refine calls_FA Try.func21 rfl (n := 24) rfl (l := [(0, Value.agg #[Value.int .i64 a0, Value.int .i64 a1, Value.int .i64 a2, Value.int .i64 a3, Value.slice a4A a4n a4c, Value.int .i64 a5]), (1, Value.agg #[Value.int .i64 b0, Value.int .i64 b1, Value.int .i64 b2, Value.int .i64 b3, Value.slice b4A b4n b4c, Value.int .i64 b5])]) rfl (by simp) (fun g => ?_)
  have hS := St.init w
  refine wp_seq ?_
  refine c_reg ?_
  refine l_op rfl rfl (fun K hK => op_box (d := some 2) rfl rfl [Value.int .i64 a0, Value.int .i64 a1, Value.int .i64 a2, Value.int .i64 a3, Value.slice a4A a4n a4c, Value.int .i64 a5] (by kernel_rfl) hS (fun blk2 w1 hS1 => hK _ _ ?_))
  clear hK K
  refine l_op rfl rfl (fun K hK => op_box (d := some 3) rfl rfl [Value.int .i64 b0, Value.int .i64 b1, Value.int .i64 b2, Value.int .i64 b3, Value.slice b4A b4n b4c, Value.int .i64 b5] (by kernel_rfl) hS1 (fun blk4 w3 hS3 => hK _ _ ?_))
  clear hK K
  refine q_seg (S := (fun x_ => St w x_ [Res.box blk4 [Value.int .i64 b0, Value.int .i64 b1, Value.int .i64 b2, Value.int .i64 b3, Value.slice b4A b4n b4c, Value.int .i64 b5] 34, Res.box blk2 [Value.int .i64 a0, Value.int .i64 a1, Value.int .i64 a2, Value.int .i64 a3, Value.slice a4A a4n a4c, Value.int .i64 a5] 34])) [(4, Value.bool false)] [.no] True (by kernel_rfl) trivial hS3 ?_
  refine l_nil rfl ?_
  refine then_n ?_
  refine wp_seq ?_
  refine c_reg ?_
  refine q_seg (S := (fun x_ => St w x_ [Res.box blk4 [Value.int .i64 b0, Value.int .i64 b1, Value.int .i64 b2, Value.int .i64 b3, Value.slice b4A b4n b4c, Value.int .i64 b5] 34, Res.box blk2 [Value.int .i64 a0, Value.int .i64 a1, Value.int .i64 a2, Value.int .i64 a3, Value.slice a4A a4n a4c, Value.int .i64 a5] 34])) [(10, Value.bool (decide (a0 = b0))), (9, Value.bool (decide (a0 = b0))), (8, Value.int .i64 b0), (7, Value.pointer (some ⟨blk4, 0 + 0, none⟩)), (6, Value.int .i64 a0), (5, Value.pointer (some ⟨blk2, 0 + 0, none⟩))] [.no, .v (Value.int .i64 a0), .no, .v (Value.int .i64 b0), .no, .no] ((LoadsAt Try.prog (fun x_ => St w x_ [Res.box blk4 [Value.int .i64 b0, Value.int .i64 b1, Value.int .i64 b2, Value.int .i64 b3, Value.slice b4A b4n b4c, Value.int .i64 b5] 34, Res.box blk2 [Value.int .i64 a0, Value.int .i64 a1, Value.int .i64 a2, Value.int .i64 a3, Value.slice a4A a4n a4c, Value.int .i64 a5] 34]) 3 ⟨blk2, 0 + 0, none⟩ (Value.int .i64 a0)) ∧ (LoadsAt Try.prog (fun x_ => St w x_ [Res.box blk4 [Value.int .i64 b0, Value.int .i64 b1, Value.int .i64 b2, Value.int .i64 b3, Value.slice b4A b4n b4c, Value.int .i64 b5] 34, Res.box blk2 [Value.int .i64 a0, Value.int .i64 a1, Value.int .i64 a2, Value.int .i64 a3, Value.slice a4A a4n a4c, Value.int .i64 a5] 34]) 3 ⟨blk4, 0 + 0, none⟩ (Value.int .i64 b0))) (by kernel_rfl) ⟨(ld_box (i := 1) rfl rfl (by kernel_rfl)), (ld_box (i := 0) rfl rfl (by kernel_rfl))⟩ hS3 ?_
  rcases Bool.eq_false_or_eq_true (decide (a0 = b0)) with hb5 | hb5
  · skip
    have hb5p := of_decide_eq_true hb5
    refine q_seg (S := (fun x_ => St w x_ [Res.box blk4 [Value.int .i64 b0, Value.int .i64 b1, Value.int .i64 b2, Value.int .i64 b3, Value.slice b4A b4n b4c, Value.int .i64 b5] 34, Res.box blk2 [Value.int .i64 a0, Value.int .i64 a1, Value.int .i64 a2, Value.int .i64 a3, Value.slice a4A a4n a4c, Value.int .i64 a5] 34])) [(17, Value.bool (decide (a1 = b1))), (16, Value.bool (decide (a1 = b1))), (15, Value.bool (decide (a1 = b1))), (14, Value.int .i64 b1), (13, Value.pointer (some ⟨blk4, 0 + 1, none⟩)), (12, Value.int .i64 a1), (11, Value.pointer (some ⟨blk2, 0 + 1, none⟩))] [.no, .v (Value.int .i64 a1), .no, .v (Value.int .i64 b1), .no, .v (.bool true), .no] (((decide (a0 = b0)) = true) ∧ ((decide (a0 = b0)) = true) ∧ (LoadsAt Try.prog (fun x_ => St w x_ [Res.box blk4 [Value.int .i64 b0, Value.int .i64 b1, Value.int .i64 b2, Value.int .i64 b3, Value.slice b4A b4n b4c, Value.int .i64 b5] 34, Res.box blk2 [Value.int .i64 a0, Value.int .i64 a1, Value.int .i64 a2, Value.int .i64 a3, Value.slice a4A a4n a4c, Value.int .i64 a5] 34]) 3 ⟨blk2, 0 + 1, none⟩ (Value.int .i64 a1)) ∧ ((decide (a0 = b0)) = true) ∧ ((decide (a0 = b0)) = true) ∧ (LoadsAt Try.prog (fun x_ => St w x_ [Res.box blk4 [Value.int .i64 b0, Value.int .i64 b1, Value.int .i64 b2, Value.int .i64 b3, Value.slice b4A b4n b4c, Value.int .i64 b5] 34, Res.box blk2 [Value.int .i64 a0, Value.int .i64 a1, Value.int .i64 a2, Value.int .i64 a3, Value.slice a4A a4n a4c, Value.int .i64 a5] 34]) 3 ⟨blk4, 0 + 1, none⟩ (Value.int .i64 b1)) ∧ ((decide (a0 = b0)) = true) ∧ ((decide (a0 = b0)) = true)) (by kernel_rfl) ⟨hb5, hb5, (ld_box (i := 1) rfl rfl (by kernel_rfl)), hb5, hb5, (ld_box (i := 0) rfl rfl (by kernel_rfl)), hb5, hb5⟩ hS3 ?_
    rcases Bool.eq_false_or_eq_true (decide (a1 = b1)) with hb6 | hb6
    · skip
      have hb6p := of_decide_eq_true hb6
      refine q_seg (S := (fun x_ => St w x_ [Res.box blk4 [Value.int .i64 b0, Value.int .i64 b1, Value.int .i64 b2, Value.int .i64 b3, Value.slice b4A b4n b4c, Value.int .i64 b5] 34, Res.box blk2 [Value.int .i64 a0, Value.int .i64 a1, Value.int .i64 a2, Value.int .i64 a3, Value.slice a4A a4n a4c, Value.int .i64 a5] 34])) [(21, Value.agg #[Value.int .i64 b2, Value.int .i64 b3, Value.slice b4A b4n b4c, Value.int .i64 b5]), (20, Value.pointer (some ⟨blk4, 0 + 2, none⟩)), (19, Value.agg #[Value.int .i64 a2, Value.int .i64 a3, Value.slice a4A a4n a4c, Value.int .i64 a5]), (18, Value.pointer (some ⟨blk2, 0 + 2, none⟩))] [.no, .v (Value.agg #[Value.int .i64 a2, Value.int .i64 a3, Value.slice a4A a4n a4c, Value.int .i64 a5]), .no, .v (Value.agg #[Value.int .i64 b2, Value.int .i64 b3, Value.slice b4A b4n b4c, Value.int .i64 b5])] (((decide (a1 = b1)) = true) ∧ ((decide (a1 = b1)) = true) ∧ (LoadsAt Try.prog (fun x_ => St w x_ [Res.box blk4 [Value.int .i64 b0, Value.int .i64 b1, Value.int .i64 b2, Value.int .i64 b3, Value.slice b4A b4n b4c, Value.int .i64 b5] 34, Res.box blk2 [Value.int .i64 a0, Value.int .i64 a1, Value.int .i64 a2, Value.int .i64 a3, Value.slice a4A a4n a4c, Value.int .i64 a5] 34]) 32 ⟨blk2, 0 + 2, none⟩ (Value.agg #[Value.int .i64 a2, Value.int .i64 a3, Value.slice a4A a4n a4c, Value.int .i64 a5])) ∧ ((decide (a1 = b1)) = true) ∧ ((decide (a1 = b1)) = true) ∧ (LoadsAt Try.prog (fun x_ => St w x_ [Res.box blk4 [Value.int .i64 b0, Value.int .i64 b1, Value.int .i64 b2, Value.int .i64 b3, Value.slice b4A b4n b4c, Value.int .i64 b5] 34, Res.box blk2 [Value.int .i64 a0, Value.int .i64 a1, Value.int .i64 a2, Value.int .i64 a3, Value.slice a4A a4n a4c, Value.int .i64 a5] 34]) 32 ⟨blk4, 0 + 2, none⟩ (Value.agg #[Value.int .i64 b2, Value.int .i64 b3, Value.slice b4A b4n b4c, Value.int .i64 b5]))) (by kernel_rfl) ⟨hb6, hb6, (ld_boxN (i := 1) (k := 4) rfl rfl rfl (by kernel_rfl)), hb6, hb6, (ld_boxN (i := 0) (k := 4) rfl rfl rfl (by kernel_rfl))⟩ hS3 ?_
      refine l_opg rfl (b := (decide (a1 = b1))) (want := true) (by kernel_rfl) hb6 (fun K hK => op_callv (d := some 22) rfl rfl ⟨_, Try.func53, by kernel_rfl, by kernel_rfl⟩ (vs := [Value.agg #[Value.int .i64 a2, Value.int .i64 a3, Value.slice a4A a4n a4c, Value.int .i64 a5], Value.agg #[Value.int .i64 b2, Value.int .i64 b3, Value.slice b4A b4n b4c, Value.int .i64 b5]]) (by kernel_rfl) (v := Value.bool (((decide (a2 = b2) && decide (a3 = b3)) && decide (a5 = b5)) && decide (a4z = b4z))) (EqualSecured_i_c a2 a3 a4A a4n a4c a4z a5 b2 b3 b4A b4n b4c b4z b5 w3 (hS3.rdlow a4h) (by omega) a4o (hS3.rdlow b4h) (by omega) b4o) hS3 (fun w7 hS7 => hK _ _ ?_))
      clear hK K
      refine q_seg (S := (fun x_ => St w x_ [Res.box blk4 [Value.int .i64 b0, Value.int .i64 b1, Value.int .i64 b2, Value.int .i64 b3, Value.slice b4A b4n b4c, Value.int .i64 b5] 34, Res.box blk2 [Value.int .i64 a0, Value.int .i64 a1, Value.int .i64 a2, Value.int .i64 a3, Value.slice a4A a4n a4c, Value.int .i64 a5] 34])) [(4, Value.bool (((decide (a2 = b2) && decide (a3 = b3)) && decide (a5 = b5)) && decide (a4z = b4z))), (23, Value.bool (((decide (a2 = b2) && decide (a3 = b3)) && decide (a5 = b5)) && decide (a4z = b4z)))] [.v (.bool true), .no] (((decide (a1 = b1)) = true)) (by kernel_rfl) hb6 hS7 ?_
      refine l_nil rfl ?_
      refine then_n ?_
      refine wp_ret ?_
      exact c_end (S := (fun x_ => St w x_ [Res.box blk4 [Value.int .i64 b0, Value.int .i64 b1, Value.int .i64 b2, Value.int .i64 b3, Value.slice b4A b4n b4c, Value.int .i64 b5] 34, Res.box blk2 [Value.int .i64 a0, Value.int .i64 a1, Value.int .i64 a2, Value.int .i64 a3, Value.slice a4A a4n a4c, Value.int .i64 a5] 34])) (rs := [.tmp 4]) rfl [] (v := Value.bool (((decide (a2 = b2) && decide (a3 = b3)) && decide (a5 = b5)) && decide (a4z = b4z))) (C := True) (by kernel_rfl) trivial hS7 ((hS7.rv (congrArg Value.bool (by first | rfl | simp [*]))))
    · skip
      have hb6p := of_decide_eq_false hb6
      refine q_seg (S := (fun x_ => St w x_ [Res.box blk4 [Value.int .i64 b0, Value.int .i64 b1, Value.int .i64 b2, Value.int .i64 b3, Value.slice b4A b4n b4c, Value.int .i64 b5] 34, Res.box blk2 [Value.int .i64 a0, Value.int .i64 a1, Value.int .i64 a2, Value.int .i64 a3, Value.slice a4A a4n a4c, Value.int .i64 a5] 34])) [(4, Value.bool false), (23, Value.bool false), (22, undef), (21, undef), (20, undef), (19, undef), (18, undef)] [.skip, .skip, .skip, .skip, .skip, .v (.bool false), .no] (((decide (a1 = b1)) = !true) ∧ ((decide (a1 = b1)) = !true) ∧ ((decide (a1 = b1)) = !true) ∧ ((decide (a1 = b1)) = !true) ∧ ((decide (a1 = b1)) = !true) ∧ ((decide (a1 = b1)) = false)) (by kernel_rfl) ⟨hb6, hb6, hb6, hb6, hb6, hb6⟩ hS3 ?_
      refine l_nil rfl ?_
      refine then_n ?_
      refine wp_ret ?_
      exact c_end (S := (fun x_ => St w x_ [Res.box blk4 [Value.int .i64 b0, Value.int .i64 b1, Value.int .i64 b2, Value.int .i64 b3, Value.slice b4A b4n b4c, Value.int .i64 b5] 34, Res.box blk2 [Value.int .i64 a0, Value.int .i64 a1, Value.int .i64 a2, Value.int .i64 a3, Value.slice a4A a4n a4c, Value.int .i64 a5] 34])) (rs := [.tmp 4]) rfl [] (v := Value.bool false) (C := True) (by kernel_rfl) trivial hS3 ((hS3.rv (congrArg Value.bool (by first | rfl | simp [*]))))
  · skip
    have hb5p := of_decide_eq_false hb5
    refine q_seg (S := (fun x_ => St w x_ [Res.box blk4 [Value.int .i64 b0, Value.int .i64 b1, Value.int .i64 b2, Value.int .i64 b3, Value.slice b4A b4n b4c, Value.int .i64 b5] 34, Res.box blk2 [Value.int .i64 a0, Value.int .i64 a1, Value.int .i64 a2, Value.int .i64 a3, Value.slice a4A a4n a4c, Value.int .i64 a5] 34])) [(4, Value.bool false), (23, Value.bool false), (22, undef), (21, undef), (20, undef), (19, undef), (18, undef), (17, Value.bool false), (16, Value.bool false), (15, undef), (14, undef), (13, undef), (12, undef), (11, undef)] [.skip, .skip, .skip, .skip, .skip, .v (.bool false), .no, .skip, .skip, .skip, .skip, .skip, .v (.bool false), .no] (((decide (a0 = b0)) = !true) ∧ ((decide (a0 = b0)) = !true) ∧ ((decide (a0 = b0)) = !true) ∧ ((decide (a0 = b0)) = !true) ∧ ((decide (a0 = b0)) = !true) ∧ ((decide (a0 = b0)) = false) ∧ (false = !true) ∧ (false = !true) ∧ (false = !true) ∧ (false = !true) ∧ (false = !true) ∧ (false = false)) (by kernel_rfl) ⟨hb5, hb5, hb5, hb5, hb5, hb5, rfl, rfl, rfl, rfl, rfl, rfl⟩ hS3 ?_
    refine l_nil rfl ?_
    refine then_n ?_
    refine wp_ret ?_
    exact c_end (S := (fun x_ => St w x_ [Res.box blk4 [Value.int .i64 b0, Value.int .i64 b1, Value.int .i64 b2, Value.int .i64 b3, Value.slice b4A b4n b4c, Value.int .i64 b5] 34, Res.box blk2 [Value.int .i64 a0, Value.int .i64 a1, Value.int .i64 a2, Value.int .i64 a3, Value.slice a4A a4n a4c, Value.int .i64 a5] 34])) (rs := [.tmp 4]) rfl [] (v := Value.bool false) (C := True) (by kernel_rfl) trivial hS3 ((hS3.rv (congrArg Value.bool (by first | rfl | simp [*]))))
theorem EqualSecured_s_c (a0 : Int) (a1 : Int) (a2A : Option Addr) (a2n a2c : Nat) (a2z : List Int) (a3 : Int) (b0 : Int) (b1 : Int) (b2A : Option Addr) (b2n b2c : Nat) (b2z : List Int) (b3 : Int) (w : World) (a2h : Rd w w.heap.size a2A a2n (a2z.map (Value.int .u8))) (a2w : a2n ≤ 1099511627776) (a2o : okz .u8 a2z) (b2h : Rd w w.heap.size b2A b2n (b2z.map (Value.int .u8))) (b2w : b2n ≤ 1099511627776) (b2o : okz .u8 b2z) : Calls Try.prog 52 #[Value.agg #[Value.int .i64 a0, Value.int .i64 a1, Value.slice a2A a2n a2c, Value.int .i64 a3], Value.agg #[Value.int .i64 b0, Value.int .i64 b1, Value.slice b2A b2n b2c, Value.int .i64 b3]] w (RetV w (.bool (((decide (a0 = b0) && decide (a1 = b1)) && decide (a3 = b3)) && decide (a2z = b2z)))) := by
  have a2l := a2h.len
  have b2l := b2h.len
  refine calls_FA Try.func52 rfl (n := 31) rfl (l := [(0, Value.agg #[Value.int .i64 a0, Value.int .i64 a1, Value.slice a2A a2n a2c, Value.int .i64 a3]), (1, Value.agg #[Value.int .i64 b0, Value.int .i64 b1, Value.slice b2A b2n b2c, Value.int .i64 b3])]) rfl (by simp) (fun g => ?_)
  have hS := St.init w
  refine wp_seq ?_
  refine c_reg ?_
  refine l_op rfl rfl (fun K hK => op_box (d := some 2) rfl rfl [Value.int .i64 a0, Value.int .i64 a1, Value.slice a2A a2n a2c, Value.int .i64 a3] (by kernel_rfl) hS (fun blk2 w1 hS1 => hK _ _ ?_))
  clear hK K
  refine l_op rfl rfl (fun K hK => op_box (d := some 3) rfl rfl [Value.int .i64 b0, Value.int .i64 b1, Value.slice b2A b2n b2c, Value.int .i64 b3] (by kernel_rfl) hS1 (fun blk4 w3 hS3 => hK _ _ ?_))
  clear hK K
  refine q_seg (S := (fun x_ => St w x_ [Res.box blk4 [Value.int .i64 b0, Value.int .i64 b1, Value.slice b2A b2n b2c, Value.int .i64 b3] 32, Res.box blk2 [Value.int .i64 a0, Value.int .i64 a1, Value.slice a2A a2n a2c, Value.int .i64 a3] 32])) [(4, Value.bool false)] [.no] True (by kernel_rfl) trivial hS3 ?_
  refine l_nil rfl ?_
  refine then_n ?_
  refine wp_seq ?_
  refine c_reg ?_
  refine q_seg (S := (fun x_ => St w x_ [Res.box blk4 [Value.int .i64 b0, Value.int .i64 b1, Value.slice b2A b2n b2c, Value.int .i64 b3] 32, Res.box blk2 [Value.int .i64 a0, Value.int .i64 a1, Value.slice a2A a2n a2c, Value.int .i64 a3] 32])) [(10, Value.bool (decide (a0 = b0))), (9, Value.bool (decide (a0 = b0))), (8, Value.int .i64 b0), (7, Value.pointer (some ⟨blk4, 0 + 0, none⟩)), (6, Value.int .i64 a0), (5, Value.pointer (some ⟨blk2, 0 + 0, none⟩))] [.no, .v (Value.int .i64 a0), .no, .v (Value.int .i64 b0), .no, .no] ((LoadsAt Try.prog (fun x_ => St w x_ [Res.box blk4 [Value.int .i64 b0, Value.int .i64 b1, Value.slice b2A b2n b2c, Value.int .i64 b3] 32, Res.box blk2 [Value.int .i64 a0, Value.int .i64 a1, Value.slice a2A a2n a2c, Value.int .i64 a3] 32]) 3 ⟨blk2, 0 + 0, none⟩ (Value.int .i64 a0)) ∧ (LoadsAt Try.prog (fun x_ => St w x_ [Res.box blk4 [Value.int .i64 b0, Value.int .i64 b1, Value.slice b2A b2n b2c, Value.int .i64 b3] 32, Res.box blk2 [Value.int .i64 a0, Value.int .i64 a1, Value.slice a2A a2n a2c, Value.int .i64 a3] 32]) 3 ⟨blk4, 0 + 0, none⟩ (Value.int .i64 b0))) (by kernel_rfl) ⟨(ld_box (i := 1) rfl rfl (by kernel_rfl)), (ld_box (i := 0) rfl rfl (by kernel_rfl))⟩ hS3 ?_
  rcases Bool.eq_false_or_eq_true (decide (a0 = b0)) with hb5 | hb5
  · skip
    have hb5p := of_decide_eq_true hb5
    refine q_seg (S := (fun x_ => St w x_ [Res.box blk4 [Value.int .i64 b0, Value.int .i64 b1, Value.slice b2A b2n b2c, Value.int .i64 b3] 32, Res.box blk2 [Value.int .i64 a0, Value.int .i64 a1, Value.slice a2A a2n a2c, Value.int .i64 a3] 32])) [(17, Value.bool (decide (a1 = b1))), (16, Value.bool (decide (a1 = b1))), (15, Value.bool (decide (a1 = b1))), (14, Value.int .i64 b1), (13, Value.pointer (some ⟨blk4, 0 + 1, none⟩)), (12, Value.int .i64 a1), (11, Value.pointer (some ⟨blk2, 0 + 1, none⟩))] [.no, .v (Value.int .i64 a1), .no, .v (Value.int .i64 b1), .no, .v (.bool true), .no] (((decide (a0 = b0)) = true) ∧ ((decide (a0 = b0)) = true) ∧ (LoadsAt Try.prog (fun x_ => St w x_ [Res.box blk4 [Value.int .i64 b0, Value.int .i64 b1, Value.slice b2A b2n b2c, Value.int .i64 b3] 32, Res.box blk2 [Value.int .i64 a0, Value.int .i64 a1, Value.slice a2A a2n a2c, Value.int .i64 a3] 32]) 3 ⟨blk2, 0 + 1, none⟩ (Value.int .i64 a1)) ∧ ((decide (a0 = b0)) = true) ∧ ((decide (a0 = b0)) = true) ∧ (LoadsAt Try.prog (fun x_ => St w x_ [Res.box blk4 [Value.int .i64 b0, Value.int .i64 b1, Value.slice b2A b2n b2c, Value.int .i64 b3] 32, Res.box blk2 [Value.int .i64 a0, Value.int .i64 a1, Value.slice a2A a2n a2c, Value.int .i64 a3] 32]) 3 ⟨blk4, 0 + 1, none⟩ (Value.int .i64 b1)) ∧ ((decide (a0 = b0)) = true) ∧ ((decide (a0 = b0)) = true)) (by kernel_rfl) ⟨hb5, hb5, (ld_box (i := 1) rfl rfl (by kernel_rfl)), hb5, hb5, (ld_box (i := 0) rfl rfl (by kernel_rfl)), hb5, hb5⟩ hS3 ?_
    rcases Bool.eq_false_or_eq_true (decide (a1 = b1)) with hb6 | hb6
    · skip
      have hb6p := of_decide_eq_true hb6
      refine q_seg (S := (fun x_ => St w x_ [Res.box blk4 [Value.int .i64 b0, Value.int .i64 b1, Value.slice b2A b2n b2c, Value.int .i64 b3] 32, Res.box blk2 [Value.int .i64 a0, Value.int .i64 a1, Value.slice a2A a2n a2c, Value.int .i64 a3] 32])) [(24, Value.bool (decide (a3 = b3))), (23, Value.bool (decide (a3 = b3))), (22, Value.bool (decide (a3 = b3))), (21, Value.int .i64 b3), (20, Value.pointer (some ⟨blk4, 0 + 3, none⟩)), (19, Value.int .i64 a3), (18, Value.pointer (some ⟨blk2, 0 + 3, none⟩))] [.no, .v (Value.int .i64 a3), .no, .v (Value.int .i64 b3), .no, .v (.bool true), .no] (((decide (a1 = b1)) = true) ∧ ((decide (a1 = b1)) = true) ∧ (LoadsAt Try.prog (fun x_ => St w x_ [Res.box blk4 [Value.int .i64 b0, Value.int .i64 b1, Value.slice b2A b2n b2c, Value.int .i64 b3] 32, Res.box blk2 [Value.int .i64 a0, Value.int .i64 a1, Value.slice a2A a2n a2c, Value.int .i64 a3] 32]) 3 ⟨blk2, 0 + 3, none⟩ (Value.int .i64 a3)) ∧ ((decide (a1 = b1)) = true) ∧ ((decide (a1 = b1)) = true) ∧ (LoadsAt Try.prog (fun x_ => St w x_ [Res.box blk4 [Value.int .i64 b0, Value.int .i64 b1, Value.slice b2A b2n b2c, Value.int .i64 b3] 32, Res.box blk2 [Value.int .i64 a0, Value.int .i64 a1, Value.slice a2A a2n a2c, Value.int .i64 a3] 32]) 3 ⟨blk4, 0 + 3, none⟩ (Value.int .i64 b3)) ∧ ((decide (a1 = b1)) = true) ∧ ((decide (a1 = b1)) = true)) (by kernel_rfl) ⟨hb6, hb6, (ld_box (i := 1) rfl rfl (by kernel_rfl)), hb6, hb6, (ld_box (i := 0) rfl rfl (by kernel_rfl)), hb6, hb6⟩ hS3 ?_
      rcases Bool.eq_false_or_eq_true (decide (a3 = b3)) with hb7 | hb7
      · skip
        have hb7p := of_decide_eq_true hb7
        refine q_seg (S := (fun x_ => St w x_ [Res.box blk4 [Value.int .i64 b0, Value.int .i64 b1, Value.slice b2A b2n b2c, Value.int .i64 b3] 32, Res.box blk2 [Value.int .i64 a0, Value.int .i64 a1, Value.slice a2A a2n a2c, Value.int .i64 a3] 32])) [(28, Value.slice b2A b2n b2c), (27, Value.pointer (some ⟨blk4, 0 + 2, none⟩)), (26, Value.slice a2A a2n a2c), (25, Value.pointer (some ⟨blk2, 0 + 2, none⟩))] [.no, .v (Value.slice a2A a2n a2c), .no, .v (Value.slice b2A b2n b2c)] (((decide (a3 = b3)) = true) ∧ ((decide (a3 = b3)) = true) ∧ (LoadsAt Try.prog (fun x_ => St w x_ [Res.box blk4 [Value.int .i64 b0, Value.int .i64 b1, Value.slice b2A b2n b2c, Value.int .i64 b3] 32, Res.box blk2 [Value.int .i64 a0, Value.int .i64 a1, Value.slice a2A a2n a2c, Value.int .i64 a3] 32]) 22 ⟨blk2, 0 + 2, none⟩ (Value.slice a2A a2n a2c)) ∧ ((decide (a3 = b3)) = true) ∧ ((decide (a3 = b3)) = true) ∧ (LoadsAt Try.prog (fun x_ => St w x_ [Res.box blk4 [Value.int .i64 b0, Value.int .i64 b1, Value.slice b2A b2n b2c, Value.int .i64 b3] 32, Res.box blk2 [Value.int .i64 a0, Value.int .i64 a1, Value.slice a2A a2n a2c, Value.int .i64 a3] 32]) 22 ⟨blk4, 0 + 2, none⟩ (Value.slice b2A b2n b2c))) (by kernel_rfl) ⟨hb7, hb7, (ld_box (i := 1) rfl rfl (by kernel_rfl)), hb7, hb7, (ld_box (i := 0) rfl rfl (by kernel_rfl))⟩ hS3 ?_
        refine l_opg rfl (b := (decide (a3 = b3))) (want := true) (by kernel_rfl) hb7 (fun K hK => op_callv (d := some 29) rfl rfl ⟨_, Try.func87, by kernel_rfl, by kernel_rfl⟩ (vs := [Value.slice a2A a2n a2c, Value.slice b2A b2n b2c]) (by kernel_rfl) (v := Value.bool (decide (a2z = b2z))) (EqualBytes_s_c a2A b2A a2n a2c b2n b2c a2z b2z w3 a2o b2o (hS3.rdlow a2h) (hS3.rdlow b2h)) hS3 (fun w8 hS8 => hK _ _ ?_))
        clear hK K
        refine q_seg (S := (fun x_ => St w x_ [Res.box blk4 [Value.int .i64 b0, Value.int .i64 b1, Value.slice b2A b2n b2c, Value.int .i64 b3] 32, Res.box blk2 [Value.int .i64 a0, Value.int .i64 a1, Value.slice a2A a2n a2c, Value.int .i64 a3] 32])) [(4, Value.bool (decide (a2z = b2z))), (30, Value.bool (decide (a2z = b2z)))] [.v (.bool true), .no] (((decide (a3 = b3)) = true)) (by kernel_rfl) hb7 hS8 ?_
        refine l_nil rfl ?_
        refine then_n ?_
        refine wp_ret ?_
        exact c_end (S := (fun x_ => St w x_ [Res.box blk4 [Value.int .i64 b0, Value.int .i64 b1, Value.slice b2A b2n b2c, Value.int .i64 b3] 32, Res.box blk2 [Value.int .i64 a0, Value.int .i64 a1, Value.slice a2A a2n a2c, Value.int .i64 a3] 32])) (rs := [.tmp 4]) rfl [] (v := Value.bool (decide (a2z = b2z))) (C := True) (by kernel_rfl) trivial hS8 ((hS8.rv (congrArg Value.bool (by first | rfl | simp [*]))))
      · skip
        have hb7p := of_decide_eq_false hb7
        refine q_seg (S := (fun x_ => St w x_ [Res.box blk4 [Value.int .i64 b0, Value.int .i64 b1, Value.slice b2A b2n b2c, Value.int .i64 b3] 32, Res.box blk2 [Value.int .i64 a0, Value.int .i64 a1, Value.slice a2A a2n a2c, Value.int .i64 a3] 32])) [(4, Value.bool false), (30, Value.bool false), (29, undef), (28, undef), (27, undef), (26, undef), (25, undef)] [.skip, .skip, .skip, .skip, .skip, .v (.bool false), .no] (((decide (a3 = b3)) = !true) ∧ ((decide (a3 = b3)) = !true) ∧ ((decide (a3 = b3)) = !true) ∧ ((decide (a3 = b3)) = !true) ∧ ((decide (a3 = b3)) = !true) ∧ ((decide (a3 = b3)) = false)) (by kernel_rfl) ⟨hb7, hb7, hb7, hb7, hb7, hb7⟩ hS3 ?_
        refine l_nil rfl ?_
        refine then_n ?_
        refine wp_ret ?_
        exact c_end (S := (fun x_ => St w x_ [Res.box blk4 [Value.int .i64 b0, Value.int .i64 b1, Value.slice b2A b2n b2c, Value.int .i64 b3] 32, Res.box blk2 [Value.int .i64 a0, Value.int .i64 a1, Value.slice a2A a2n a2c, Value.int .i64 a3] 32])) (rs := [.tmp 4]) rfl [] (v := Value.bool false) (C := True) (by kernel_rfl) trivial hS3 ((hS3.rv (congrArg Value.bool (by first | rfl | simp [*]))))
    · skip
      have hb6p := of_decide_eq_false hb6
      refine q_seg (S := (fun x_ => St w x_ [Res.box blk4 [Value.int .i64 b0, Value.int .i64 b1, Value.slice b2A b2n b2c, Value.int .i64 b3] 32, Res.box blk2 [Value.int .i64 a0, Value.int .i64 a1, Value.slice a2A a2n a2c, Value.int .i64 a3] 32])) [(4, Value.bool false), (30, Value.bool false), (29, undef), (28, undef), (27, undef), (26, undef), (25, undef), (24, Value.bool false), (23, Value.bool false), (22, undef), (21, undef), (20, undef), (19, undef), (18, undef)] [.skip, .skip, .skip, .skip, .skip, .v (.bool false), .no, .skip, .skip, .skip, .skip, .skip, .v (.bool false), .no] (((decide (a1 = b1)) = !true) ∧ ((decide (a1 = b1)) = !true) ∧ ((decide (a1 = b1)) = !true) ∧ ((decide (a1 = b1)) = !true) ∧ ((decide (a1 = b1)) = !true) ∧ ((decide (a1 = b1)) = false) ∧ (false = !true) ∧ (false = !true) ∧ (false = !true) ∧ (false = !true) ∧ (false = !true) ∧ (false = false)) (by kernel_rfl) ⟨hb6, hb6, hb6, hb6, hb6, hb6, rfl, rfl, rfl, rfl, rfl, rfl⟩ hS3 ?_
      refine l_nil rfl ?_
      refine then_n ?_
      refine wp_ret ?_
      exact c_end (S := (fun x_ => St w x_ [Res.box blk4 [Value.int .i64 b0, Value.int .i64 b1, Value.slice b2A b2n b2c, Value.int .i64 b3] 32, Res.box blk2 [Value.int .i64 a0, Value.int .i64 a1, Value.slice a2A a2n a2c, Value.int .i64 a3] 32])) (rs := [.tmp 4]) rfl [] (v := Value.bool false) (C := True) (by kernel_rfl) trivial hS3 ((hS3.rv (congrArg Value.bool (by first | rfl | simp [*]))))
  · skip
    have hb5p := of_decide_eq_false hb5
    refine q_seg (S := (fun x_ => St w x_ [Res.box blk4 [Value.int .i64 b0, Value.int .i64 b1, Value.slice b2A b2n b2c, Value.int .i64 b3] 32, Res.box blk2 [Value.int .i64 a0, Value.int .i64 a1, Value.slice a2A a2n a2c, Value.int .i64 a3] 32])) [(4, Value.bool false), (30, Value.bool false), (29, undef), (28, undef), (27, undef), (26, undef), (25, undef), (24, Value.bool false), (23, Value.bool false), (22, undef), (21, undef), (20, undef), (19, undef), (18, undef), (17, Value.bool false), (16, Value.bool false), (15, undef), (14, undef), (13, undef), (12, undef), (11, undef)] [.skip, .skip, .skip, .skip, .skip, .v (.bool false), .no, .skip, .skip, .skip, .skip, .skip, .v (.bool false), .no, .skip, .skip, .skip, .skip, .skip, .v (.bool false), .no] (((decide (a0 = b0)) = !true) ∧ ((decide (a0 = b0)) = !true) ∧ ((decide (a0 = b0)) = !true) ∧ ((decide (a0 = b0)) = !true) ∧ ((decide (a0 = b0)) = !true) ∧ ((decide (a0 = b0)) = false) ∧ (false = !true) ∧ (false = !true) ∧ (false = !true) ∧ (false = !true) ∧ (false = !true) ∧ (false = false) ∧ (false = !true) ∧ (false = !true) ∧ (false = !true) ∧ (false = !true) ∧ (false = !true) ∧ (false = false)) (by kernel_rfl) ⟨hb5, hb5, hb5, hb5, hb5, hb5, rfl, rfl, rfl, rfl, rfl, rfl, rfl, rfl, rfl, rfl, rfl, rfl⟩ hS3 ?_
    refine l_nil rfl ?_
    refine then_n ?_
    refine wp_ret ?_
    exact c_end (S := (fun x_ => St w x_ [Res.box blk4 [Value.int .i64 b0, Value.int .i64 b1, Value.slice b2A b2n b2c, Value.int .i64 b3] 32, Res.box blk2 [Value.int .i64 a0, Value.int .i64 a1, Value.slice a2A a2n a2c, Value.int .i64 a3] 32])) (rs := [.tmp 4]) rfl [] (v := Value.bool false) (C := True) (by kernel_rfl) trivial hS3 ((hS3.rv (congrArg Value.bool (by first | rfl | simp [*]))))
theorem EqualRadio_s_c (a0 : Int) (a1 : Int) (a2 : Int) (a3 : Int) (a4A : Option Addr) (a4n a4c : Nat) (a4z : List Int) (a5 : Int) (b0 : Int) (b1 : Int) (b2 : Int) (b3 : Int) (b4A : Option Addr) (b4n b4c : Nat) (b4z : List Int) (b5 : Int) (w : World) (a4h : Rd w w.heap.size a4A a4n (a4z.map (Value.int .u8))) (a4w : a4n ≤ 1099511627776) (a4o : okz .u8 a4z) (b4h : Rd w w.heap.size b4A b4n (b4z.map (Value.int .u8))) (b4w : b4n ≤ 1099511627776) (b4o : okz .u8 b4z) : Calls Try.prog 20 #[Value.agg #[Value.int .i64 a0, Value.int .i64 a1, Value.int .i64 a2, Value.int .i64 a3, Value.slice a4A a4n a4c, Value.int .i64 a5], Value.agg #[Value.int .i64 b0, Value.int .i64 b1, Value.int .i64 b2, Value.int .i64 b3, Value.slice b4A b4n b4c, Value.int .i64 b5]] w (RetV w (.bool ((decide (a0 = b0) && decide (a1 = b1)) && (((decide (a2 = b2) && decide (a3 = b3)) && decide (a5 = b5)) && decide (a4z = b4z))))) := by
  have a4l := a4h.len
  have b4l := b4h.len
  refine calls_FA Try.func20 rfl (n := 24) rfl (l := [(0, Value.agg #[Value.int .i64 a0, Value.int .i64 a1, Value.int .i64 a2, Value.int .i64 a3, Value.slice a4A a4n a4c, Value.int .i64 a5]), (1, Value.agg #[Value.int .i64 b0, Value.int .i64 b1, Value.int .i64 b2, Value.int .i64 b3, Value.slice b4A b4n b4c, Value.int .i64 b5])]) rfl (by simp) (fun g => ?_)
  have hS := St.init w
  refine wp_seq ?_
  refine c_reg ?_
  refine l_op rfl rfl (fun K hK => op_box (d := some 2) rfl rfl [Value.int .i64 a0, Value.int .i64 a1, Value.int .i64 a2, Value.int .i64 a3, Value.slice a4A a4n a4c, Value.int .i64 a5] (by kernel_rfl) hS (fun blk2 w1 hS1 => hK _ _ ?_))
  clear hK K
  refine l_op rfl rfl (fun K hK => op_box (d := some 3) rfl rfl [Value.int .i64 b0, Value.int .i64 b1, Value.int .i64 b2, Value.int .i64 b3, Value.slice b4A b4n b4c, Value.int .i64 b5] (by kernel_rfl) hS1 (fun blk4 w3 hS3 => hK _ _ ?_))
  clear hK K
  refine q_seg (S := (fun x_ => St w x_ [Res.box blk4 [Value.int .i64 b0, Value.int .i64 b1, Value.int .i64 b2, Value.int .i64 b3, Value.slice b4A b4n b4c, Value.int .i64 b5] 34, Res.box blk2 [Value.int .i64 a0, Value.int .i64 a1, Value.int .i64 a2, Value.int .i64 a3, Value.slice a4A a4n a4c, Value.int .i64 a5] 34])) [(4, Value.bool false)] [.no] True (by kernel_rfl) trivial hS3 ?_
  refine l_nil rfl ?_
  refine then_n ?_
  refine wp_seq ?_
  refine c_reg ?_
  refine q_seg (S := (fun x_ => St w x_ [Res.box blk4 [Value.int .i64 b0, Value.int .i64 b1, Value.int .i64 b2, Value.int .i64 b3, Value.slice b4A b4n b4c, Value.int .i64 b5] 34, Res.box blk2 [Value.int .i64 a0, Value.int .i64 a1, Value.int .i64 a2, Value.int .i64 a3, Value.slice a4A a4n a4c, Value.int .i64 a5] 34])) [(10, Value.bool (decide (a0 = b0))), (9, Value.bool (decide (a0 = b0))), (8, Value.int .i64 b0), (7, Value.pointer (some ⟨blk4, 0 + 0, none⟩)), (6, Value.int .i64 a0), (5, Value.pointer (some ⟨blk2, 0 + 0, none⟩))] [.no, .v (Value.int .i64 a0), .no, .v (Value.int .i64 b0), .no, .no] ((LoadsAt Try.prog (fun x_ => St w x_ [Res.box blk4 [Value.int .i64 b0, Value.int .i64 b1, Value.int .i64 b2, Value.int .i64 b3, Value.slice b4A b4n b4c, Value.int .i64 b5] 34, Res.box blk2 [Value.int .i64 a0, Value.int .i64 a1, Value.int .i64 a2, Value.int .i64 a3, Value.slice a4A a4n a4c, Value.int .i64 a5] 34]) 3 ⟨blk2, 0 + 0, none⟩ (Value.int .i64 a0)) ∧ (LoadsAt Try.prog (fun x_ => St w x_ [Res.box blk4 [Value.int .i64 b0, Value.int .i64 b1, Value.int .i64 b2, Value.int .i64 b3, Value.slice b4A b4n b4c, Value.int .i64 b5] 34, Res.box blk2 [Value.int .i64 a0, Value.int .i64 a1, Value.int .i64 a2, Value.int .i64 a3, Value.slice a4A a4n a4c, Value.int .i64 a5] 34]) 3 ⟨blk4, 0 + 0, none⟩ (Value.int .i64 b0))) (by kernel_rfl) ⟨(ld_box (i := 1) rfl rfl (by kernel_rfl)), (ld_box (i := 0) rfl rfl (by kernel_rfl))⟩ hS3 ?_
  rcases Bool.eq_false_or_eq_true (decide (a0 = b0)) with hb5 | hb5
  · skip
    have hb5p := of_decide_eq_true hb5
    refine q_seg (S := (fun x_ => St w x_ [Res.box blk4 [Value.int .i64 b0, Value.int .i64 b1, Value.int .i64 b2, Value.int .i64 b3, Value.slice b4A b4n b4c, Value.int .i64 b5] 34, Res.box blk2 [Value.int .i64 a0, Value.int .i64 a1, Value.int .i64 a2, Value.int .i64 a3, Value.slice a4A a4n a4c, Value.int .i64 a5] 34])) [(17, Value.bool (decide (a1 = b1))), (16, Value.bool (decide (a1 = b1))), (15, Value.bool (decide (a1 = b1))), (14, Value.int .i64 b1), (13, Value.pointer (some ⟨blk4, 0 + 1, none⟩)), (12, Value.int .i64 a1), (11, Value.pointer (some ⟨blk2, 0 + 1, none⟩))] [.no, .v (Value.int .i64 a1), .no, .v (Value.int .i64 b1), .no, .v (.bool true), .no] (((decide (a0 = b0)) = true) ∧ ((decide (a0 = b0)) = true) ∧ (LoadsAt Try.prog (fun x_ => St w x_ [Res.box blk4 [Value.int .i64 b0, Value.int .i64 b1, Value.int .i64 b2, Value.int .i64 b3, Value.slice b4A b4n b4c, Value.int .i64 b5] 34, Res.box blk2 [Value.int .i64 a0, Value.int .i64 a1, Value.int .i64 a2, Value.int .i64 a3, Value.slice a4A a4n a4c, Value.int .i64 a5] 34]) 3 ⟨blk2, 0 + 1, none⟩ (Value.int .i64 a1)) ∧ ((decide (a0 = b0)) = true) ∧ ((decide (a0 = b0)) = true) ∧ (LoadsAt Try.prog (fun x_ => St w x_ [Res.box blk4 [Value.int .i64 b0, Value.int .i64 b1, Value.int .i64 b2, Value.int .i64 b3, Value.slice b4A b4n b4c, Value.int .i64 b5] 34, Res.box blk2 [Value.int .i64 a0, Value.int .i64 a1, Value.int .i64 a2, Value.int .i64 a3, Value.slice a4A a4n a4c, Value.int .i64 a5] 34]) 3 ⟨blk4, 0 + 1, none⟩ (Value.int .i64 b1)) ∧ ((decide (a0 = b0)) = true) ∧ ((decide (a0 = b0)) = true)) (by kernel_rfl) ⟨hb5, hb5, (ld_box (i := 1) rfl rfl (by kernel_rfl)), hb5, hb5, (ld_box (i := 0) rfl rfl (by kernel_rfl)), hb5, hb5⟩ hS3 ?_
    rcases Bool.eq_false_or_eq_true (decide (a1 = b1)) with hb6 | hb6
    · skip
      have hb6p := of_decide_eq_true hb6
      refine q_seg (S := (fun x_ => St w x_ [Res.box blk4 [Value.int .i64 b0, Value.int .i64 b1, Value.int .i64 b2, Value.int .i64 b3, Value.slice b4A b4n b4c, Value.int .i64 b5] 34, Res.box blk2 [Value.int .i64 a0, Value.int .i64 a1, Value.int .i64 a2, Value.int .i64 a3, Value.slice a4A a4n a4c, Value.int .i64 a5] 34])) [(21, Value.agg #[Value.int .i64 b2, Value.int .i64 b3, Value.slice b4A b4n b4c, Value.int .i64 b5]), (20, Value.pointer (some ⟨blk4, 0 + 2, none⟩)), (19, Value.agg #[Value.int .i64 a2, Value.int .i64 a3, Value.slice a4A a4n a4c, Value.int .i64 a5]), (18, Value.pointer (some ⟨blk2, 0 + 2, none⟩))] [.no, .v (Value.agg #[Value.int .i64 a2, Value.int .i64 a3, Value.slice a4A a4n a4c, Value.int .i64 a5]), .no, .v (Value.agg #[Value.int .i64 b2, Value.int .i64 b3, Value.slice b4A b4n b4c, Value.int .i64 b5])] (((decide (a1 = b1)) = true) ∧ ((decide (a1 = b1)) = true) ∧ (LoadsAt Try.prog (fun x_ => St w x_ [Res.box blk4 [Value.int .i64 b0, Value.int .i64 b1, Value.int .i64 b2, Value.int .i64 b3, Value.slice b4A b4n b4c, Value.int .i64 b5] 34, Res.box blk2 [Value.int .i64 a0, Value.int .i64 a1, Value.int .i64 a2, Value.int .i64 a3, Value.slice a4A a4n a4c, Value.int .i64 a5] 34]) 32 ⟨blk2, 0 + 2, none⟩ (Value.agg #[Value.int .i64 a2, Value.int .i64 a3, Value.slice a4A a4n a4c, Value.int .i64 a5])) ∧ ((decide (a1 = b1)) = true) ∧ ((decide (a1 = b1)) = true) ∧ (LoadsAt Try.prog (fun x_ => St w x_ [Res.box blk4 [Value.int .i64 b0, Value.int .i64 b1, Value.int .i64 b2, Value.int .i64 b3, Value.slice b4A b4n b4c, Value.int .i64 b5] 34, Res.box blk2 [Value.int .i64 a0, Value.int .i64 a1, Value.int .i64 a2, Value.int .i64 a3, Value.slice a4A a4n a4c, Value.int .i64 a5] 34]) 32 ⟨blk4, 0 + 2, none⟩ (Value.agg #[Value.int .i64 b2, Value.int .i64 b3, Value.slice b4A b4n b4c, Value.int .i64 b5]))) (by kernel_rfl) ⟨hb6, hb6, (ld_boxN (i := 1) (k := 4) rfl rfl rfl (by kernel_rfl)), hb6, hb6, (ld_boxN (i := 0) (k := 4) rfl rfl rfl (by kernel_rfl))⟩ hS3 ?_
      refine l_opg rfl (b := (decide (a1 = b1))) (want := true) (by kernel_rfl) hb6 (fun K hK => op_callv (d := some 22) rfl rfl ⟨_, Try.func52, by kernel_rfl, by kernel_rfl⟩ (vs := [Value.agg #[Value.int .i64 a2, Value.int .i64 a3, Value.slice a4A a4n a4c, Value.int .i64 a5], Value.agg #[Value.int .i64 b2, Value.int .i64 b3, Value.slice b4A b4n b4c, Value.int .i64 b5]]) (by kernel_rfl) (v := Value.bool (((decide (a2 = b2) && decide (a3 = b3)) && decide (a5 = b5)) && decide (a4z = b4z))) (EqualSecured_s_c a2 a3 a4A a4n a4c a4z a5 b2 b3 b4A b4n b4c b4z b5 w3 (hS3.rdlow a4h) (by omega) a4o (hS3.rdlow b4h) (by omega) b4o) hS3 (fun w7 hS7 => hK _ _ ?_))
      clear hK K
      refine q_seg (S := (fun x_ => St w x_ [Res.box blk4 [Value.int .i64 b0, Value.int .i64 b1, Value.int .i64 b2, Value.int .i64 b3, Value.slice b4A b4n b4c, Value.int .i64 b5] 34, Res.box blk2 [Value.int .i64 a0, Value.int .i64 a1, Value.int .i64 a2, Value.int .i64 a3, Value.slice a4A a4n a4c, Value.int .i64 a5] 34])) [(4, Value.bool (((decide (a2 = b2) && decide (a3 = b3)) && decide (a5 = b5)) && decide (a4z = b4z))), (23, Value.bool (((decide (a2 = b2) && decide (a3 = b3)) && decide (a5 = b5)) && decide (a4z = b4z)))] [.v (.bool true), .no] (((decide (a1 = b1)) = true)) (by kernel_rfl) hb6 hS7 ?_
      refine l_nil rfl ?_
      refine then_n ?_
      refine wp_ret ?_
      exact c_end (S := (fun x_ => St w x_ [Res.box blk4 [Value.int .i64 b0, Value.int .i64 b1, Value.int .i64 b2, Value.int .i64 b3, Value.slice b4A b4n b4c, Value.int .i64 b5] 34, Res.box blk2 [Value.int .i64 a0, Value.int .i64 a1, Value.int .i64 a2, Value.int .i64 a3, Value.slice a4A a4n a4c, Value.int .i64 a5] 34])) (rs := [.tmp 4]) rfl [] (v := Value.bool (((decide (a2 = b2) && decide (a3 = b3)) && decide (a5 = b5)) && decide (a4z = b4z))) (C := True) (by kernel_rfl) trivial hS7 ((hS7.rv (congrArg Value.bool (by first | rfl | simp [*]))))
    · skip
      have hb6p := of_decide_eq_false hb6
      refine q_seg (S := (fun x_ => St w x_ [Res.box blk4 [Value.int .i64 b0, Value.int .i64 b1, Value.int .i64 b2, Value.int .i64 b3, Value.slice b4A b4n b4c, Value.int .i64 b5] 34, Res.box blk2 [Value.int .i64 a0, Value.int .i64 a1, Value.int .i64 a2, Value.int .i64 a3, Value.slice a4A a4n a4c, Value.int .i64 a5] 34])) [(4, Value.bool false), (23, Value.bool false), (22, undef), (21, undef), (20, undef), (19, undef), (18, undef)] [.skip, .skip, .skip, .skip, .skip, .v (.bool false), .no] (((decide (a1 = b1)) = !true) ∧ ((decide (a1 = b1)) = !true) ∧ ((decide (a1 = b1)) = !true) ∧ ((decide (a1 = b1)) = !true) ∧ ((decide (a1 = b1)) = !true) ∧ ((decide (a1 = b1)) = false)) (by kernel_rfl) ⟨hb6, hb6, hb6, hb6, hb6, hb6⟩ hS3 ?_
      refine l_nil rfl ?_
      refine then_n ?_
      refine wp_ret ?_
      exact c_end (S := (fun x_ => St w x_ [Res.box blk4 [Value.int .i64 b0, Value.int .i64 b1, Value.int .i64 b2, Value.int .i64 b3, Value.slice b4A b4n b4c, Value.int .i64 b5] 34, Res.box blk2 [Value.int .i64 a0, Value.int .i64 a1, Value.int .i64 a2, Value.int .i64 a3, Value.slice a4A a4n a4c, Value.int .i64 a5] 34])) (rs := [.tmp 4]) rfl [] (v := Value.bool false) (C := True) (by kernel_rfl) trivial hS3 ((hS3.rv (congrArg Value.bool (by first | rfl | simp [*]))))
  · skip
    have hb5p := of_decide_eq_false hb5
    refine q_seg (S := (fun x_ => St w x_ [Res.box blk4 [Value.int .i64 b0, Value.int .i64 b1, Value.int .i64 b2, Value.int .i64 b3, Value.slice b4A b4n b4c, Value.int .i64 b5] 34, Res.box blk2 [Value.int .i64 a0, Value.int .i64 a1, Value.int .i64 a2, Value.int .i64 a3, Value.slice a4A a4n a4c, Value.int .i64 a5] 34])) [(4, Value.bool false), (23, Value.bool false), (22, undef), (21, undef), (20, undef), (19, undef), (18, undef), (17, Value.bool false), (16, Value.bool false), (15, undef), (14, undef), (13, undef), (12, undef), (11, undef)] [.skip, .skip, .skip, .skip, .skip, .v (.bool false), .no, .skip, .skip, .skip, .skip, .skip, .v (.bool false), .no] (((decide (a0 = b0)) = !true) ∧ ((decide (a0 = b0)) = !true) ∧ ((decide (a0 = b0)) = !true) ∧ ((decide (a0 = b0)) = !true) ∧ ((decide (a0 = b0)) = !true) ∧ ((decide (a0 = b0)) = false) ∧ (false = !true) ∧ (false = !true) ∧ (false = !true) ∧ (false = !true) ∧ (false = !true) ∧ (false = false)) (by kernel_rfl) ⟨hb5, hb5, hb5, hb5, hb5, hb5, rfl, rfl, rfl, rfl, rfl, rfl⟩ hS3 ?_
    refine l_nil rfl ?_
    refine then_n ?_
    refine wp_ret ?_
    exact c_end (S := (fun x_ => St w x_ [Res.box blk4 [Value.int .i64 b0, Value.int .i64 b1, Value.int .i64 b2, Value.int .i64 b3, Value.slice b4A b4n b4c, Value.int .i64 b5] 34, Res.box blk2 [Value.int .i64 a0, Value.int .i64 a1, Value.int .i64 a2, Value.int .i64 a3, Value.slice a4A a4n a4c, Value.int .i64 a5] 34])) (rs := [.tmp 4]) rfl [] (v := Value.bool false) (C := True) (by kernel_rfl) trivial hS3 ((hS3.rv (congrArg Value.bool (by first | rfl | simp [*]))))
end Go.Proofs.Ytfkeiegajaofdaa
