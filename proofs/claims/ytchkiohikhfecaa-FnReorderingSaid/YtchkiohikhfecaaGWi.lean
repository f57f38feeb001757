/-
  Contracts of the window functions: copies, comparisons, sizes, marks of the windows.
-/
import Derived.Test.YtchkiohikhfecaaGDp
namespace Go.Proofs.Ytchkiohikhfecaa
open Go.RowKit
set_option maxRecDepth 100000

theorem toSendWindow_c (a0 : Int) (a1A : Option Addr) (a1n a1c : Nat) (a1L : List (Int × List Int)) (w : World) (a1h : RdL .u8 true w w.heap.size a1A a1n a1L) (a1w : wt a1L ≤ 1099511627776) : Calls Try.prog 31 #[Value.agg #[Value.int .i64 a0, Value.slice a1A a1n a1c]] w (Ret w (fun v new => ∃ (A0_ : Option Addr) (c0_ : Nat) (y0_ : List It), v = Value.agg #[Value.int .i64 a0, Value.slice A0_ a1n c0_] ∧ new = Res.row (Value.slice A0_ a1n c0_) 37 2 a1n (flat true y0_) :: ((y0_.map (It.row .u8 5)) ++ []) ∧ y0_.map (con true) = a1L)) := by
  have a1l := a1h.len
  have a1v := wt_len a1L
  refine calls_FA Try.func31 rfl (n := 12) rfl (l := [(0, Value.agg #[Value.int .i64 a0, Value.slice a1A a1n a1c])]) rfl (by simp) (fun g => ?_)
  have hS := St.init w
  refine wp_seq ?_
  refine c_reg ?_
  refine l_op rfl rfl (fun K hK => op_box (d := some 1) rfl rfl [Value.int .i64 a0, Value.slice a1A a1n a1c] (by kernel_rfl) hS (fun blk2 w1 hS1 => hK _ _ ?_))
  clear hK K
  refine l_op rfl rfl (fun K hK => op_alloc (d := some 2) rfl rfl [Value.int .i64 0, Value.slice none 0 0] (by kernel_rfl) hS1 (fun blk4 w3 hS3 => hK _ _ ?_))
  clear hK K
  refine l_nil rfl ?_
  refine then_n ?_
  refine wp_seq ?_
  refine c_reg ?_
  refine l_op rfl rfl (fun K hK => op_alloc (d := some 3) rfl rfl [Value.int .i64 0, Value.slice none 0 0] (by kernel_rfl) hS3 (fun blk6 w5 hS5 => hK _ _ ?_))
  clear hK K
  refine l_nil rfl ?_
  refine then_n ?_
  refine wp_seq ?_
  refine c_reg ?_
  refine q_seg (S := (fun x_ => St w x_ [Res.box blk6 [Value.int .i64 0, Value.slice none 0 0] 55, Res.box blk4 [Value.int .i64 0, Value.slice none 0 0] 55, Res.box blk2 [Value.int .i64 a0, Value.slice a1A a1n a1c] 51])) [(6, Value.pointer (some ⟨blk6, 0 + 0, none⟩)), (5, Value.int .i64 a0), (4, Value.pointer (some ⟨blk2, 0 + 0, none⟩))] [.no, .v (Value.int .i64 a0), .no] ((LoadsAt Try.prog (fun x_ => St w x_ [Res.box blk6 [Value.int .i64 0, Value.slice none 0 0] 55, Res.box blk4 [Value.int .i64 0, Value.slice none 0 0] 55, Res.box blk2 [Value.int .i64 a0, Value.slice a1A a1n a1c] 51]) 3 ⟨blk2, 0 + 0, none⟩ (Value.int .i64 a0))) (by kernel_rfl) (ld_box (i := 2) rfl rfl (by kernel_rfl)) hS5 ?_
  refine l_op rfl rfl (fun K hK => op_store (d := none) rfl rfl (i := 0) (b := blk6) (off := 0 + 0) (cs := [Value.int .i64 0, Value.slice none 0 0]) (bt := 55) (by kernel_rfl) (by kernel_rfl) [Value.int .i64 a0] (by kernel_rfl) (by kernel_rfl) (Nat.le_of_ble_eq_true (by kernel_rfl)) (by kernel_rfl) [Res.box blk6 [Value.int .i64 a0, Value.slice none 0 0] 55, Res.box blk4 [Value.int .i64 0, Value.slice none 0 0] 55, Res.box blk2 [Value.int .i64 a0, Value.slice a1A a1n a1c] 51] (by kernel_rfl) hS5 (fun w7 hS7 => hK _ _ ?_))
  clear hK K
  refine l_nil rfl ?_
  refine then_n ?_
  refine wp_seq ?_
  refine c_reg ?_
  refine q_seg (S := (fun x_ => St w x_ [Res.box blk6 [Value.int .i64 a0, Value.slice none 0 0] 55, Res.box blk4 [Value.int .i64 0, Value.slice none 0 0] 55, Res.box blk2 [Value.int .i64 a0, Value.slice a1A a1n a1c] 51])) [(8, Value.slice a1A a1n a1c), (7, Value.pointer (some ⟨blk2, 0 + 1, none⟩))] [.no, .v (Value.slice a1A a1n a1c)] ((LoadsAt Try.prog (fun x_ => St w x_ [Res.box blk6 [Value.int .i64 a0, Value.slice none 0 0] 55, Res.box blk4 [Value.int .i64 0, Value.slice none 0 0] 55, Res.box blk2 [Value.int .i64 a0, Value.slice a1A a1n a1c] 51]) 22 ⟨blk2, 0 + 1, none⟩ (Value.slice a1A a1n a1c))) (by kernel_rfl) (ld_box (i := 2) rfl rfl (by kernel_rfl)) hS7 ?_
  refine l_op rfl rfl (fun K hK => op_call (d := some 9) rfl rfl ⟨_, Try.func66, by kernel_rfl, by kernel_rfl⟩ (vs := [Value.slice a1A a1n a1c]) (by kernel_rfl) (toNumberedPacketS_c a1A a1n a1c a1L w7 (by omega) (hS7.rdllow a1h)) hS7 (fun v10 new11 w8 Rw8 hS8 => hK _ _ ?_))
  clear hK K
  obtain ⟨Aq12, cq13, yq14, rfl, rfl, hcq15⟩ := Rw8
  have hS8r : St w w8 (Res.row (Value.slice Aq12 a1n cq13) 37 2 a1n (flat true yq14) :: Res.box blk6 [Value.int .i64 a0, Value.slice none 0 0] 55 :: Res.box blk4 [Value.int .i64 0, Value.slice none 0 0] 55 :: Res.box blk2 [Value.int .i64 a0, Value.slice a1A a1n a1c] 51 :: ((yq14.map (It.row .u8 5)) ++ [])) := St.rot_1 [Res.row (Value.slice Aq12 a1n cq13) 37 2 a1n (flat true yq14)] [Res.box blk6 [Value.int .i64 a0, Value.slice none 0 0] 55, Res.box blk4 [Value.int .i64 0, Value.slice none 0 0] 55, Res.box blk2 [Value.int .i64 a0, Value.slice a1A a1n a1c] 51] [] (yq14.map (It.row .u8 5)) hS8
  refine q_seg (S := (fun x_ => St w x_ (Res.row (Value.slice Aq12 a1n cq13) 37 2 a1n (flat true yq14) :: Res.box blk6 [Value.int .i64 a0, Value.slice none 0 0] 55 :: Res.box blk4 [Value.int .i64 0, Value.slice none 0 0] 55 :: Res.box blk2 [Value.int .i64 a0, Value.slice a1A a1n a1c] 51 :: ((yq14.map (It.row .u8 5)) ++ [])))) [(10, Value.pointer (some ⟨blk6, 0 + 1, none⟩))] [.no] True (by kernel_rfl) trivial hS8r ?_
  refine l_op rfl rfl (fun K hK => op_store (d := none) rfl rfl (i := 1) (b := blk6) (off := 0 + 1) (cs := [Value.int .i64 a0, Value.slice none 0 0]) (bt := 55) (by kernel_rfl) (by kernel_rfl) [Value.slice Aq12 a1n cq13] (by kernel_rfl) (by kernel_rfl) (Nat.le_of_ble_eq_true (by kernel_rfl)) (by kernel_rfl) (Res.row (Value.slice Aq12 a1n cq13) 37 2 a1n (flat true yq14) :: Res.box blk6 [Value.int .i64 a0, Value.slice Aq12 a1n cq13] 55 :: Res.box blk4 [Value.int .i64 0, Value.slice none 0 0] 55 :: Res.box blk2 [Value.int .i64 a0, Value.slice a1A a1n a1c] 51 :: ((yq14.map (It.row .u8 5)) ++ [])) (by kernel_rfl) hS8r (fun w16 hS16 => hK _ _ ?_))
  clear hK K
  refine l_nil rfl ?_
  refine then_n ?_
  refine wp_seq ?_
  refine c_reg ?_
  refine q_seg (S := (fun x_ => St w x_ (Res.row (Value.slice Aq12 a1n cq13) 37 2 a1n (flat true yq14) :: Res.box blk6 [Value.int .i64 a0, Value.slice Aq12 a1n cq13] 55 :: Res.box blk4 [Value.int .i64 0, Value.slice none 0 0] 55 :: Res.box blk2 [Value.int .i64 a0, Value.slice a1A a1n a1c] 51 :: ((yq14.map (It.row .u8 5)) ++ [])))) [(11, Value.agg #[Value.int .i64 a0, Value.slice Aq12 a1n cq13])] [.v (Value.agg #[Value.int .i64 a0, Value.slice Aq12 a1n cq13])] ((LoadsAt Try.prog (fun x_ => St w x_ (Res.row (Value.slice Aq12 a1n cq13) 37 2 a1n (flat true yq14) :: Res.box blk6 [Value.int .i64 a0, Value.slice Aq12 a1n cq13] 55 :: Res.box blk4 [Value.int .i64 0, Value.slice none 0 0] 55 :: Res.box blk2 [Value.int .i64 a0, Value.slice a1A a1n a1c] 51 :: ((yq14.map (It.row .u8 5)) ++ []))) 55 ⟨blk6, 0, none⟩ (Value.agg #[Value.int .i64 a0, Value.slice Aq12 a1n cq13]))) (by kernel_rfl) (ld_boxN (i := 1) (k := 2) rfl rfl rfl (by kernel_rfl)) hS16 ?_
  refine l_op rfl rfl (fun K hK => op_store (d := none) rfl rfl (i := 2) (b := blk4) (off := 0) (cs := [Value.int .i64 0, Value.slice none 0 0]) (bt := 55) (by kernel_rfl) (by kernel_rfl) [Value.int .i64 a0, Value.slice Aq12 a1n cq13] (by kernel_rfl) (by kernel_rfl) (Nat.le_of_ble_eq_true (by kernel_rfl)) (by kernel_rfl) (Res.row (Value.slice Aq12 a1n cq13) 37 2 a1n (flat true yq14) :: Res.box blk6 [Value.int .i64 a0, Value.slice Aq12 a1n cq13] 55 :: Res.box blk4 [Value.int .i64 a0, Value.slice Aq12 a1n cq13] 55 :: Res.box blk2 [Value.int .i64 a0, Value.slice a1A a1n a1c] 51 :: ((yq14.map (It.row .u8 5)) ++ [])) (by kernel_rfl) hS16 (fun w17 hS17 => hK _ _ ?_))
  clear hK K
  refine l_nil rfl ?_
  refine then_n ?_
  refine wp_ret ?_
  have hS17s1 : St w w17 (Res.row (Value.slice Aq12 a1n cq13) 37 2 a1n (flat true yq14) :: ((yq14.map (It.row .u8 5)) ++ [])) := (hS17.sub (List.Sublist.cons_cons _ (List.Sublist.cons _ (List.Sublist.cons _ (List.Sublist.cons _ (List.Sublist.append (List.Sublist.refl _) List.Sublist.slnil))))))
  exact c_end (S := (fun x_ => St w x_ (Res.row (Value.slice Aq12 a1n cq13) 37 2 a1n (flat true yq14) :: Res.box blk6 [Value.int .i64 a0, Value.slice Aq12 a1n cq13] 55 :: Res.box blk4 [Value.int .i64 a0, Value.slice Aq12 a1n cq13] 55 :: Res.box blk2 [Value.int .i64 a0, Value.slice a1A a1n a1c] 51 :: ((yq14.map (It.row .u8 5)) ++ [])))) (rs := [.cell 2 55]) rfl [Value.agg #[Value.int .i64 a0, Value.slice Aq12 a1n cq13]] (v := Value.agg #[Value.int .i64 a0, Value.slice Aq12 a1n cq13]) (C := ((LoadsAt Try.prog (fun x_ => St w x_ (Res.row (Value.slice Aq12 a1n cq13) 37 2 a1n (flat true yq14) :: Res.box blk6 [Value.int .i64 a0, Value.slice Aq12 a1n cq13] 55 :: Res.box blk4 [Value.int .i64 a0, Value.slice Aq12 a1n cq13] 55 :: Res.box blk2 [Value.int .i64 a0, Value.slice a1A a1n a1c] 51 :: ((yq14.map (It.row .u8 5)) ++ []))) 55 ⟨blk4, 0, none⟩ (Value.agg #[Value.int .i64 a0, Value.slice Aq12 a1n cq13])))) (by kernel_rfl) (ld_boxN (i := 2) (k := 2) rfl rfl rfl (by kernel_rfl)) hS17 (hS17s1.rt ⟨_, _, _, rfl, rfl, hcq15⟩)
theorem eqSendWindow_c (a0 : Int) (a1A : Option Addr) (a1n a1c : Nat) (a1L : List (Int × List Int)) (b1A : Option Addr) (b1c : Nat) (w : World) (a1h : RdL .u8 true w w.heap.size a1A a1n a1L) (a1w : wt a1L ≤ 1099511627776) (b1h : RdL .u8 true w w.heap.size b1A a1n a1L) : Calls Try.prog 33 #[Value.agg #[Value.int .i64 a0, Value.slice a1A a1n a1c], Value.agg #[Value.int .i64 a0, Value.slice b1A a1n b1c]] w (RetV w (.bool true)) := by
  have a1l := a1h.len
  have a1v := wt_len a1L
  refine calls_FA Try.func33 rfl (n := 16) rfl (l := [(0, Value.agg #[Value.int .i64 a0, Value.slice a1A a1n a1c]), (1, Value.agg #[Value.int .i64 a0, Value.slice b1A a1n b1c])]) rfl (by simp) (fun g => ?_)
  have hS := St.init w
  refine wp_seq ?_
  refine c_reg ?_
  refine l_op rfl rfl (fun K hK => op_box (d := some 2) rfl rfl [Value.int .i64 a0, Value.slice a1A a1n a1c] (by kernel_rfl) hS (fun blk2 w1 hS1 => hK _ _ ?_))
  clear hK K
  refine l_op rfl rfl (fun K hK => op_box (d := some 3) rfl rfl [Value.int .i64 a0, Value.slice b1A a1n b1c] (by kernel_rfl) hS1 (fun blk4 w3 hS3 => hK _ _ ?_))
  clear hK K
  refine q_seg (S := (fun x_ => St w x_ [Res.box blk4 [Value.int .i64 a0, Value.slice b1A a1n b1c] 55, Res.box blk2 [Value.int .i64 a0, Value.slice a1A a1n a1c] 55])) [(4, Value.bool false)] [.no] True (by kernel_rfl) trivial hS3 ?_
  refine l_nil rfl ?_
  refine then_n ?_
  refine wp_seq ?_
  refine wp_seq ?_
  refine c_reg ?_
  refine q_seg (S := (fun x_ => St w x_ [Res.box blk4 [Value.int .i64 a0, Value.slice b1A a1n b1c] 55, Res.box blk2 [Value.int .i64 a0, Value.slice a1A a1n a1c] 55])) [(9, Value.bool (!(decide (a0 = a0)))), (8, Value.int .i64 a0), (7, Value.pointer (some ⟨blk4, 0 + 0, none⟩)), (6, Value.int .i64 a0), (5, Value.pointer (some ⟨blk2, 0 + 0, none⟩))] [.no, .v (Value.int .i64 a0), .no, .v (Value.int .i64 a0), .no] ((LoadsAt Try.prog (fun x_ => St w x_ [Res.box blk4 [Value.int .i64 a0, Value.slice b1A a1n b1c] 55, Res.box blk2 [Value.int .i64 a0, Value.slice a1A a1n a1c] 55]) 3 ⟨blk2, 0 + 0, none⟩ (Value.int .i64 a0)) ∧ (LoadsAt Try.prog (fun x_ => St w x_ [Res.box blk4 [Value.int .i64 a0, Value.slice b1A a1n b1c] 55, Res.box blk2 [Value.int .i64 a0, Value.slice a1A a1n a1c] 55]) 3 ⟨blk4, 0 + 0, none⟩ (Value.int .i64 a0))) (by kernel_rfl) ⟨(ld_box (i := 1) rfl rfl (by kernel_rfl)), (ld_box (i := 0) rfl rfl (by kernel_rfl))⟩ hS3 ?_
  refine l_nil rfl ?_
  refine then_n ?_
  refine c_false (b := (!(decide (a0 = a0)))) (by kernel_rfl) (nb (v := true) (decide_eq_true rfl)) ?_
  refine wp_skip ?_
  refine then_n ?_
  refine wp_seq ?_
  refine wp_seq ?_
  refine c_reg ?_
  refine q_seg (S := (fun x_ => St w x_ [Res.box blk4 [Value.int .i64 a0, Value.slice b1A a1n b1c] 55, Res.box blk2 [Value.int .i64 a0, Value.slice a1A a1n a1c] 55])) [(13, Value.slice b1A a1n b1c), (12, Value.pointer (some ⟨blk4, 0 + 1, none⟩)), (11, Value.slice a1A a1n a1c), (10, Value.pointer (some ⟨blk2, 0 + 1, none⟩))] [.no, .v (Value.slice a1A a1n a1c), .no, .v (Value.slice b1A a1n b1c)] ((LoadsAt Try.prog (fun x_ => St w x_ [Res.box blk4 [Value.int .i64 a0, Value.slice b1A a1n b1c] 55, Res.box blk2 [Value.int .i64 a0, Value.slice a1A a1n a1c] 55]) 31 ⟨blk2, 0 + 1, none⟩ (Value.slice a1A a1n a1c)) ∧ (LoadsAt Try.prog (fun x_ => St w x_ [Res.box blk4 [Value.int .i64 a0, Value.slice b1A a1n b1c] 55, Res.box blk2 [Value.int .i64 a0, Value.slice a1A a1n a1c] 55]) 31 ⟨blk4, 0 + 1, none⟩ (Value.slice b1A a1n b1c))) (by kernel_rfl) ⟨(ld_box (i := 1) rfl rfl (by kernel_rfl)), (ld_box (i := 0) rfl rfl (by kernel_rfl))⟩ hS3 ?_
  refine l_op rfl rfl (fun K hK => op_callv (d := some 14) rfl rfl ⟨_, Try.func72, by kernel_rfl, by kernel_rfl⟩ (vs := [Value.slice a1A a1n a1c, Value.slice b1A a1n b1c]) (by kernel_rfl) (v := Value.bool true) (eqNumberedPacketS_c a1A b1A a1n a1c b1c a1L w3 a1w (hS3.rdllow a1h) (hS3.rdllow b1h)) hS3 (fun w5 hS5 => hK _ _ ?_))
  clear hK K
  refine q_seg (S := (fun x_ => St w x_ [Res.box blk4 [Value.int .i64 a0, Value.slice b1A a1n b1c] 55, Res.box blk2 [Value.int .i64 a0, Value.slice a1A a1n a1c] 55])) [(15, Value.bool false)] [.no] True (by kernel_rfl) trivial hS5 ?_
  refine l_nil rfl ?_
  refine then_n ?_
  refine c_false (b := false) (by kernel_rfl) rfl ?_
  refine wp_skip ?_
  refine then_n ?_
  refine wp_seq ?_
  refine c_reg ?_
  refine q_seg (S := (fun x_ => St w x_ [Res.box blk4 [Value.int .i64 a0, Value.slice b1A a1n b1c] 55, Res.box blk2 [Value.int .i64 a0, Value.slice a1A a1n a1c] 55])) [(4, Value.bool true)] [.no] True (by kernel_rfl) trivial hS5 ?_
  refine l_nil rfl ?_
  refine then_n ?_
  refine wp_ret ?_
  exact c_end (S := (fun x_ => St w x_ [Res.box blk4 [Value.int .i64 a0, Value.slice b1A a1n b1c] 55, Res.box blk2 [Value.int .i64 a0, Value.slice a1A a1n a1c] 55])) (rs := [.tmp 4]) rfl [] (v := Value.bool true) (C := True) (by kernel_rfl) trivial hS5 ((hS5.rv rfl))
theorem szSendWindow_c (a0 : Int) (a1A : Option Addr) (a1n a1c : Nat) (a1L : List (Int × List Int)) (lf : Int) (w : World) (h1 : 0 ≤ lf) (h2 : lf ≤ 1099511627776) (a1h : RdL .u8 true w w.heap.size a1A a1n a1L) (a1w : a1n ≤ 9223372036854775807) : Calls Try.prog 29 #[Value.agg #[Value.int .i64 a0, Value.slice a1A a1n a1c], .int .i64 lf] w (RetV w (.int .i64 (szF lf [a1L]))) := by
  refine calls_FA Try.func29 rfl (n := 12) rfl (l := [(0, Value.agg #[Value.int .i64 a0, Value.slice a1A a1n a1c]), (1, Value.int .i64 lf)]) rfl (by simp) (fun g => ?_)
  have hS := St.init w
  refine wp_seq ?_
  refine c_reg ?_
  refine l_op rfl rfl (fun K hK => op_box (d := some 2) rfl rfl [Value.int .i64 a0, Value.slice a1A a1n a1c] (by kernel_rfl) hS (fun blk2 w1 hS1 => hK _ _ ?_))
  clear hK K
  refine q_seg (S := (fun x_ => St w x_ [Res.box blk2 [Value.int .i64 a0, Value.slice a1A a1n a1c] 51])) [(4, Value.int .i64 0)] [.no] True (by kernel_rfl) trivial hS1 ?_
  refine l_nil rfl ?_
  refine then_n ?_
  refine wp_seq ?_
  refine c_reg ?_
  refine q_seg (S := (fun x_ => St w x_ [Res.box blk2 [Value.int .i64 a0, Value.slice a1A a1n a1c] 51])) [(7, Value.int .i64 lf), (6, Value.slice a1A a1n a1c), (5, Value.pointer (some ⟨blk2, 0 + 1, none⟩))] [.no, .v (Value.slice a1A a1n a1c), .no] ((LoadsAt Try.prog (fun x_ => St w x_ [Res.box blk2 [Value.int .i64 a0, Value.slice a1A a1n a1c] 51]) 22 ⟨blk2, 0 + 1, none⟩ (Value.slice a1A a1n a1c))) (by kernel_rfl) (ld_box (i := 0) rfl rfl (by kernel_rfl)) hS1 ?_
  refine l_op rfl rfl (fun K hK => op_callv (d := some 8) rfl rfl ⟨_, Try.func60, by kernel_rfl, by kernel_rfl⟩ (vs := [Value.slice a1A a1n a1c, Value.int .i64 lf]) (by kernel_rfl) (v := Value.int .i64 (szI lf a1L)) (szNumberedPacketS_c a1A a1n a1c a1L lf w1 (by omega) (by omega) (by omega) (hS1.rdllow a1h)) hS1 (fun w3 hS3 => hK _ _ ?_))
  clear hK K
  have hsz4 := szI_le (L := a1L) (lf := lf) (by omega)
  refine q_seg (S := (fun x_ => St w x_ [Res.box blk2 [Value.int .i64 a0, Value.slice a1A a1n a1c] 51])) [(1, Value.int .i64 (szI lf a1L))] [.no] True (by kernel_rfl) trivial hS3 ?_
  refine l_nil rfl ?_
  refine then_n ?_
  refine wp_seq ?_
  refine wp_seq ?_
  refine c_reg ?_
  refine q_seg (S := (fun x_ => St w x_ [Res.box blk2 [Value.int .i64 a0, Value.slice a1A a1n a1c] 51])) [(10, Value.bool (decide ((szI lf a1L) < (0 : Int)))), (9, Value.int .i64 (szI lf a1L))] [.no, .no] True (by kernel_rfl) trivial hS3 ?_
  refine l_nil rfl ?_
  refine then_n ?_
  rcases Bool.eq_false_or_eq_true (decide ((szI lf a1L) < (0 : Int))) with hb5 | hb5
  · skip
    have hb5p := of_decide_eq_true hb5
    refine c_true (b := (decide ((szI lf a1L) < (0 : Int)))) (by kernel_rfl) hb5 ?_
    refine wp_seq ?_
    refine c_reg ?_
    refine q_seg (S := (fun x_ => St w x_ [Res.box blk2 [Value.int .i64 a0, Value.slice a1A a1n a1c] 51])) [(4, Value.int .i64 (-1))] [.no] True (by kernel_rfl) trivial hS3 ?_
    refine l_nil rfl ?_
    refine then_n ?_
    refine wp_ret ?_
    refine then_r ?_
    exact c_end (S := (fun x_ => St w x_ [Res.box blk2 [Value.int .i64 a0, Value.slice a1A a1n a1c] 51])) (rs := [.tmp 4]) rfl [] (v := Value.int .i64 (-1)) (C := True) (by kernel_rfl) trivial hS3 ((hS3.rv (congrArg (Value.int .i64) (by simp only [szF]; repeat (first | omega | rfl | split)))))
  · skip
    have hb5p := of_decide_eq_false hb5
    refine c_false (b := (decide ((szI lf a1L) < (0 : Int)))) (by kernel_rfl) hb5 ?_
    refine wp_skip ?_
    refine then_n ?_
    refine wp_seq ?_
    refine c_reg ?_
    refine q_seg (S := (fun x_ => St w x_ [Res.box blk2 [Value.int .i64 a0, Value.slice a1A a1n a1c] 51])) [(4, Value.int .i64 (szI lf a1L)), (11, Value.int .i64 (szI lf a1L))] [.no, .no] True (by kernel_rfl) trivial hS3 ?_
    refine l_nil rfl ?_
    refine then_n ?_
    refine wp_ret ?_
    exact c_end (S := (fun x_ => St w x_ [Res.box blk2 [Value.int .i64 a0, Value.slice a1A a1n a1c] 51])) (rs := [.tmp 4]) rfl [] (v := Value.int .i64 (szI lf a1L)) (C := True) (by kernel_rfl) trivial hS3 ((hS3.rv (congrArg (Value.int .i64) (by simp only [szF]; repeat (first | omega | rfl | split)))))
theorem markSendWindow_c (a0 : Int) (a1A : Option Addr) (a1n a1c : Nat) (a1L : List (Int × List Int)) (a1y : List It) (k0 : Int) (tl : List Res) (w0 w : World) (hS : St w0 w (Res.row (Value.slice a1A a1n a1c) 37 2 a1n (flat true a1y) :: ((a1y.map (It.row .u8 5)) ++ tl))) (a1q : a1y.map (con true) = a1L) (a1l : a1L.length = a1n) (hk1 : 0 ≤ k0) (hk2 : (k0 + ((totL true a1L : Nat) : Int)) ≤ 1099511627776) : Calls Try.prog 49 #[Value.agg #[Value.int .i64 a0, Value.slice a1A a1n a1c], .int .i64 k0] w (fun e w' => ∃ v own', e = .returned v ∧ St w0 w' own' ∧ (v = .int .i64 (k0 + ((totL true a1L : Nat) : Int)) ∧ own' = (Res.row (Value.slice a1A a1n a1c) 37 2 a1n (flat true (mkI (IntKind.wrap .u8) true k0 a1y)) :: (((mkI (IntKind.wrap .u8) true k0 a1y).map (It.row .u8 5)) ++ tl)))) := by
  refine calls_FA Try.func49 rfl (n := 10) rfl (l := [(0, Value.agg #[Value.int .i64 a0, Value.slice a1A a1n a1c]), (1, Value.int .i64 k0)]) rfl (by simp) (fun g => ?_)
  refine wp_seq ?_
  refine c_reg ?_
  refine l_op rfl rfl (fun K hK => op_box (d := some 2) rfl rfl [Value.int .i64 a0, Value.slice a1A a1n a1c] (by kernel_rfl) hS (fun blk2 w1 hS1 => hK _ _ ?_))
  clear hK K
  refine q_seg (S := (fun x_ => St w0 x_ (Res.box blk2 [Value.int .i64 a0, Value.slice a1A a1n a1c] 55 :: Res.row (Value.slice a1A a1n a1c) 37 2 a1n (flat true a1y) :: ((a1y.map (It.row .u8 5)) ++ tl)))) [(4, Value.int .i64 0)] [.no] True (by kernel_rfl) trivial hS1 ?_
  refine l_nil rfl ?_
  refine then_n ?_
  refine wp_seq ?_
  refine c_reg ?_
  refine q_seg (S := (fun x_ => St w0 x_ (Res.box blk2 [Value.int .i64 a0, Value.slice a1A a1n a1c] 55 :: Res.row (Value.slice a1A a1n a1c) 37 2 a1n (flat true a1y) :: ((a1y.map (It.row .u8 5)) ++ tl)))) [(7, Value.int .i64 k0), (6, Value.slice a1A a1n a1c), (5, Value.pointer (some ⟨blk2, 0 + 1, none⟩))] [.no, .v (Value.slice a1A a1n a1c), .no] ((LoadsAt Try.prog (fun x_ => St w0 x_ (Res.box blk2 [Value.int .i64 a0, Value.slice a1A a1n a1c] 55 :: Res.row (Value.slice a1A a1n a1c) 37 2 a1n (flat true a1y) :: ((a1y.map (It.row .u8 5)) ++ tl))) 31 ⟨blk2, 0 + 1, none⟩ (Value.slice a1A a1n a1c))) (by kernel_rfl) (ld_box (i := 0) rfl rfl (by kernel_rfl)) hS1 ?_
  have hlm4 : totL true a1L ≤ wt a1L := totL_wt _ _
  refine l_op rfl rfl (fun K hK => op_callm (d := some 8) rfl rfl ⟨_, Try.func74, by kernel_rfl, by kernel_rfl⟩ (vs := [Value.slice a1A a1n a1c, Value.int .i64 k0]) (by kernel_rfl) (markNumberedPacketS_c a1A a1n a1c k0 a1L a1y _ w0 w1 (St.frontB [Res.box blk2 [Value.int .i64 a0, Value.slice a1A a1n a1c] 55] (Res.row (Value.slice a1A a1n a1c) 37 2 a1n (flat true a1y)) [] [] (a1y.map (It.row .u8 5)) tl hS1) a1q a1l (by omega) (by omega)) (fun v5 new6 w3 Rw3 hS3 => hK _ _ ?_))
  clear hK K
  obtain ⟨rfl, rfl⟩ := Rw3
  have hcq7 : (mkI (IntKind.wrap .u8) true k0 a1y).map (con true) = (mkL (IntKind.wrap .u8) true k0 a1L) := by rw [mkI_con, a1q]
  have hcq7w : wt (mkL (IntKind.wrap .u8) true k0 a1L) = wt a1L := mkL_wt _ _ _ _
  have hcq7t := totL_wt true a1L
  have hcq7o : okL .u8 (mkL (IntKind.wrap .u8) true k0 a1L) := mkL_ok8 _ _ _ (by omega) (by omega)
  have hS3r : St w0 w3 (Res.row (Value.slice a1A a1n a1c) 37 2 a1n (flat true (mkI (IntKind.wrap .u8) true k0 a1y)) :: Res.box blk2 [Value.int .i64 a0, Value.slice a1A a1n a1c] 55 :: (((mkI (IntKind.wrap .u8) true k0 a1y).map (It.row .u8 5)) ++ tl)) := St.backB (Res.row (Value.slice a1A a1n a1c) 37 2 a1n (flat true (mkI (IntKind.wrap .u8) true k0 a1y))) ((mkI (IntKind.wrap .u8) true k0 a1y).map (It.row .u8 5)) [Res.box blk2 [Value.int .i64 a0, Value.slice a1A a1n a1c] 55] tl hS3
  refine q_seg (S := (fun x_ => St w0 x_ (Res.row (Value.slice a1A a1n a1c) 37 2 a1n (flat true (mkI (IntKind.wrap .u8) true k0 a1y)) :: Res.box blk2 [Value.int .i64 a0, Value.slice a1A a1n a1c] 55 :: (((mkI (IntKind.wrap .u8) true k0 a1y).map (It.row .u8 5)) ++ tl)))) [(1, Value.int .i64 (k0 + ((totL true a1L : Nat) : Int)))] [.no] True (by kernel_rfl) trivial hS3r ?_
  refine l_nil rfl ?_
  refine then_n ?_
  refine wp_seq ?_
  refine c_reg ?_
  refine q_seg (S := (fun x_ => St w0 x_ (Res.row (Value.slice a1A a1n a1c) 37 2 a1n (flat true (mkI (IntKind.wrap .u8) true k0 a1y)) :: Res.box blk2 [Value.int .i64 a0, Value.slice a1A a1n a1c] 55 :: (((mkI (IntKind.wrap .u8) true k0 a1y).map (It.row .u8 5)) ++ tl)))) [(4, Value.int .i64 (k0 + ((totL true a1L : Nat) : Int))), (9, Value.int .i64 (k0 + ((totL true a1L : Nat) : Int)))] [.no, .no] True (by kernel_rfl) trivial hS3r ?_
  refine l_nil rfl ?_
  refine then_n ?_
  refine wp_ret ?_
  have hS3rs1 : St w0 w3 (Res.row (Value.slice a1A a1n a1c) 37 2 a1n (flat true (mkI (IntKind.wrap .u8) true k0 a1y)) :: (((mkI (IntKind.wrap .u8) true k0 a1y).map (It.row .u8 5)) ++ tl)) := (hS3r.sub (List.Sublist.cons_cons _ (List.Sublist.cons _ (List.Sublist.append (List.Sublist.refl _) (List.Sublist.refl _)))))
  exact c_end (S := (fun x_ => St w0 x_ (Res.row (Value.slice a1A a1n a1c) 37 2 a1n (flat true (mkI (IntKind.wrap .u8) true k0 a1y)) :: Res.box blk2 [Value.int .i64 a0, Value.slice a1A a1n a1c] 55 :: (((mkI (IntKind.wrap .u8) true k0 a1y).map (It.row .u8 5)) ++ tl)))) (rs := [.tmp 4]) rfl [] (v := Value.int .i64 (k0 + ((totL true a1L : Nat) : Int))) (C := True) (by kernel_rfl) trivial hS3r (⟨_, _, rfl, hS3rs1, rfl, rfl⟩)
theorem heldSendWindow_c (a0 : Int) (a1A : Option Addr) (a1n a1c : Nat) (a1L : List (Int × List Int)) (k0 : Int) (w : World) (hk1 : 0 ≤ k0) (hk2 : (k0 + ((totL true a1L : Nat) : Int)) ≤ 1099511627776) (a1h : RdL .u8 true w w.heap.size a1A a1n (mkL (IntKind.wrap .u8) true k0 a1L)) (a1w : a1n ≤ 9223372036854775807) : Calls Try.prog 50 #[Value.agg #[Value.int .i64 a0, Value.slice a1A a1n a1c], .int .i64 k0] w (RetV w (.int .i64 (k0 + ((totL true a1L : Nat) : Int)))) := by
  refine calls_FA Try.func50 rfl (n := 12) rfl (l := [(0, Value.agg #[Value.int .i64 a0, Value.slice a1A a1n a1c]), (1, Value.int .i64 k0)]) rfl (by simp) (fun g => ?_)
  have hS := St.init w
  refine wp_seq ?_
  refine c_reg ?_
  refine l_op rfl rfl (fun K hK => op_box (d := some 2) rfl rfl [Value.int .i64 a0, Value.slice a1A a1n a1c] (by kernel_rfl) hS (fun blk2 w1 hS1 => hK _ _ ?_))
  clear hK K
  refine q_seg (S := (fun x_ => St w x_ [Res.box blk2 [Value.int .i64 a0, Value.slice a1A a1n a1c] 55])) [(4, Value.int .i64 0)] [.no] True (by kernel_rfl) trivial hS1 ?_
  refine l_nil rfl ?_
  refine then_n ?_
  refine wp_seq ?_
  refine c_reg ?_
  refine q_seg (S := (fun x_ => St w x_ [Res.box blk2 [Value.int .i64 a0, Value.slice a1A a1n a1c] 55])) [(7, Value.int .i64 k0), (6, Value.slice a1A a1n a1c), (5, Value.pointer (some ⟨blk2, 0 + 1, none⟩))] [.no, .v (Value.slice a1A a1n a1c), .no] ((LoadsAt Try.prog (fun x_ => St w x_ [Res.box blk2 [Value.int .i64 a0, Value.slice a1A a1n a1c] 55]) 31 ⟨blk2, 0 + 1, none⟩ (Value.slice a1A a1n a1c))) (by kernel_rfl) (ld_box (i := 0) rfl rfl (by kernel_rfl)) hS1 ?_
  refine l_op rfl rfl (fun K hK => op_callv (d := some 8) rfl rfl ⟨_, Try.func76, by kernel_rfl, by kernel_rfl⟩ (vs := [Value.slice a1A a1n a1c, Value.int .i64 k0]) (by kernel_rfl) (v := Value.int .i64 (k0 + ((totL true a1L : Nat) : Int))) (heldNumberedPacketS_c a1A a1n a1c k0 a1L w1 (by omega) (by omega) (by omega) (hS1.rdllow a1h)) hS1 (fun w3 hS3 => hK _ _ ?_))
  clear hK K
  refine q_seg (S := (fun x_ => St w x_ [Res.box blk2 [Value.int .i64 a0, Value.slice a1A a1n a1c] 55])) [(1, Value.int .i64 (k0 + ((totL true a1L : Nat) : Int)))] [.no] True (by kernel_rfl) trivial hS3 ?_
  refine l_nil rfl ?_
  refine then_n ?_
  refine wp_seq ?_
  refine wp_seq ?_
  refine c_reg ?_
  refine q_seg (S := (fun x_ => St w x_ [Res.box blk2 [Value.int .i64 a0, Value.slice a1A a1n a1c] 55])) [(10, Value.bool (decide ((k0 + ((totL true a1L : Nat) : Int)) < (0 : Int)))), (9, Value.int .i64 (k0 + ((totL true a1L : Nat) : Int)))] [.no, .no] True (by kernel_rfl) trivial hS3 ?_
  refine l_nil rfl ?_
  refine then_n ?_
  refine c_false (b := (decide ((k0 + ((totL true a1L : Nat) : Int)) < (0 : Int)))) (by kernel_rfl) (decide_eq_false (by omega)) ?_
  refine wp_skip ?_
  refine then_n ?_
  refine wp_seq ?_
  refine c_reg ?_
  refine q_seg (S := (fun x_ => St w x_ [Res.box blk2 [Value.int .i64 a0, Value.slice a1A a1n a1c] 55])) [(4, Value.int .i64 (k0 + ((totL true a1L : Nat) : Int))), (11, Value.int .i64 (k0 + ((totL true a1L : Nat) : Int)))] [.no, .no] True (by kernel_rfl) trivial hS3 ?_
  refine l_nil rfl ?_
  refine then_n ?_
  refine wp_ret ?_
  exact c_end (S := (fun x_ => St w x_ [Res.box blk2 [Value.int .i64 a0, Value.slice a1A a1n a1c] 55])) (rs := [.tmp 4]) rfl [] (v := Value.int .i64 (k0 + ((totL true a1L : Nat) : Int))) (C := True) (by kernel_rfl) trivial hS3 ((hS3.rv rfl))
theorem toPagingBuffer_c (a0 : Int) (a1A : Option Addr) (a1n a1c : Nat) (a1L : List (Int × List Int)) (a2 : Int) (w : World) (a1h : RdL .u8 false w w.heap.size a1A a1n a1L) (a1w : wt a1L ≤ 1099511627776) : Calls Try.prog 38 #[Value.agg #[Value.int .i64 a0, Value.slice a1A a1n a1c, Value.int .i64 a2]] w (Ret w (fun v new => ∃ (A0_ : Option Addr) (c0_ : Nat) (y0_ : List It), v = Value.agg #[Value.int .i64 a0, Value.slice A0_ a1n c0_, Value.int .i64 a2] ∧ new = Res.row (Value.slice A0_ a1n c0_) 49 1 a1n (flat false y0_) :: ((y0_.map (It.row .u8 5)) ++ []) ∧ y0_.map (con false) = a1L)) := by
  have a1l := a1h.len
  have a1v := wt_len a1L
  refine calls_FA Try.func38 rfl (n := 15) rfl (l := [(0, Value.agg #[Value.int .i64 a0, Value.slice a1A a1n a1c, Value.int .i64 a2])]) rfl (by simp) (fun g => ?_)
  have hS := St.init w
  refine wp_seq ?_
  refine c_reg ?_
  refine l_op rfl rfl (fun K hK => op_box (d := some 1) rfl rfl [Value.int .i64 a0, Value.slice a1A a1n a1c, Value.int .i64 a2] (by kernel_rfl) hS (fun blk2 w1 hS1 => hK _ _ ?_))
  clear hK K
  refine l_op rfl rfl (fun K hK => op_alloc (d := some 2) rfl rfl [Value.int .i64 0, Value.slice none 0 0, Value.int .i64 0] (by kernel_rfl) hS1 (fun blk4 w3 hS3 => hK _ _ ?_))
  clear hK K
  refine l_nil rfl ?_
  refine then_n ?_
  refine wp_seq ?_
  refine c_reg ?_
  refine l_op rfl rfl (fun K hK => op_alloc (d := some 3) rfl rfl [Value.int .i64 0, Value.slice none 0 0, Value.int .i64 0] (by kernel_rfl) hS3 (fun blk6 w5 hS5 => hK _ _ ?_))
  clear hK K
  refine l_nil rfl ?_
  refine then_n ?_
  refine wp_seq ?_
  refine c_reg ?_
  refine q_seg (S := (fun x_ => St w x_ [Res.box blk6 [Value.int .i64 0, Value.slice none 0 0, Value.int .i64 0] 65, Res.box blk4 [Value.int .i64 0, Value.slice none 0 0, Value.int .i64 0] 65, Res.box blk2 [Value.int .i64 a0, Value.slice a1A a1n a1c, Value.int .i64 a2] 61])) [(6, Value.pointer (some ⟨blk6, 0 + 0, none⟩)), (5, Value.int .i64 a0), (4, Value.pointer (some ⟨blk2, 0 + 0, none⟩))] [.no, .v (Value.int .i64 a0), .no] ((LoadsAt Try.prog (fun x_ => St w x_ [Res.box blk6 [Value.int .i64 0, Value.slice none 0 0, Value.int .i64 0] 65, Res.box blk4 [Value.int .i64 0, Value.slice none 0 0, Value.int .i64 0] 65, Res.box blk2 [Value.int .i64 a0, Value.slice a1A a1n a1c, Value.int .i64 a2] 61]) 3 ⟨blk2, 0 + 0, none⟩ (Value.int .i64 a0))) (by kernel_rfl) (ld_box (i := 2) rfl rfl (by kernel_rfl)) hS5 ?_
  refine l_op rfl rfl (fun K hK => op_store (d := none) rfl rfl (i := 0) (b := blk6) (off := 0 + 0) (cs := [Value.int .i64 0, Value.slice none 0 0, Value.int .i64 0]) (bt := 65) (by kernel_rfl) (by kernel_rfl) [Value.int .i64 a0] (by kernel_rfl) (by kernel_rfl) (Nat.le_of_ble_eq_true (by kernel_rfl)) (by kernel_rfl) [Res.box blk6 [Value.int .i64 a0, Value.slice none 0 0, Value.int .i64 0] 65, Res.box blk4 [Value.int .i64 0, Value.slice none 0 0, Value.int .i64 0] 65, Res.box blk2 [Value.int .i64 a0, Value.slice a1A a1n a1c, Value.int .i64 a2] 61] (by kernel_rfl) hS5 (fun w7 hS7 => hK _ _ ?_))
  clear hK K
  refine l_nil rfl ?_
  refine then_n ?_
  refine wp_seq ?_
  refine c_reg ?_
  refine q_seg (S := (fun x_ => St w x_ [Res.box blk6 [Value.int .i64 a0, Value.slice none 0 0, Value.int .i64 0] 65, Res.box blk4 [Value.int .i64 0, Value.slice none 0 0, Value.int .i64 0] 65, Res.box blk2 [Value.int .i64 a0, Value.slice a1A a1n a1c, Value.int .i64 a2] 61])) [(8, Value.slice a1A a1n a1c), (7, Value.pointer (some ⟨blk2, 0 + 1, none⟩))] [.no, .v (Value.slice a1A a1n a1c)] ((LoadsAt Try.prog (fun x_ => St w x_ [Res.box blk6 [Value.int .i64 a0, Value.slice none 0 0, Value.int .i64 0] 65, Res.box blk4 [Value.int .i64 0, Value.slice none 0 0, Value.int .i64 0] 65, Res.box blk2 [Value.int .i64 a0, Value.slice a1A a1n a1c, Value.int .i64 a2] 61]) 23 ⟨blk2, 0 + 1, none⟩ (Value.slice a1A a1n a1c))) (by kernel_rfl) (ld_box (i := 2) rfl rfl (by kernel_rfl)) hS7 ?_
  refine l_op rfl rfl (fun K hK => op_call (d := some 9) rfl rfl ⟨_, Try.func67, by kernel_rfl, by kernel_rfl⟩ (vs := [Value.slice a1A a1n a1c]) (by kernel_rfl) (toPayloadS_c a1A a1n a1c a1L w7 (by omega) (hS7.rdllow a1h)) hS7 (fun v10 new11 w8 Rw8 hS8 => hK _ _ ?_))
  clear hK K
  obtain ⟨Aq12, cq13, yq14, rfl, rfl, hcq15⟩ := Rw8
  have hS8r : St w w8 (Res.row (Value.slice Aq12 a1n cq13) 49 1 a1n (flat false yq14) :: Res.box blk6 [Value.int .i64 a0, Value.slice none 0 0, Value.int .i64 0] 65 :: Res.box blk4 [Value.int .i64 0, Value.slice none 0 0, Value.int .i64 0] 65 :: Res.box blk2 [Value.int .i64 a0, Value.slice a1A a1n a1c, Value.int .i64 a2] 61 :: ((yq14.map (It.row .u8 5)) ++ [])) := St.rot_1 [Res.row (Value.slice Aq12 a1n cq13) 49 1 a1n (flat false yq14)] [Res.box blk6 [Value.int .i64 a0, Value.slice none 0 0, Value.int .i64 0] 65, Res.box blk4 [Value.int .i64 0, Value.slice none 0 0, Value.int .i64 0] 65, Res.box blk2 [Value.int .i64 a0, Value.slice a1A a1n a1c, Value.int .i64 a2] 61] [] (yq14.map (It.row .u8 5)) hS8
  refine q_seg (S := (fun x_ => St w x_ (Res.row (Value.slice Aq12 a1n cq13) 49 1 a1n (flat false yq14) :: Res.box blk6 [Value.int .i64 a0, Value.slice none 0 0, Value.int .i64 0] 65 :: Res.box blk4 [Value.int .i64 0, Value.slice none 0 0, Value.int .i64 0] 65 :: Res.box blk2 [Value.int .i64 a0, Value.slice a1A a1n a1c, Value.int .i64 a2] 61 :: ((yq14.map (It.row .u8 5)) ++ [])))) [(10, Value.pointer (some ⟨blk6, 0 + 1, none⟩))] [.no] True (by kernel_rfl) trivial hS8r ?_
  refine l_op rfl rfl (fun K hK => op_store (d := none) rfl rfl (i := 1) (b := blk6) (off := 0 + 1) (cs := [Value.int .i64 a0, Value.slice none 0 0, Value.int .i64 0]) (bt := 65) (by kernel_rfl) (by kernel_rfl) [Value.slice Aq12 a1n cq13] (by kernel_rfl) (by kernel_rfl) (Nat.le_of_ble_eq_true (by kernel_rfl)) (by kernel_rfl) (Res.row (Value.slice Aq12 a1n cq13) 49 1 a1n (flat false yq14) :: Res.box blk6 [Value.int .i64 a0, Value.slice Aq12 a1n cq13, Value.int .i64 0] 65 :: Res.box blk4 [Value.int .i64 0, Value.slice none 0 0, Value.int .i64 0] 65 :: Res.box blk2 [Value.int .i64 a0, Value.slice a1A a1n a1c, Value.int .i64 a2] 61 :: ((yq14.map (It.row .u8 5)) ++ [])) (by kernel_rfl) hS8r (fun w16 hS16 => hK _ _ ?_))
  clear hK K
  refine l_nil rfl ?_
  refine then_n ?_
  refine wp_seq ?_
  refine c_reg ?_
  refine q_seg (S := (fun x_ => St w x_ (Res.row (Value.slice Aq12 a1n cq13) 49 1 a1n (flat false yq14) :: Res.box blk6 [Value.int .i64 a0, Value.slice Aq12 a1n cq13, Value.int .i64 0] 65 :: Res.box blk4 [Value.int .i64 0, Value.slice none 0 0, Value.int .i64 0] 65 :: Res.box blk2 [Value.int .i64 a0, Value.slice a1A a1n a1c, Value.int .i64 a2] 61 :: ((yq14.map (It.row .u8 5)) ++ [])))) [(13, Value.pointer (some ⟨blk6, 0 + 2, none⟩)), (12, Value.int .i64 a2), (11, Value.pointer (some ⟨blk2, 0 + 2, none⟩))] [.no, .v (Value.int .i64 a2), .no] ((LoadsAt Try.prog (fun x_ => St w x_ (Res.row (Value.slice Aq12 a1n cq13) 49 1 a1n (flat false yq14) :: Res.box blk6 [Value.int .i64 a0, Value.slice Aq12 a1n cq13, Value.int .i64 0] 65 :: Res.box blk4 [Value.int .i64 0, Value.slice none 0 0, Value.int .i64 0] 65 :: Res.box blk2 [Value.int .i64 a0, Value.slice a1A a1n a1c, Value.int .i64 a2] 61 :: ((yq14.map (It.row .u8 5)) ++ []))) 3 ⟨blk2, 0 + 2, none⟩ (Value.int .i64 a2))) (by kernel_rfl) (ld_box (i := 3) rfl rfl (by kernel_rfl)) hS16 ?_
  refine l_op rfl rfl (fun K hK => op_store (d := none) rfl rfl (i := 1) (b := blk6) (off := 0 + 2) (cs := [Value.int .i64 a0, Value.slice Aq12 a1n cq13, Value.int .i64 0]) (bt := 65) (by kernel_rfl) (by kernel_rfl) [Value.int .i64 a2] (by kernel_rfl) (by kernel_rfl) (Nat.le_of_ble_eq_true (by kernel_rfl)) (by kernel_rfl) (Res.row (Value.slice Aq12 a1n cq13) 49 1 a1n (flat false yq14) :: Res.box blk6 [Value.int .i64 a0, Value.slice Aq12 a1n cq13, Value.int .i64 a2] 65 :: Res.box blk4 [Value.int .i64 0, Value.slice none 0 0, Value.int .i64 0] 65 :: Res.box blk2 [Value.int .i64 a0, Value.slice a1A a1n a1c, Value.int .i64 a2] 61 :: ((yq14.map (It.row .u8 5)) ++ [])) (by kernel_rfl) hS16 (fun w17 hS17 => hK _ _ ?_))
  clear hK K
  refine l_nil rfl ?_
  refine then_n ?_
  refine wp_seq ?_
  refine c_reg ?_
  refine q_seg (S := (fun x_ => St w x_ (Res.row (Value.slice Aq12 a1n cq13) 49 1 a1n (flat false yq14) :: Res.box blk6 [Value.int .i64 a0, Value.slice Aq12 a1n cq13, Value.int .i64 a2] 65 :: Res.box blk4 [Value.int .i64 0, Value.slice none 0 0, Value.int .i64 0] 65 :: Res.box blk2 [Value.int .i64 a0, Value.slice a1A a1n a1c, Value.int .i64 a2] 61 :: ((yq14.map (It.row .u8 5)) ++ [])))) [(14, Value.agg #[Value.int .i64 a0, Value.slice Aq12 a1n cq13, Value.int .i64 a2])] [.v (Value.agg #[Value.int .i64 a0, Value.slice Aq12 a1n cq13, Value.int .i64 a2])] ((LoadsAt Try.prog (fun x_ => St w x_ (Res.row (Value.slice Aq12 a1n cq13) 49 1 a1n (flat false yq14) :: Res.box blk6 [Value.int .i64 a0, Value.slice Aq12 a1n cq13, Value.int .i64 a2] 65 :: Res.box blk4 [Value.int .i64 0, Value.slice none 0 0, Value.int .i64 0] 65 :: Res.box blk2 [Value.int .i64 a0, Value.slice a1A a1n a1c, Value.int .i64 a2] 61 :: ((yq14.map (It.row .u8 5)) ++ []))) 65 ⟨blk6, 0, none⟩ (Value.agg #[Value.int .i64 a0, Value.slice Aq12 a1n cq13, Value.int .i64 a2]))) (by kernel_rfl) (ld_boxN (i := 1) (k := 3) rfl rfl rfl (by kernel_rfl)) hS17 ?_
  refine l_op rfl rfl (fun K hK => op_store (d := none) rfl rfl (i := 2) (b := blk4) (off := 0) (cs := [Value.int .i64 0, Value.slice none 0 0, Value.int .i64 0]) (bt := 65) (by kernel_rfl) (by kernel_rfl) [Value.int .i64 a0, Value.slice Aq12 a1n cq13, Value.int .i64 a2] (by kernel_rfl) (by kernel_rfl) (Nat.le_of_ble_eq_true (by kernel_rfl)) (by kernel_rfl) (Res.row (Value.slice Aq12 a1n cq13) 49 1 a1n (flat false yq14) :: Res.box blk6 [Value.int .i64 a0, Value.slice Aq12 a1n cq13, Value.int .i64 a2] 65 :: Res.box blk4 [Value.int .i64 a0, Value.slice Aq12 a1n cq13, Value.int .i64 a2] 65 :: Res.box blk2 [Value.int .i64 a0, Value.slice a1A a1n a1c, Value.int .i64 a2] 61 :: ((yq14.map (It.row .u8 5)) ++ [])) (by kernel_rfl) hS17 (fun w18 hS18 => hK _ _ ?_))
  clear hK K
  refine l_nil rfl ?_
  refine then_n ?_
  refine wp_ret ?_
  have hS18s1 : St w w18 (Res.row (Value.slice Aq12 a1n cq13) 49 1 a1n (flat false yq14) :: ((yq14.map (It.row .u8 5)) ++ [])) := (hS18.sub (List.Sublist.cons_cons _ (List.Sublist.cons _ (List.Sublist.cons _ (List.Sublist.cons _ (List.Sublist.append (List.Sublist.refl _) List.Sublist.slnil))))))
  exact c_end (S := (fun x_ => St w x_ (Res.row (Value.slice Aq12 a1n cq13) 49 1 a1n (flat false yq14) :: Res.box blk6 [Value.int .i64 a0, Value.slice Aq12 a1n cq13, Value.int .i64 a2] 65 :: Res.box blk4 [Value.int .i64 a0, Value.slice Aq12 a1n cq13, Value.int .i64 a2] 65 :: Res.box blk2 [Value.int .i64 a0, Value.slice a1A a1n a1c, Value.int .i64 a2] 61 :: ((yq14.map (It.row .u8 5)) ++ [])))) (rs := [.cell 2 65]) rfl [Value.agg #[Value.int .i64 a0, Value.slice Aq12 a1n cq13, Value.int .i64 a2]] (v := Value.agg #[Value.int .i64 a0, Value.slice Aq12 a1n cq13, Value.int .i64 a2]) (C := ((LoadsAt Try.prog (fun x_ => St w x_ (Res.row (Value.slice Aq12 a1n cq13) 49 1 a1n (flat false yq14) :: Res.box blk6 [Value.int .i64 a0, Value.slice Aq12 a1n cq13, Value.int .i64 a2] 65 :: Res.box blk4 [Value.int .i64 a0, Value.slice Aq12 a1n cq13, Value.int .i64 a2] 65 :: Res.box blk2 [Value.int .i64 a0, Value.slice a1A a1n a1c, Value.int .i64 a2] 61 :: ((yq14.map (It.row .u8 5)) ++ []))) 65 ⟨blk4, 0, none⟩ (Value.agg #[Value.int .i64 a0, Value.slice Aq12 a1n cq13, Value.int .i64 a2])))) (by kernel_rfl) (ld_boxN (i := 2) (k := 3) rfl rfl rfl (by kernel_rfl)) hS18 (hS18s1.rt ⟨_, _, _, rfl, rfl, hcq15⟩)
theorem eqPagingBuffer_c (a0 : Int) (a1A : Option Addr) (a1n a1c : Nat) (a1L : List (Int × List Int)) (b1A : Option Addr) (b1c : Nat) (a2 : Int) (w : World) (a1h : RdL .u8 false w w.heap.size a1A a1n a1L) (a1w : wt a1L ≤ 1099511627776) (b1h : RdL .u8 false w w.heap.size b1A a1n a1L) : Calls Try.prog 40 #[Value.agg #[Value.int .i64 a0, Value.slice a1A a1n a1c, Value.int .i64 a2], Value.agg #[Value.int .i64 a0, Value.slice b1A a1n b1c, Value.int .i64 a2]] w (RetV w (.bool true)) := by
  have a1l := a1h.len
  have a1v := wt_len a1L
  refine calls_FA Try.func40 rfl (n := 21) rfl (l := [(0, Value.agg #[Value.int .i64 a0, Value.slice a1A a1n a1c, Value.int .i64 a2]), (1, Value.agg #[Value.int .i64 a0, Value.slice b1A a1n b1c, Value.int .i64 a2])]) rfl (by simp) (fun g => ?_)
  have hS := St.init w
  refine wp_seq ?_
  refine c_reg ?_
  refine l_op rfl rfl (fun K hK => op_box (d := some 2) rfl rfl [Value.int .i64 a0, Value.slice a1A a1n a1c, Value.int .i64 a2] (by kernel_rfl) hS (fun blk2 w1 hS1 => hK _ _ ?_))
  clear hK K
  refine l_op rfl rfl (fun K hK => op_box (d := some 3) rfl rfl [Value.int .i64 a0, Value.slice b1A a1n b1c, Value.int .i64 a2] (by kernel_rfl) hS1 (fun blk4 w3 hS3 => hK _ _ ?_))
  clear hK K
  refine q_seg (S := (fun x_ => St w x_ [Res.box blk4 [Value.int .i64 a0, Value.slice b1A a1n b1c, Value.int .i64 a2] 65, Res.box blk2 [Value.int .i64 a0, Value.slice a1A a1n a1c, Value.int .i64 a2] 65])) [(4, Value.bool false)] [.no] True (by kernel_rfl) trivial hS3 ?_
  refine l_nil rfl ?_
  refine then_n ?_
  refine wp_seq ?_
  refine wp_seq ?_
  refine c_reg ?_
  refine q_seg (S := (fun x_ => St w x_ [Res.box blk4 [Value.int .i64 a0, Value.slice b1A a1n b1c, Value.int .i64 a2] 65, Res.box blk2 [Value.int .i64 a0, Value.slice a1A a1n a1c, Value.int .i64 a2] 65])) [(9, Value.bool (!(decide (a0 = a0)))), (8, Value.int .i64 a0), (7, Value.pointer (some ⟨blk4, 0 + 0, none⟩)), (6, Value.int .i64 a0), (5, Value.pointer (some ⟨blk2, 0 + 0, none⟩))] [.no, .v (Value.int .i64 a0), .no, .v (Value.int .i64 a0), .no] ((LoadsAt Try.prog (fun x_ => St w x_ [Res.box blk4 [Value.int .i64 a0, Value.slice b1A a1n b1c, Value.int .i64 a2] 65, Res.box blk2 [Value.int .i64 a0, Value.slice a1A a1n a1c, Value.int .i64 a2] 65]) 3 ⟨blk2, 0 + 0, none⟩ (Value.int .i64 a0)) ∧ (LoadsAt Try.prog (fun x_ => St w x_ [Res.box blk4 [Value.int .i64 a0, Value.slice b1A a1n b1c, Value.int .i64 a2] 65, Res.box blk2 [Value.int .i64 a0, Value.slice a1A a1n a1c, Value.int .i64 a2] 65]) 3 ⟨blk4, 0 + 0, none⟩ (Value.int .i64 a0))) (by kernel_rfl) ⟨(ld_box (i := 1) rfl rfl (by kernel_rfl)), (ld_box (i := 0) rfl rfl (by kernel_rfl))⟩ hS3 ?_
  refine l_nil rfl ?_
  refine then_n ?_
  refine c_false (b := (!(decide (a0 = a0)))) (by kernel_rfl) (nb (v := true) (decide_eq_true rfl)) ?_
  refine wp_skip ?_
  refine then_n ?_
  refine wp_seq ?_
  refine wp_seq ?_
  refine c_reg ?_
  refine q_seg (S := (fun x_ => St w x_ [Res.box blk4 [Value.int .i64 a0, Value.slice b1A a1n b1c, Value.int .i64 a2] 65, Res.box blk2 [Value.int .i64 a0, Value.slice a1A a1n a1c, Value.int .i64 a2] 65])) [(13, Value.slice b1A a1n b1c), (12, Value.pointer (some ⟨blk4, 0 + 1, none⟩)), (11, Value.slice a1A a1n a1c), (10, Value.pointer (some ⟨blk2, 0 + 1, none⟩))] [.no, .v (Value.slice a1A a1n a1c), .no, .v (Value.slice b1A a1n b1c)] ((LoadsAt Try.prog (fun x_ => St w x_ [Res.box blk4 [Value.int .i64 a0, Value.slice b1A a1n b1c, Value.int .i64 a2] 65, Res.box blk2 [Value.int .i64 a0, Value.slice a1A a1n a1c, Value.int .i64 a2] 65]) 32 ⟨blk2, 0 + 1, none⟩ (Value.slice a1A a1n a1c)) ∧ (LoadsAt Try.prog (fun x_ => St w x_ [Res.box blk4 [Value.int .i64 a0, Value.slice b1A a1n b1c, Value.int .i64 a2] 65, Res.box blk2 [Value.int .i64 a0, Value.slice a1A a1n a1c, Value.int .i64 a2] 65]) 32 ⟨blk4, 0 + 1, none⟩ (Value.slice b1A a1n b1c))) (by kernel_rfl) ⟨(ld_box (i := 1) rfl rfl (by kernel_rfl)), (ld_box (i := 0) rfl rfl (by kernel_rfl))⟩ hS3 ?_
  refine l_op rfl rfl (fun K hK => op_callv (d := some 14) rfl rfl ⟨_, Try.func73, by kernel_rfl, by kernel_rfl⟩ (vs := [Value.slice a1A a1n a1c, Value.slice b1A a1n b1c]) (by kernel_rfl) (v := Value.bool true) (eqPayloadS_c a1A b1A a1n a1c b1c a1L w3 a1w (hS3.rdllow a1h) (hS3.rdllow b1h)) hS3 (fun w5 hS5 => hK _ _ ?_))
  clear hK K
  refine q_seg (S := (fun x_ => St w x_ [Res.box blk4 [Value.int .i64 a0, Value.slice b1A a1n b1c, Value.int .i64 a2] 65, Res.box blk2 [Value.int .i64 a0, Value.slice a1A a1n a1c, Value.int .i64 a2] 65])) [(15, Value.bool false)] [.no] True (by kernel_rfl) trivial hS5 ?_
  refine l_nil rfl ?_
  refine then_n ?_
  refine c_false (b := false) (by kernel_rfl) rfl ?_
  refine wp_skip ?_
  refine then_n ?_
  refine wp_seq ?_
  refine wp_seq ?_
  refine c_reg ?_
  refine q_seg (S := (fun x_ => St w x_ [Res.box blk4 [Value.int .i64 a0, Value.slice b1A a1n b1c, Value.int .i64 a2] 65, Res.box blk2 [Value.int .i64 a0, Value.slice a1A a1n a1c, Value.int .i64 a2] 65])) [(20, Value.bool (!(decide (a2 = a2)))), (19, Value.int .i64 a2), (18, Value.pointer (some ⟨blk4, 0 + 2, none⟩)), (17, Value.int .i64 a2), (16, Value.pointer (some ⟨blk2, 0 + 2, none⟩))] [.no, .v (Value.int .i64 a2), .no, .v (Value.int .i64 a2), .no] ((LoadsAt Try.prog (fun x_ => St w x_ [Res.box blk4 [Value.int .i64 a0, Value.slice b1A a1n b1c, Value.int .i64 a2] 65, Res.box blk2 [Value.int .i64 a0, Value.slice a1A a1n a1c, Value.int .i64 a2] 65]) 3 ⟨blk2, 0 + 2, none⟩ (Value.int .i64 a2)) ∧ (LoadsAt Try.prog (fun x_ => St w x_ [Res.box blk4 [Value.int .i64 a0, Value.slice b1A a1n b1c, Value.int .i64 a2] 65, Res.box blk2 [Value.int .i64 a0, Value.slice a1A a1n a1c, Value.int .i64 a2] 65]) 3 ⟨blk4, 0 + 2, none⟩ (Value.int .i64 a2))) (by kernel_rfl) ⟨(ld_box (i := 1) rfl rfl (by kernel_rfl)), (ld_box (i := 0) rfl rfl (by kernel_rfl))⟩ hS5 ?_
  refine l_nil rfl ?_
  refine then_n ?_
  refine c_false (b := (!(decide (a2 = a2)))) (by kernel_rfl) (nb (v := true) (decide_eq_true rfl)) ?_
  refine wp_skip ?_
  refine then_n ?_
  refine wp_seq ?_
  refine c_reg ?_
  refine q_seg (S := (fun x_ => St w x_ [Res.box blk4 [Value.int .i64 a0, Value.slice b1A a1n b1c, Value.int .i64 a2] 65, Res.box blk2 [Value.int .i64 a0, Value.slice a1A a1n a1c, Value.int .i64 a2] 65])) [(4, Value.bool true)] [.no] True (by kernel_rfl) trivial hS5 ?_
  refine l_nil rfl ?_
  refine then_n ?_
  refine wp_ret ?_
  exact c_end (S := (fun x_ => St w x_ [Res.box blk4 [Value.int .i64 a0, Value.slice b1A a1n b1c, Value.int .i64 a2] 65, Res.box blk2 [Value.int .i64 a0, Value.slice a1A a1n a1c, Value.int .i64 a2] 65])) (rs := [.tmp 4]) rfl [] (v := Value.bool true) (C := True) (by kernel_rfl) trivial hS5 ((hS5.rv rfl))
theorem szPagingBuffer_c (a0 : Int) (a1A : Option Addr) (a1n a1c : Nat) (a1L : List (Int × List Int)) (a2 : Int) (lf : Int) (w : World) (h1 : 0 ≤ lf) (h2 : lf ≤ 1099511627776) (a1h : RdL .u8 false w w.heap.size a1A a1n a1L) (a1w : a1n ≤ 9223372036854775807) : Calls Try.prog 36 #[Value.agg #[Value.int .i64 a0, Value.slice a1A a1n a1c, Value.int .i64 a2], .int .i64 lf] w (RetV w (.int .i64 (szF lf [a1L]))) := by
  refine calls_FA Try.func36 rfl (n := 12) rfl (l := [(0, Value.agg #[Value.int .i64 a0, Value.slice a1A a1n a1c, Value.int .i64 a2]), (1, Value.int .i64 lf)]) rfl (by simp) (fun g => ?_)
  have hS := St.init w
  refine wp_seq ?_
  refine c_reg ?_
  refine l_op rfl rfl (fun K hK => op_box (d := some 2) rfl rfl [Value.int .i64 a0, Value.slice a1A a1n a1c, Value.int .i64 a2] (by kernel_rfl) hS (fun blk2 w1 hS1 => hK _ _ ?_))
  clear hK K
  refine q_seg (S := (fun x_ => St w x_ [Res.box blk2 [Value.int .i64 a0, Value.slice a1A a1n a1c, Value.int .i64 a2] 61])) [(4, Value.int .i64 0)] [.no] True (by kernel_rfl) trivial hS1 ?_
  refine l_nil rfl ?_
  refine then_n ?_
  refine wp_seq ?_
  refine c_reg ?_
  refine q_seg (S := (fun x_ => St w x_ [Res.box blk2 [Value.int .i64 a0, Value.slice a1A a1n a1c, Value.int .i64 a2] 61])) [(7, Value.int .i64 lf), (6, Value.slice a1A a1n a1c), (5, Value.pointer (some ⟨blk2, 0 + 1, none⟩))] [.no, .v (Value.slice a1A a1n a1c), .no] ((LoadsAt Try.prog (fun x_ => St w x_ [Res.box blk2 [Value.int .i64 a0, Value.slice a1A a1n a1c, Value.int .i64 a2] 61]) 23 ⟨blk2, 0 + 1, none⟩ (Value.slice a1A a1n a1c))) (by kernel_rfl) (ld_box (i := 0) rfl rfl (by kernel_rfl)) hS1 ?_
  refine l_op rfl rfl (fun K hK => op_callv (d := some 8) rfl rfl ⟨_, Try.func61, by kernel_rfl, by kernel_rfl⟩ (vs := [Value.slice a1A a1n a1c, Value.int .i64 lf]) (by kernel_rfl) (v := Value.int .i64 (szI lf a1L)) (szPayloadS_c a1A a1n a1c a1L lf w1 (by omega) (by omega) (by omega) (hS1.rdllow a1h)) hS1 (fun w3 hS3 => hK _ _ ?_))
  clear hK K
  have hsz4 := szI_le (L := a1L) (lf := lf) (by omega)
  refine q_seg (S := (fun x_ => St w x_ [Res.box blk2 [Value.int .i64 a0, Value.slice a1A a1n a1c, Value.int .i64 a2] 61])) [(1, Value.int .i64 (szI lf a1L))] [.no] True (by kernel_rfl) trivial hS3 ?_
  refine l_nil rfl ?_
  refine then_n ?_
  refine wp_seq ?_
  refine wp_seq ?_
  refine c_reg ?_
  refine q_seg (S := (fun x_ => St w x_ [Res.box blk2 [Value.int .i64 a0, Value.slice a1A a1n a1c, Value.int .i64 a2] 61])) [(10, Value.bool (decide ((szI lf a1L) < (0 : Int)))), (9, Value.int .i64 (szI lf a1L))] [.no, .no] True (by kernel_rfl) trivial hS3 ?_
  refine l_nil rfl ?_
  refine then_n ?_
  rcases Bool.eq_false_or_eq_true (decide ((szI lf a1L) < (0 : Int))) with hb5 | hb5
  · skip
    have hb5p := of_decide_eq_true hb5
    refine c_true (b := (decide ((szI lf a1L) < (0 : Int)))) (by kernel_rfl) hb5 ?_
    refine wp_seq ?_
    refine c_reg ?_
    refine q_seg (S := (fun x_ => St w x_ [Res.box blk2 [Value.int .i64 a0, Value.slice a1A a1n a1c, Value.int .i64 a2] 61])) [(4, Value.int .i64 (-1))] [.no] True (by kernel_rfl) trivial hS3 ?_
    refine l_nil rfl ?_
    refine then_n ?_
    refine wp_ret ?_
    refine then_r ?_
    exact c_end (S := (fun x_ => St w x_ [Res.box blk2 [Value.int .i64 a0, Value.slice a1A a1n a1c, Value.int .i64 a2] 61])) (rs := [.tmp 4]) rfl [] (v := Value.int .i64 (-1)) (C := True) (by kernel_rfl) trivial hS3 ((hS3.rv (congrArg (Value.int .i64) (by simp only [szF]; repeat (first | omega | rfl | split)))))
  · skip
    have hb5p := of_decide_eq_false hb5
    refine c_false (b := (decide ((szI lf a1L) < (0 : Int)))) (by kernel_rfl) hb5 ?_
    refine wp_skip ?_
    refine then_n ?_
    refine wp_seq ?_
    refine c_reg ?_
    refine q_seg (S := (fun x_ => St w x_ [Res.box blk2 [Value.int .i64 a0, Value.slice a1A a1n a1c, Value.int .i64 a2] 61])) [(4, Value.int .i64 (szI lf a1L)), (11, Value.int .i64 (szI lf a1L))] [.no, .no] True (by kernel_rfl) trivial hS3 ?_
    refine l_nil rfl ?_
    refine then_n ?_
    refine wp_ret ?_
    exact c_end (S := (fun x_ => St w x_ [Res.box blk2 [Value.int .i64 a0, Value.slice a1A a1n a1c, Value.int .i64 a2] 61])) (rs := [.tmp 4]) rfl [] (v := Value.int .i64 (szI lf a1L)) (C := True) (by kernel_rfl) trivial hS3 ((hS3.rv (congrArg (Value.int .i64) (by simp only [szF]; repeat (first | omega | rfl | split)))))
theorem toReceiveWindow_c (a0 : Int) (a1A : Option Addr) (a1n a1c : Nat) (a1L : List (Int × List Int)) (a2A : Option Addr) (a2n a2c : Nat) (a2L : List (Int × List Int)) (w : World) (a1h : RdL .u8 true w w.heap.size a1A a1n a1L) (a1w : wt a1L ≤ 1099511627776) (a2h : RdL .u8 false w w.heap.size a2A a2n a2L) (a2w : wt a2L ≤ 1099511627776) : Calls Try.prog 17 #[Value.agg #[Value.int .i64 a0, Value.slice a1A a1n a1c, Value.slice a2A a2n a2c]] w (Ret w (fun v new => ∃ (A0_ : Option Addr) (c0_ : Nat) (y0_ : List It) (A1_ : Option Addr) (c1_ : Nat) (y1_ : List It), v = Value.agg #[Value.int .i64 a0, Value.slice A0_ a1n c0_, Value.slice A1_ a2n c1_] ∧ new = Res.row (Value.slice A0_ a1n c0_) 37 2 a1n (flat true y0_) :: Res.row (Value.slice A1_ a2n c1_) 49 1 a2n (flat false y1_) :: ((y0_.map (It.row .u8 5)) ++ ((y1_.map (It.row .u8 5)) ++ [])) ∧ y0_.map (con true) = a1L ∧ y1_.map (con false) = a2L)) := by
  have a1l := a1h.len
  have a1v := wt_len a1L
  have a2l := a2h.len
  have a2v := wt_len a2L
  refine calls_FA Try.func17 rfl (n := 16) rfl (l := [(0, Value.agg #[Value.int .i64 a0, Value.slice a1A a1n a1c, Value.slice a2A a2n a2c])]) rfl (by simp) (fun g => ?_)
  have hS := St.init w
  refine wp_seq ?_
  refine c_reg ?_
  refine l_op rfl rfl (fun K hK => op_box (d := some 1) rfl rfl [Value.int .i64 a0, Value.slice a1A a1n a1c, Value.slice a2A a2n a2c] (by kernel_rfl) hS (fun blk2 w1 hS1 => hK _ _ ?_))
  clear hK K
  refine l_op rfl rfl (fun K hK => op_alloc (d := some 2) rfl rfl [Value.int .i64 0, Value.slice none 0 0, Value.slice none 0 0] (by kernel_rfl) hS1 (fun blk4 w3 hS3 => hK _ _ ?_))
  clear hK K
  refine l_nil rfl ?_
  refine then_n ?_
  refine wp_seq ?_
  refine c_reg ?_
  refine l_op rfl rfl (fun K hK => op_alloc (d := some 3) rfl rfl [Value.int .i64 0, Value.slice none 0 0, Value.slice none 0 0] (by kernel_rfl) hS3 (fun blk6 w5 hS5 => hK _ _ ?_))
  clear hK K
  refine l_nil rfl ?_
  refine then_n ?_
  refine wp_seq ?_
  refine c_reg ?_
  refine q_seg (S := (fun x_ => St w x_ [Res.box blk6 [Value.int .i64 0, Value.slice none 0 0, Value.slice none 0 0] 34, Res.box blk4 [Value.int .i64 0, Value.slice none 0 0, Value.slice none 0 0] 34, Res.box blk2 [Value.int .i64 a0, Value.slice a1A a1n a1c, Value.slice a2A a2n a2c] 25])) [(6, Value.pointer (some ⟨blk6, 0 + 0, none⟩)), (5, Value.int .i64 a0), (4, Value.pointer (some ⟨blk2, 0 + 0, none⟩))] [.no, .v (Value.int .i64 a0), .no] ((LoadsAt Try.prog (fun x_ => St w x_ [Res.box blk6 [Value.int .i64 0, Value.slice none 0 0, Value.slice none 0 0] 34, Res.box blk4 [Value.int .i64 0, Value.slice none 0 0, Value.slice none 0 0] 34, Res.box blk2 [Value.int .i64 a0, Value.slice a1A a1n a1c, Value.slice a2A a2n a2c] 25]) 3 ⟨blk2, 0 + 0, none⟩ (Value.int .i64 a0))) (by kernel_rfl) (ld_box (i := 2) rfl rfl (by kernel_rfl)) hS5 ?_
  refine l_op rfl rfl (fun K hK => op_store (d := none) rfl rfl (i := 0) (b := blk6) (off := 0 + 0) (cs := [Value.int .i64 0, Value.slice none 0 0, Value.slice none 0 0]) (bt := 34) (by kernel_rfl) (by kernel_rfl) [Value.int .i64 a0] (by kernel_rfl) (by kernel_rfl) (Nat.le_of_ble_eq_true (by kernel_rfl)) (by kernel_rfl) [Res.box blk6 [Value.int .i64 a0, Value.slice none 0 0, Value.slice none 0 0] 34, Res.box blk4 [Value.int .i64 0, Value.slice none 0 0, Value.slice none 0 0] 34, Res.box blk2 [Value.int .i64 a0, Value.slice a1A a1n a1c, Value.slice a2A a2n a2c] 25] (by kernel_rfl) hS5 (fun w7 hS7 => hK _ _ ?_))
  clear hK K
  refine l_nil rfl ?_
  refine then_n ?_
  refine wp_seq ?_
  refine c_reg ?_
  refine q_seg (S := (fun x_ => St w x_ [Res.box blk6 [Value.int .i64 a0, Value.slice none 0 0, Value.slice none 0 0] 34, Res.box blk4 [Value.int .i64 0, Value.slice none 0 0, Value.slice none 0 0] 34, Res.box blk2 [Value.int .i64 a0, Value.slice a1A a1n a1c, Value.slice a2A a2n a2c] 25])) [(8, Value.slice a1A a1n a1c), (7, Value.pointer (some ⟨blk2, 0 + 1, none⟩))] [.no, .v (Value.slice a1A a1n a1c)] ((LoadsAt Try.prog (fun x_ => St w x_ [Res.box blk6 [Value.int .i64 a0, Value.slice none 0 0, Value.slice none 0 0] 34, Res.box blk4 [Value.int .i64 0, Value.slice none 0 0, Value.slice none 0 0] 34, Res.box blk2 [Value.int .i64 a0, Value.slice a1A a1n a1c, Value.slice a2A a2n a2c] 25]) 22 ⟨blk2, 0 + 1, none⟩ (Value.slice a1A a1n a1c))) (by kernel_rfl) (ld_box (i := 2) rfl rfl (by kernel_rfl)) hS7 ?_
  refine l_op rfl rfl (fun K hK => op_call (d := some 9) rfl rfl ⟨_, Try.func66, by kernel_rfl, by kernel_rfl⟩ (vs := [Value.slice a1A a1n a1c]) (by kernel_rfl) (toNumberedPacketS_c a1A a1n a1c a1L w7 (by omega) (hS7.rdllow a1h)) hS7 (fun v10 new11 w8 Rw8 hS8 => hK _ _ ?_))
  clear hK K
  obtain ⟨Aq12, cq13, yq14, rfl, rfl, hcq15⟩ := Rw8
  have hS8r : St w w8 (Res.row (Value.slice Aq12 a1n cq13) 37 2 a1n (flat true yq14) :: Res.box blk6 [Value.int .i64 a0, Value.slice none 0 0, Value.slice none 0 0] 34 :: Res.box blk4 [Value.int .i64 0, Value.slice none 0 0, Value.slice none 0 0] 34 :: Res.box blk2 [Value.int .i64 a0, Value.slice a1A a1n a1c, Value.slice a2A a2n a2c] 25 :: ((yq14.map (It.row .u8 5)) ++ [])) := St.rot_1 [Res.row (Value.slice Aq12 a1n cq13) 37 2 a1n (flat true yq14)] [Res.box blk6 [Value.int .i64 a0, Value.slice none 0 0, Value.slice none 0 0] 34, Res.box blk4 [Value.int .i64 0, Value.slice none 0 0, Value.slice none 0 0] 34, Res.box blk2 [Value.int .i64 a0, Value.slice a1A a1n a1c, Value.slice a2A a2n a2c] 25] [] (yq14.map (It.row .u8 5)) hS8
  refine q_seg (S := (fun x_ => St w x_ (Res.row (Value.slice Aq12 a1n cq13) 37 2 a1n (flat true yq14) :: Res.box blk6 [Value.int .i64 a0, Value.slice none 0 0, Value.slice none 0 0] 34 :: Res.box blk4 [Value.int .i64 0, Value.slice none 0 0, Value.slice none 0 0] 34 :: Res.box blk2 [Value.int .i64 a0, Value.slice a1A a1n a1c, Value.slice a2A a2n a2c] 25 :: ((yq14.map (It.row .u8 5)) ++ [])))) [(10, Value.pointer (some ⟨blk6, 0 + 1, none⟩))] [.no] True (by kernel_rfl) trivial hS8r ?_
  refine l_op rfl rfl (fun K hK => op_store (d := none) rfl rfl (i := 1) (b := blk6) (off := 0 + 1) (cs := [Value.int .i64 a0, Value.slice none 0 0, Value.slice none 0 0]) (bt := 34) (by kernel_rfl) (by kernel_rfl) [Value.slice Aq12 a1n cq13] (by kernel_rfl) (by kernel_rfl) (Nat.le_of_ble_eq_true (by kernel_rfl)) (by kernel_rfl) (Res.row (Value.slice Aq12 a1n cq13) 37 2 a1n (flat true yq14) :: Res.box blk6 [Value.int .i64 a0, Value.slice Aq12 a1n cq13, Value.slice none 0 0] 34 :: Res.box blk4 [Value.int .i64 0, Value.slice none 0 0, Value.slice none 0 0] 34 :: Res.box blk2 [Value.int .i64 a0, Value.slice a1A a1n a1c, Value.slice a2A a2n a2c] 25 :: ((yq14.map (It.row .u8 5)) ++ [])) (by kernel_rfl) hS8r (fun w16 hS16 => hK _ _ ?_))
  clear hK K
  refine l_nil rfl ?_
  refine then_n ?_
  refine wp_seq ?_
  refine c_reg ?_
  refine q_seg (S := (fun x_ => St w x_ (Res.row (Value.slice Aq12 a1n cq13) 37 2 a1n (flat true yq14) :: Res.box blk6 [Value.int .i64 a0, Value.slice Aq12 a1n cq13, Value.slice none 0 0] 34 :: Res.box blk4 [Value.int .i64 0, Value.slice none 0 0, Value.slice none 0 0] 34 :: Res.box blk2 [Value.int .i64 a0, Value.slice a1A a1n a1c, Value.slice a2A a2n a2c] 25 :: ((yq14.map (It.row .u8 5)) ++ [])))) [(12, Value.slice a2A a2n a2c), (11, Value.pointer (some ⟨blk2, 0 + 2, none⟩))] [.no, .v (Value.slice a2A a2n a2c)] ((LoadsAt Try.prog (fun x_ => St w x_ (Res.row (Value.slice Aq12 a1n cq13) 37 2 a1n (flat true yq14) :: Res.box blk6 [Value.int .i64 a0, Value.slice Aq12 a1n cq13, Value.slice none 0 0] 34 :: Res.box blk4 [Value.int .i64 0, Value.slice none 0 0, Value.slice none 0 0] 34 :: Res.box blk2 [Value.int .i64 a0, Value.slice a1A a1n a1c, Value.slice a2A a2n a2c] 25 :: ((yq14.map (It.row .u8 5)) ++ []))) 23 ⟨blk2, 0 + 2, none⟩ (Value.slice a2A a2n a2c))) (by kernel_rfl) (ld_box (i := 3) rfl rfl (by kernel_rfl)) hS16 ?_
  refine l_op rfl rfl (fun K hK => op_call (d := some 13) rfl rfl ⟨_, Try.func67, by kernel_rfl, by kernel_rfl⟩ (vs := [Value.slice a2A a2n a2c]) (by kernel_rfl) (toPayloadS_c a2A a2n a2c a2L w16 (by omega) (hS16.rdllow a2h)) hS16 (fun v19 new20 w17 Rw17 hS17 => hK _ _ ?_))
  clear hK K
  obtain ⟨Aq21, cq22, yq23, rfl, rfl, hcq24⟩ := Rw17
  have hS17r : St w w17 (Res.row (Value.slice Aq21 a2n cq22) 49 1 a2n (flat false yq23) :: Res.row (Value.slice Aq12 a1n cq13) 37 2 a1n (flat true yq14) :: Res.box blk6 [Value.int .i64 a0, Value.slice Aq12 a1n cq13, Value.slice none 0 0] 34 :: Res.box blk4 [Value.int .i64 0, Value.slice none 0 0, Value.slice none 0 0] 34 :: Res.box blk2 [Value.int .i64 a0, Value.slice a1A a1n a1c, Value.slice a2A a2n a2c] 25 :: ((yq23.map (It.row .u8 5)) ++ ((yq14.map (It.row .u8 5)) ++ []))) := St.rot_1 [Res.row (Value.slice Aq21 a2n cq22) 49 1 a2n (flat false yq23)] [Res.row (Value.slice Aq12 a1n cq13) 37 2 a1n (flat true yq14), Res.box blk6 [Value.int .i64 a0, Value.slice Aq12 a1n cq13, Value.slice none 0 0] 34, Res.box blk4 [Value.int .i64 0, Value.slice none 0 0, Value.slice none 0 0] 34, Res.box blk2 [Value.int .i64 a0, Value.slice a1A a1n a1c, Value.slice a2A a2n a2c] 25] ((yq14.map (It.row .u8 5)) ++ []) (yq23.map (It.row .u8 5)) hS17
  refine q_seg (S := (fun x_ => St w x_ (Res.row (Value.slice Aq21 a2n cq22) 49 1 a2n (flat false yq23) :: Res.row (Value.slice Aq12 a1n cq13) 37 2 a1n (flat true yq14) :: Res.box blk6 [Value.int .i64 a0, Value.slice Aq12 a1n cq13, Value.slice none 0 0] 34 :: Res.box blk4 [Value.int .i64 0, Value.slice none 0 0, Value.slice none 0 0] 34 :: Res.box blk2 [Value.int .i64 a0, Value.slice a1A a1n a1c, Value.slice a2A a2n a2c] 25 :: ((yq23.map (It.row .u8 5)) ++ ((yq14.map (It.row .u8 5)) ++ []))))) [(14, Value.pointer (some ⟨blk6, 0 + 2, none⟩))] [.no] True (by kernel_rfl) trivial hS17r ?_
  refine l_op rfl rfl (fun K hK => op_store (d := none) rfl rfl (i := 2) (b := blk6) (off := 0 + 2) (cs := [Value.int .i64 a0, Value.slice Aq12 a1n cq13, Value.slice none 0 0]) (bt := 34) (by kernel_rfl) (by kernel_rfl) [Value.slice Aq21 a2n cq22] (by kernel_rfl) (by kernel_rfl) (Nat.le_of_ble_eq_true (by kernel_rfl)) (by kernel_rfl) (Res.row (Value.slice Aq21 a2n cq22) 49 1 a2n (flat false yq23) :: Res.row (Value.slice Aq12 a1n cq13) 37 2 a1n (flat true yq14) :: Res.box blk6 [Value.int .i64 a0, Value.slice Aq12 a1n cq13, Value.slice Aq21 a2n cq22] 34 :: Res.box blk4 [Value.int .i64 0, Value.slice none 0 0, Value.slice none 0 0] 34 :: Res.box blk2 [Value.int .i64 a0, Value.slice a1A a1n a1c, Value.slice a2A a2n a2c] 25 :: ((yq23.map (It.row .u8 5)) ++ ((yq14.map (It.row .u8 5)) ++ []))) (by kernel_rfl) hS17r (fun w25 hS25 => hK _ _ ?_))
  clear hK K
  refine l_nil rfl ?_
  refine then_n ?_
  refine wp_seq ?_
  refine c_reg ?_
  refine q_seg (S := (fun x_ => St w x_ (Res.row (Value.slice Aq21 a2n cq22) 49 1 a2n (flat false yq23) :: Res.row (Value.slice Aq12 a1n cq13) 37 2 a1n (flat true yq14) :: Res.box blk6 [Value.int .i64 a0, Value.slice Aq12 a1n cq13, Value.slice Aq21 a2n cq22] 34 :: Res.box blk4 [Value.int .i64 0, Value.slice none 0 0, Value.slice none 0 0] 34 :: Res.box blk2 [Value.int .i64 a0, Value.slice a1A a1n a1c, Value.slice a2A a2n a2c] 25 :: ((yq23.map (It.row .u8 5)) ++ ((yq14.map (It.row .u8 5)) ++ []))))) [(15, Value.agg #[Value.int .i64 a0, Value.slice Aq12 a1n cq13, Value.slice Aq21 a2n cq22])] [.v (Value.agg #[Value.int .i64 a0, Value.slice Aq12 a1n cq13, Value.slice Aq21 a2n cq22])] ((LoadsAt Try.prog (fun x_ => St w x_ (Res.row (Value.slice Aq21 a2n cq22) 49 1 a2n (flat false yq23) :: Res.row (Value.slice Aq12 a1n cq13) 37 2 a1n (flat true yq14) :: Res.box blk6 [Value.int .i64 a0, Value.slice Aq12 a1n cq13, Value.slice Aq21 a2n cq22] 34 :: Res.box blk4 [Value.int .i64 0, Value.slice none 0 0, Value.slice none 0 0] 34 :: Res.box blk2 [Value.int .i64 a0, Value.slice a1A a1n a1c, Value.slice a2A a2n a2c] 25 :: ((yq23.map (It.row .u8 5)) ++ ((yq14.map (It.row .u8 5)) ++ [])))) 34 ⟨blk6, 0, none⟩ (Value.agg #[Value.int .i64 a0, Value.slice Aq12 a1n cq13, Value.slice Aq21 a2n cq22]))) (by kernel_rfl) (ld_boxN (i := 2) (k := 3) rfl rfl rfl (by kernel_rfl)) hS25 ?_
  refine l_op rfl rfl (fun K hK => op_store (d := none) rfl rfl (i := 3) (b := blk4) (off := 0) (cs := [Value.int .i64 0, Value.slice none 0 0, Value.slice none 0 0]) (bt := 34) (by kernel_rfl) (by kernel_rfl) [Value.int .i64 a0, Value.slice Aq12 a1n cq13, Value.slice Aq21 a2n cq22] (by kernel_rfl) (by kernel_rfl) (Nat.le_of_ble_eq_true (by kernel_rfl)) (by kernel_rfl) (Res.row (Value.slice Aq21 a2n cq22) 49 1 a2n (flat false yq23) :: Res.row (Value.slice Aq12 a1n cq13) 37 2 a1n (flat true yq14) :: Res.box blk6 [Value.int .i64 a0, Value.slice Aq12 a1n cq13, Value.slice Aq21 a2n cq22] 34 :: Res.box blk4 [Value.int .i64 a0, Value.slice Aq12 a1n cq13, Value.slice Aq21 a2n cq22] 34 :: Res.box blk2 [Value.int .i64 a0, Value.slice a1A a1n a1c, Value.slice a2A a2n a2c] 25 :: ((yq23.map (It.row .u8 5)) ++ ((yq14.map (It.row .u8 5)) ++ []))) (by kernel_rfl) hS25 (fun w26 hS26 => hK _ _ ?_))
  clear hK K
  refine l_nil rfl ?_
  refine then_n ?_
  refine wp_ret ?_
  have hS26s1 : St w w26 (Res.row (Value.slice Aq21 a2n cq22) 49 1 a2n (flat false yq23) :: Res.row (Value.slice Aq12 a1n cq13) 37 2 a1n (flat true yq14) :: ((yq23.map (It.row .u8 5)) ++ ((yq14.map (It.row .u8 5)) ++ []))) := (hS26.sub (List.Sublist.cons_cons _ (List.Sublist.cons_cons _ (List.Sublist.cons _ (List.Sublist.cons _ (List.Sublist.cons _ (List.Sublist.append (List.Sublist.refl _) (List.Sublist.append (List.Sublist.refl _) List.Sublist.slnil))))))))
  have hS26s1s2 : St w w26 (Res.row (Value.slice Aq21 a2n cq22) 49 1 a2n (flat false yq23) :: Res.row (Value.slice Aq12 a1n cq13) 37 2 a1n (flat true yq14) :: ((yq23.map (It.row .u8 5)) ++ ((yq14.map (It.row .u8 5)) ++ []))) := hS26s1.front 0 rfl
  have hS26s1s2s3 : St w w26 (Res.row (Value.slice Aq12 a1n cq13) 37 2 a1n (flat true yq14) :: Res.row (Value.slice Aq21 a2n cq22) 49 1 a2n (flat false yq23) :: ((yq23.map (It.row .u8 5)) ++ ((yq14.map (It.row .u8 5)) ++ []))) := hS26s1s2.front 1 rfl
  have hS26s1s2s3s4 : St w w26 (Res.row (Value.slice Aq12 a1n cq13) 37 2 a1n (flat true yq14) :: Res.row (Value.slice Aq21 a2n cq22) 49 1 a2n (flat false yq23) :: ((yq23.map (It.row .u8 5)) ++ ((yq14.map (It.row .u8 5)) ++ []))) := St.gfront [Res.row (Value.slice Aq12 a1n cq13) 37 2 a1n (flat true yq14), Res.row (Value.slice Aq21 a2n cq22) 49 1 a2n (flat false yq23)] [] (yq23.map (It.row .u8 5)) ((yq14.map (It.row .u8 5)) ++ []) hS26s1s2s3
  have hS26s1s2s3s4s5 : St w w26 (Res.row (Value.slice Aq12 a1n cq13) 37 2 a1n (flat true yq14) :: Res.row (Value.slice Aq21 a2n cq22) 49 1 a2n (flat false yq23) :: ((yq14.map (It.row .u8 5)) ++ ((yq23.map (It.row .u8 5)) ++ []))) := St.gfront [Res.row (Value.slice Aq12 a1n cq13) 37 2 a1n (flat true yq14), Res.row (Value.slice Aq21 a2n cq22) 49 1 a2n (flat false yq23)] [(yq23.map (It.row .u8 5))] (yq14.map (It.row .u8 5)) [] hS26s1s2s3s4
  exact c_end (S := (fun x_ => St w x_ (Res.row (Value.slice Aq21 a2n cq22) 49 1 a2n (flat false yq23) :: Res.row (Value.slice Aq12 a1n cq13) 37 2 a1n (flat true yq14) :: Res.box blk6 [Value.int .i64 a0, Value.slice Aq12 a1n cq13, Value.slice Aq21 a2n cq22] 34 :: Res.box blk4 [Value.int .i64 a0, Value.slice Aq12 a1n cq13, Value.slice Aq21 a2n cq22] 34 :: Res.box blk2 [Value.int .i64 a0, Value.slice a1A a1n a1c, Value.slice a2A a2n a2c] 25 :: ((yq23.map (It.row .u8 5)) ++ ((yq14.map (It.row .u8 5)) ++ []))))) (rs := [.cell 2 34]) rfl [Value.agg #[Value.int .i64 a0, Value.slice Aq12 a1n cq13, Value.slice Aq21 a2n cq22]] (v := Value.agg #[Value.int .i64 a0, Value.slice Aq12 a1n cq13, Value.slice Aq21 a2n cq22]) (C := ((LoadsAt Try.prog (fun x_ => St w x_ (Res.row (Value.slice Aq21 a2n cq22) 49 1 a2n (flat false yq23) :: Res.row (Value.slice Aq12 a1n cq13) 37 2 a1n (flat true yq14) :: Res.box blk6 [Value.int .i64 a0, Value.slice Aq12 a1n cq13, Value.slice Aq21 a2n cq22] 34 :: Res.box blk4 [Value.int .i64 a0, Value.slice Aq12 a1n cq13, Value.slice Aq21 a2n cq22] 34 :: Res.box blk2 [Value.int .i64 a0, Value.slice a1A a1n a1c, Value.slice a2A a2n a2c] 25 :: ((yq23.map (It.row .u8 5)) ++ ((yq14.map (It.row .u8 5)) ++ [])))) 34 ⟨blk4, 0, none⟩ (Value.agg #[Value.int .i64 a0, Value.slice Aq12 a1n cq13, Value.slice Aq21 a2n cq22])))) (by kernel_rfl) (ld_boxN (i := 3) (k := 3) rfl rfl rfl (by kernel_rfl)) hS26 (hS26s1s2s3s4s5.rt ⟨_, _, _, _, _, _, rfl, rfl, hcq15, hcq24⟩)
theorem eqReceiveWindow_c (a0 : Int) (a1A : Option Addr) (a1n a1c : Nat) (a1L : List (Int × List Int)) (b1A : Option Addr) (b1c : Nat) (a2A : Option Addr) (a2n a2c : Nat) (a2L : List (Int × List Int)) (b2A : Option Addr) (b2c : Nat) (w : World) (a1h : RdL .u8 true w w.heap.size a1A a1n a1L) (a1w : wt a1L ≤ 1099511627776) (b1h : RdL .u8 true w w.heap.size b1A a1n a1L) (a2h : RdL .u8 false w w.heap.size a2A a2n a2L) (a2w : wt a2L ≤ 1099511627776) (b2h : RdL .u8 false w w.heap.size b2A a2n a2L) : Calls Try.prog 20 #[Value.agg #[Value.int .i64 a0, Value.slice a1A a1n a1c, Value.slice a2A a2n a2c], Value.agg #[Value.int .i64 a0, Value.slice b1A a1n b1c, Value.slice b2A a2n b2c]] w (RetV w (.bool true)) := by
  have a1l := a1h.len
  have a1v := wt_len a1L
  have a2l := a2h.len
  have a2v := wt_len a2L
  refine calls_FA Try.func20 rfl (n := 22) rfl (l := [(0, Value.agg #[Value.int .i64 a0, Value.slice a1A a1n a1c, Value.slice a2A a2n a2c]), (1, Value.agg #[Value.int .i64 a0, Value.slice b1A a1n b1c, Value.slice b2A a2n b2c])]) rfl (by simp) (fun g => ?_)
  have hS := St.init w
  refine wp_seq ?_
  refine c_reg ?_
  refine l_op rfl rfl (fun K hK => op_box (d := some 2) rfl rfl [Value.int .i64 a0, Value.slice a1A a1n a1c, Value.slice a2A a2n a2c] (by kernel_rfl) hS (fun blk2 w1 hS1 => hK _ _ ?_))
  clear hK K
  refine l_op rfl rfl (fun K hK => op_box (d := some 3) rfl rfl [Value.int .i64 a0, Value.slice b1A a1n b1c, Value.slice b2A a2n b2c] (by kernel_rfl) hS1 (fun blk4 w3 hS3 => hK _ _ ?_))
  clear hK K
  refine q_seg (S := (fun x_ => St w x_ [Res.box blk4 [Value.int .i64 a0, Value.slice b1A a1n b1c, Value.slice b2A a2n b2c] 34, Res.box blk2 [Value.int .i64 a0, Value.slice a1A a1n a1c, Value.slice a2A a2n a2c] 34])) [(4, Value.bool false)] [.no] True (by kernel_rfl) trivial hS3 ?_
  refine l_nil rfl ?_
  refine then_n ?_
  refine wp_seq ?_
  refine wp_seq ?_
  refine c_reg ?_
  refine q_seg (S := (fun x_ => St w x_ [Res.box blk4 [Value.int .i64 a0, Value.slice b1A a1n b1c, Value.slice b2A a2n b2c] 34, Res.box blk2 [Value.int .i64 a0, Value.slice a1A a1n a1c, Value.slice a2A a2n a2c] 34])) [(9, Value.bool (!(decide (a0 = a0)))), (8, Value.int .i64 a0), (7, Value.pointer (some ⟨blk4, 0 + 0, none⟩)), (6, Value.int .i64 a0), (5, Value.pointer (some ⟨blk2, 0 + 0, none⟩))] [.no, .v (Value.int .i64 a0), .no, .v (Value.int .i64 a0), .no] ((LoadsAt Try.prog (fun x_ => St w x_ [Res.box blk4 [Value.int .i64 a0, Value.slice b1A a1n b1c, Value.slice b2A a2n b2c] 34, Res.box blk2 [Value.int .i64 a0, Value.slice a1A a1n a1c, Value.slice a2A a2n a2c] 34]) 3 ⟨blk2, 0 + 0, none⟩ (Value.int .i64 a0)) ∧ (LoadsAt Try.prog (fun x_ => St w x_ [Res.box blk4 [Value.int .i64 a0, Value.slice b1A a1n b1c, Value.slice b2A a2n b2c] 34, Res.box blk2 [Value.int .i64 a0, Value.slice a1A a1n a1c, Value.slice a2A a2n a2c] 34]) 3 ⟨blk4, 0 + 0, none⟩ (Value.int .i64 a0))) (by kernel_rfl) ⟨(ld_box (i := 1) rfl rfl (by kernel_rfl)), (ld_box (i := 0) rfl rfl (by kernel_rfl))⟩ hS3 ?_
  refine l_nil rfl ?_
  refine then_n ?_
  refine c_false (b := (!(decide (a0 = a0)))) (by kernel_rfl) (nb (v := true) (decide_eq_true rfl)) ?_
  refine wp_skip ?_
  refine then_n ?_
  refine wp_seq ?_
  refine wp_seq ?_
  refine c_reg ?_
  refine q_seg (S := (fun x_ => St w x_ [Res.box blk4 [Value.int .i64 a0, Value.slice b1A a1n b1c, Value.slice b2A a2n b2c] 34, Res.box blk2 [Value.int .i64 a0, Value.slice a1A a1n a1c, Value.slice a2A a2n a2c] 34])) [(13, Value.slice b1A a1n b1c), (12, Value.pointer (some ⟨blk4, 0 + 1, none⟩)), (11, Value.slice a1A a1n a1c), (10, Value.pointer (some ⟨blk2, 0 + 1, none⟩))] [.no, .v (Value.slice a1A a1n a1c), .no, .v (Value.slice b1A a1n b1c)] ((LoadsAt Try.prog (fun x_ => St w x_ [Res.box blk4 [Value.int .i64 a0, Value.slice b1A a1n b1c, Value.slice b2A a2n b2c] 34, Res.box blk2 [Value.int .i64 a0, Value.slice a1A a1n a1c, Value.slice a2A a2n a2c] 34]) 31 ⟨blk2, 0 + 1, none⟩ (Value.slice a1A a1n a1c)) ∧ (LoadsAt Try.prog (fun x_ => St w x_ [Res.box blk4 [Value.int .i64 a0, Value.slice b1A a1n b1c, Value.slice b2A a2n b2c] 34, Res.box blk2 [Value.int .i64 a0, Value.slice a1A a1n a1c, Value.slice a2A a2n a2c] 34]) 31 ⟨blk4, 0 + 1, none⟩ (Value.slice b1A a1n b1c))) (by kernel_rfl) ⟨(ld_box (i := 1) rfl rfl (by kernel_rfl)), (ld_box (i := 0) rfl rfl (by kernel_rfl))⟩ hS3 ?_
  refine l_op rfl rfl (fun K hK => op_callv (d := some 14) rfl rfl ⟨_, Try.func72, by kernel_rfl, by kernel_rfl⟩ (vs := [Value.slice a1A a1n a1c, Value.slice b1A a1n b1c]) (by kernel_rfl) (v := Value.bool true) (eqNumberedPacketS_c a1A b1A a1n a1c b1c a1L w3 a1w (hS3.rdllow a1h) (hS3.rdllow b1h)) hS3 (fun w5 hS5 => hK _ _ ?_))
  clear hK K
  refine q_seg (S := (fun x_ => St w x_ [Res.box blk4 [Value.int .i64 a0, Value.slice b1A a1n b1c, Value.slice b2A a2n b2c] 34, Res.box blk2 [Value.int .i64 a0, Value.slice a1A a1n a1c, Value.slice a2A a2n a2c] 34])) [(15, Value.bool false)] [.no] True (by kernel_rfl) trivial hS5 ?_
  refine l_nil rfl ?_
  refine then_n ?_
  refine c_false (b := false) (by kernel_rfl) rfl ?_
  refine wp_skip ?_
  refine then_n ?_
  refine wp_seq ?_
  refine wp_seq ?_
  refine c_reg ?_
  refine q_seg (S := (fun x_ => St w x_ [Res.box blk4 [Value.int .i64 a0, Value.slice b1A a1n b1c, Value.slice b2A a2n b2c] 34, Res.box blk2 [Value.int .i64 a0, Value.slice a1A a1n a1c, Value.slice a2A a2n a2c] 34])) [(19, Value.slice b2A a2n b2c), (18, Value.pointer (some ⟨blk4, 0 + 2, none⟩)), (17, Value.slice a2A a2n a2c), (16, Value.pointer (some ⟨blk2, 0 + 2, none⟩))] [.no, .v (Value.slice a2A a2n a2c), .no, .v (Value.slice b2A a2n b2c)] ((LoadsAt Try.prog (fun x_ => St w x_ [Res.box blk4 [Value.int .i64 a0, Value.slice b1A a1n b1c, Value.slice b2A a2n b2c] 34, Res.box blk2 [Value.int .i64 a0, Value.slice a1A a1n a1c, Value.slice a2A a2n a2c] 34]) 32 ⟨blk2, 0 + 2, none⟩ (Value.slice a2A a2n a2c)) ∧ (LoadsAt Try.prog (fun x_ => St w x_ [Res.box blk4 [Value.int .i64 a0, Value.slice b1A a1n b1c, Value.slice b2A a2n b2c] 34, Res.box blk2 [Value.int .i64 a0, Value.slice a1A a1n a1c, Value.slice a2A a2n a2c] 34]) 32 ⟨blk4, 0 + 2, none⟩ (Value.slice b2A a2n b2c))) (by kernel_rfl) ⟨(ld_box (i := 1) rfl rfl (by kernel_rfl)), (ld_box (i := 0) rfl rfl (by kernel_rfl))⟩ hS5 ?_
  refine l_op rfl rfl (fun K hK => op_callv (d := some 20) rfl rfl ⟨_, Try.func73, by kernel_rfl, by kernel_rfl⟩ (vs := [Value.slice a2A a2n a2c, Value.slice b2A a2n b2c]) (by kernel_rfl) (v := Value.bool true) (eqPayloadS_c a2A b2A a2n a2c b2c a2L w5 a2w (hS5.rdllow a2h) (hS5.rdllow b2h)) hS5 (fun w6 hS6 => hK _ _ ?_))
  clear hK K
  refine q_seg (S := (fun x_ => St w x_ [Res.box blk4 [Value.int .i64 a0, Value.slice b1A a1n b1c, Value.slice b2A a2n b2c] 34, Res.box blk2 [Value.int .i64 a0, Value.slice a1A a1n a1c, Value.slice a2A a2n a2c] 34])) [(21, Value.bool false)] [.no] True (by kernel_rfl) trivial hS6 ?_
  refine l_nil rfl ?_
  refine then_n ?_
  refine c_false (b := false) (by kernel_rfl) rfl ?_
  refine wp_skip ?_
  refine then_n ?_
  refine wp_seq ?_
  refine c_reg ?_
  refine q_seg (S := (fun x_ => St w x_ [Res.box blk4 [Value.int .i64 a0, Value.slice b1A a1n b1c, Value.slice b2A a2n b2c] 34, Res.box blk2 [Value.int .i64 a0, Value.slice a1A a1n a1c, Value.slice a2A a2n a2c] 34])) [(4, Value.bool true)] [.no] True (by kernel_rfl) trivial hS6 ?_
  refine l_nil rfl ?_
  refine then_n ?_
  refine wp_ret ?_
  exact c_end (S := (fun x_ => St w x_ [Res.box blk4 [Value.int .i64 a0, Value.slice b1A a1n b1c, Value.slice b2A a2n b2c] 34, Res.box blk2 [Value.int .i64 a0, Value.slice a1A a1n a1c, Value.slice a2A a2n a2c] 34])) (rs := [.tmp 4]) rfl [] (v := Value.bool true) (C := True) (by kernel_rfl) trivial hS6 ((hS6.rv rfl))
theorem szReceiveWindow_c (a0 : Int) (a1A : Option Addr) (a1n a1c : Nat) (a1L : List (Int × List Int)) (a2A : Option Addr) (a2n a2c : Nat) (a2L : List (Int × List Int)) (lf : Int) (w : World) (h1 : 0 ≤ lf) (h2 : lf ≤ 1099511627776) (a1h : RdL .u8 true w w.heap.size a1A a1n a1L) (a1w : a1n ≤ 9223372036854775807) (a2h : RdL .u8 false w w.heap.size a2A a2n a2L) (a2w : a2n ≤ 9223372036854775807) : Calls Try.prog 14 #[Value.agg #[Value.int .i64 a0, Value.slice a1A a1n a1c, Value.slice a2A a2n a2c], .int .i64 lf] w (RetV w (.int .i64 (szF lf [a1L, a2L]))) := by
  refine calls_FA Try.func14 rfl (n := 18) rfl (l := [(0, Value.agg #[Value.int .i64 a0, Value.slice a1A a1n a1c, Value.slice a2A a2n a2c]), (1, Value.int .i64 lf)]) rfl (by simp) (fun g => ?_)
  have hS := St.init w
  refine wp_seq ?_
  refine c_reg ?_
  refine l_op rfl rfl (fun K hK => op_box (d := some 2) rfl rfl [Value.int .i64 a0, Value.slice a1A a1n a1c, Value.slice a2A a2n a2c] (by kernel_rfl) hS (fun blk2 w1 hS1 => hK _ _ ?_))
  clear hK K
  refine q_seg (S := (fun x_ => St w x_ [Res.box blk2 [Value.int .i64 a0, Value.slice a1A a1n a1c, Value.slice a2A a2n a2c] 25])) [(4, Value.int .i64 0)] [.no] True (by kernel_rfl) trivial hS1 ?_
  refine l_nil rfl ?_
  refine then_n ?_
  refine wp_seq ?_
  refine c_reg ?_
  refine q_seg (S := (fun x_ => St w x_ [Res.box blk2 [Value.int .i64 a0, Value.slice a1A a1n a1c, Value.slice a2A a2n a2c] 25])) [(7, Value.int .i64 lf), (6, Value.slice a1A a1n a1c), (5, Value.pointer (some ⟨blk2, 0 + 1, none⟩))] [.no, .v (Value.slice a1A a1n a1c), .no] ((LoadsAt Try.prog (fun x_ => St w x_ [Res.box blk2 [Value.int .i64 a0, Value.slice a1A a1n a1c, Value.slice a2A a2n a2c] 25]) 22 ⟨blk2, 0 + 1, none⟩ (Value.slice a1A a1n a1c))) (by kernel_rfl) (ld_box (i := 0) rfl rfl (by kernel_rfl)) hS1 ?_
  refine l_op rfl rfl (fun K hK => op_callv (d := some 8) rfl rfl ⟨_, Try.func60, by kernel_rfl, by kernel_rfl⟩ (vs := [Value.slice a1A a1n a1c, Value.int .i64 lf]) (by kernel_rfl) (v := Value.int .i64 (szI lf a1L)) (szNumberedPacketS_c a1A a1n a1c a1L lf w1 (by omega) (by omega) (by omega) (hS1.rdllow a1h)) hS1 (fun w3 hS3 => hK _ _ ?_))
  clear hK K
  have hsz4 := szI_le (L := a1L) (lf := lf) (by omega)
  refine q_seg (S := (fun x_ => St w x_ [Res.box blk2 [Value.int .i64 a0, Value.slice a1A a1n a1c, Value.slice a2A a2n a2c] 25])) [(1, Value.int .i64 (szI lf a1L))] [.no] True (by kernel_rfl) trivial hS3 ?_
  refine l_nil rfl ?_
  refine then_n ?_
  refine wp_seq ?_
  refine wp_seq ?_
  refine c_reg ?_
  refine q_seg (S := (fun x_ => St w x_ [Res.box blk2 [Value.int .i64 a0, Value.slice a1A a1n a1c, Value.slice a2A a2n a2c] 25])) [(10, Value.bool (decide ((szI lf a1L) < (0 : Int)))), (9, Value.int .i64 (szI lf a1L))] [.no, .no] True (by kernel_rfl) trivial hS3 ?_
  refine l_nil rfl ?_
  refine then_n ?_
  rcases Bool.eq_false_or_eq_true (decide ((szI lf a1L) < (0 : Int))) with hb5 | hb5
  · skip
    have hb5p := of_decide_eq_true hb5
    refine c_true (b := (decide ((szI lf a1L) < (0 : Int)))) (by kernel_rfl) hb5 ?_
    refine wp_seq ?_
    refine c_reg ?_
    refine q_seg (S := (fun x_ => St w x_ [Res.box blk2 [Value.int .i64 a0, Value.slice a1A a1n a1c, Value.slice a2A a2n a2c] 25])) [(4, Value.int .i64 (-1))] [.no] True (by kernel_rfl) trivial hS3 ?_
    refine l_nil rfl ?_
    refine then_n ?_
    refine wp_ret ?_
    refine then_r ?_
    exact c_end (S := (fun x_ => St w x_ [Res.box blk2 [Value.int .i64 a0, Value.slice a1A a1n a1c, Value.slice a2A a2n a2c] 25])) (rs := [.tmp 4]) rfl [] (v := Value.int .i64 (-1)) (C := True) (by kernel_rfl) trivial hS3 ((hS3.rv (congrArg (Value.int .i64) (by simp only [szF]; repeat (first | omega | rfl | split)))))
  · skip
    have hb5p := of_decide_eq_false hb5
    refine c_false (b := (decide ((szI lf a1L) < (0 : Int)))) (by kernel_rfl) hb5 ?_
    refine wp_skip ?_
    refine then_n ?_
    refine wp_seq ?_
    refine c_reg ?_
    refine q_seg (S := (fun x_ => St w x_ [Res.box blk2 [Value.int .i64 a0, Value.slice a1A a1n a1c, Value.slice a2A a2n a2c] 25])) [(13, Value.int .i64 (szI lf a1L)), (12, Value.slice a2A a2n a2c), (11, Value.pointer (some ⟨blk2, 0 + 2, none⟩))] [.no, .v (Value.slice a2A a2n a2c), .no] ((LoadsAt Try.prog (fun x_ => St w x_ [Res.box blk2 [Value.int .i64 a0, Value.slice a1A a1n a1c, Value.slice a2A a2n a2c] 25]) 23 ⟨blk2, 0 + 2, none⟩ (Value.slice a2A a2n a2c))) (by kernel_rfl) (ld_box (i := 0) rfl rfl (by kernel_rfl)) hS3 ?_
    refine l_op rfl rfl (fun K hK => op_callv (d := some 14) rfl rfl ⟨_, Try.func61, by kernel_rfl, by kernel_rfl⟩ (vs := [Value.slice a2A a2n a2c, Value.int .i64 (szI lf a1L)]) (by kernel_rfl) (v := Value.int .i64 (szI (szI lf a1L) a2L)) (szPayloadS_c a2A a2n a2c a2L (szI lf a1L) w3 (by omega) (by omega) (by omega) (hS3.rdllow a2h)) hS3 (fun w6 hS6 => hK _ _ ?_))
    clear hK K
    have hsz7 := szI_le (L := a2L) (lf := (szI lf a1L)) (by omega)
    refine q_seg (S := (fun x_ => St w x_ [Res.box blk2 [Value.int .i64 a0, Value.slice a1A a1n a1c, Value.slice a2A a2n a2c] 25])) [(1, Value.int .i64 (szI (szI lf a1L) a2L))] [.no] True (by kernel_rfl) trivial hS6 ?_
    refine l_nil rfl ?_
    refine then_n ?_
    refine wp_seq ?_
    refine wp_seq ?_
    refine c_reg ?_
    refine q_seg (S := (fun x_ => St w x_ [Res.box blk2 [Value.int .i64 a0, Value.slice a1A a1n a1c, Value.slice a2A a2n a2c] 25])) [(16, Value.bool (decide ((szI (szI lf a1L) a2L) < (0 : Int)))), (15, Value.int .i64 (szI (szI lf a1L) a2L))] [.no, .no] True (by kernel_rfl) trivial hS6 ?_
    refine l_nil rfl ?_
    refine then_n ?_
    rcases Bool.eq_false_or_eq_true (decide ((szI (szI lf a1L) a2L) < (0 : Int))) with hb8 | hb8
    · skip
      have hb8p := of_decide_eq_true hb8
      refine c_true (b := (decide ((szI (szI lf a1L) a2L) < (0 : Int)))) (by kernel_rfl) hb8 ?_
      refine wp_seq ?_
      refine c_reg ?_
      refine q_seg (S := (fun x_ => St w x_ [Res.box blk2 [Value.int .i64 a0, Value.slice a1A a1n a1c, Value.slice a2A a2n a2c] 25])) [(4, Value.int .i64 (-1))] [.no] True (by kernel_rfl) trivial hS6 ?_
      refine l_nil rfl ?_
      refine then_n ?_
      refine wp_ret ?_
      refine then_r ?_
      exact c_end (S := (fun x_ => St w x_ [Res.box blk2 [Value.int .i64 a0, Value.slice a1A a1n a1c, Value.slice a2A a2n a2c] 25])) (rs := [.tmp 4]) rfl [] (v := Value.int .i64 (-1)) (C := True) (by kernel_rfl) trivial hS6 ((hS6.rv (congrArg (Value.int .i64) (by simp only [szF]; repeat (first | omega | rfl | split)))))
    · skip
      have hb8p := of_decide_eq_false hb8
      refine c_false (b := (decide ((szI (szI lf a1L) a2L) < (0 : Int)))) (by kernel_rfl) hb8 ?_
      refine wp_skip ?_
      refine then_n ?_
      refine wp_seq ?_
      refine c_reg ?_
      refine q_seg (S := (fun x_ => St w x_ [Res.box blk2 [Value.int .i64 a0, Value.slice a1A a1n a1c, Value.slice a2A a2n a2c] 25])) [(4, Value.int .i64 (szI (szI lf a1L) a2L)), (17, Value.int .i64 (szI (szI lf a1L) a2L))] [.no, .no] True (by kernel_rfl) trivial hS6 ?_
      refine l_nil rfl ?_
      refine then_n ?_
      refine wp_ret ?_
      exact c_end (S := (fun x_ => St w x_ [Res.box blk2 [Value.int .i64 a0, Value.slice a1A a1n a1c, Value.slice a2A a2n a2c] 25])) (rs := [.tmp 4]) rfl [] (v := Value.int .i64 (szI (szI lf a1L) a2L)) (C := True) (by kernel_rfl) trivial hS6 ((hS6.rv (congrArg (Value.int .i64) (by simp only [szF]; repeat (first | omega | rfl | split)))))
theorem markReceiveWindow_c (a0 : Int) (a1A : Option Addr) (a1n a1c : Nat) (a1L : List (Int × List Int)) (a1y : List It) (a2A : Option Addr) (a2n a2c : Nat) (a2L : List (Int × List Int)) (a2y : List It) (k0 : Int) (tl : List Res) (w0 w : World) (hS : St w0 w (Res.row (Value.slice a1A a1n a1c) 37 2 a1n (flat true a1y) :: Res.row (Value.slice a2A a2n a2c) 49 1 a2n (flat false a2y) :: ((a1y.map (It.row .u8 5)) ++ ((a2y.map (It.row .u8 5)) ++ tl)))) (a1q : a1y.map (con true) = a1L) (a1l : a1L.length = a1n) (a2q : a2y.map (con false) = a2L) (a2l : a2L.length = a2n) (hk1 : 0 ≤ k0) (hk2 : ((k0 + ((totL true a1L : Nat) : Int)) + ((totL false a2L : Nat) : Int)) ≤ 1099511627776) : Calls Try.prog 22 #[Value.agg #[Value.int .i64 a0, Value.slice a1A a1n a1c, Value.slice a2A a2n a2c], .int .i64 k0] w (fun e w' => ∃ v own', e = .returned v ∧ St w0 w' own' ∧ (v = .int .i64 ((k0 + ((totL true a1L : Nat) : Int)) + ((totL false a2L : Nat) : Int)) ∧ own' = (Res.row (Value.slice a1A a1n a1c) 37 2 a1n (flat true (mkI (IntKind.wrap .u8) true k0 a1y)) :: Res.row (Value.slice a2A a2n a2c) 49 1 a2n (flat false (mkI (IntKind.wrap .u8) false (k0 + ((totL true a1L : Nat) : Int)) a2y)) :: (((mkI (IntKind.wrap .u8) true k0 a1y).map (It.row .u8 5)) ++ (((mkI (IntKind.wrap .u8) false (k0 + ((totL true a1L : Nat) : Int)) a2y).map (It.row .u8 5)) ++ tl))))) := by
  refine calls_FA Try.func22 rfl (n := 14) rfl (l := [(0, Value.agg #[Value.int .i64 a0, Value.slice a1A a1n a1c, Value.slice a2A a2n a2c]), (1, Value.int .i64 k0)]) rfl (by simp) (fun g => ?_)
  refine wp_seq ?_
  refine c_reg ?_
  refine l_op rfl rfl (fun K hK => op_box (d := some 2) rfl rfl [Value.int .i64 a0, Value.slice a1A a1n a1c, Value.slice a2A a2n a2c] (by kernel_rfl) hS (fun blk2 w1 hS1 => hK _ _ ?_))
  clear hK K
  refine q_seg (S := (fun x_ => St w0 x_ (Res.box blk2 [Value.int .i64 a0, Value.slice a1A a1n a1c, Value.slice a2A a2n a2c] 34 :: Res.row (Value.slice a1A a1n a1c) 37 2 a1n (flat true a1y) :: Res.row (Value.slice a2A a2n a2c) 49 1 a2n (flat false a2y) :: ((a1y.map (It.row .u8 5)) ++ ((a2y.map (It.row .u8 5)) ++ tl))))) [(4, Value.int .i64 0)] [.no] True (by kernel_rfl) trivial hS1 ?_
  refine l_nil rfl ?_
  refine then_n ?_
  refine wp_seq ?_
  refine c_reg ?_
  refine q_seg (S := (fun x_ => St w0 x_ (Res.box blk2 [Value.int .i64 a0, Value.slice a1A a1n a1c, Value.slice a2A a2n a2c] 34 :: Res.row (Value.slice a1A a1n a1c) 37 2 a1n (flat true a1y) :: Res.row (Value.slice a2A a2n a2c) 49 1 a2n (flat false a2y) :: ((a1y.map (It.row .u8 5)) ++ ((a2y.map (It.row .u8 5)) ++ tl))))) [(7, Value.int .i64 k0), (6, Value.slice a1A a1n a1c), (5, Value.pointer (some ⟨blk2, 0 + 1, none⟩))] [.no, .v (Value.slice a1A a1n a1c), .no] ((LoadsAt Try.prog (fun x_ => St w0 x_ (Res.box blk2 [Value.int .i64 a0, Value.slice a1A a1n a1c, Value.slice a2A a2n a2c] 34 :: Res.row (Value.slice a1A a1n a1c) 37 2 a1n (flat true a1y) :: Res.row (Value.slice a2A a2n a2c) 49 1 a2n (flat false a2y) :: ((a1y.map (It.row .u8 5)) ++ ((a2y.map (It.row .u8 5)) ++ tl)))) 31 ⟨blk2, 0 + 1, none⟩ (Value.slice a1A a1n a1c))) (by kernel_rfl) (ld_box (i := 0) rfl rfl (by kernel_rfl)) hS1 ?_
  have hlm4 : totL true a1L ≤ wt a1L := totL_wt _ _
  refine l_op rfl rfl (fun K hK => op_callm (d := some 8) rfl rfl ⟨_, Try.func74, by kernel_rfl, by kernel_rfl⟩ (vs := [Value.slice a1A a1n a1c, Value.int .i64 k0]) (by kernel_rfl) (markNumberedPacketS_c a1A a1n a1c k0 a1L a1y _ w0 w1 (St.frontB [Res.box blk2 [Value.int .i64 a0, Value.slice a1A a1n a1c, Value.slice a2A a2n a2c] 34] (Res.row (Value.slice a1A a1n a1c) 37 2 a1n (flat true a1y)) [Res.row (Value.slice a2A a2n a2c) 49 1 a2n (flat false a2y)] [] (a1y.map (It.row .u8 5)) ((a2y.map (It.row .u8 5)) ++ tl) hS1) a1q a1l (by omega) (by omega)) (fun v5 new6 w3 Rw3 hS3 => hK _ _ ?_))
  clear hK K
  obtain ⟨rfl, rfl⟩ := Rw3
  have hcq7 : (mkI (IntKind.wrap .u8) true k0 a1y).map (con true) = (mkL (IntKind.wrap .u8) true k0 a1L) := by rw [mkI_con, a1q]
  have hcq7w : wt (mkL (IntKind.wrap .u8) true k0 a1L) = wt a1L := mkL_wt _ _ _ _
  have hcq7t := totL_wt true a1L
  have hcq7o : okL .u8 (mkL (IntKind.wrap .u8) true k0 a1L) := mkL_ok8 _ _ _ (by omega) (by omega)
  have hS3r : St w0 w3 (Res.row (Value.slice a1A a1n a1c) 37 2 a1n (flat true (mkI (IntKind.wrap .u8) true k0 a1y)) :: Res.box blk2 [Value.int .i64 a0, Value.slice a1A a1n a1c, Value.slice a2A a2n a2c] 34 :: Res.row (Value.slice a2A a2n a2c) 49 1 a2n (flat false a2y) :: (((mkI (IntKind.wrap .u8) true k0 a1y).map (It.row .u8 5)) ++ ((a2y.map (It.row .u8 5)) ++ tl))) := St.backB (Res.row (Value.slice a1A a1n a1c) 37 2 a1n (flat true (mkI (IntKind.wrap .u8) true k0 a1y))) ((mkI (IntKind.wrap .u8) true k0 a1y).map (It.row .u8 5)) [Res.box blk2 [Value.int .i64 a0, Value.slice a1A a1n a1c, Value.slice a2A a2n a2c] 34, Res.row (Value.slice a2A a2n a2c) 49 1 a2n (flat false a2y)] ((a2y.map (It.row .u8 5)) ++ tl) hS3
  refine q_seg (S := (fun x_ => St w0 x_ (Res.row (Value.slice a1A a1n a1c) 37 2 a1n (flat true (mkI (IntKind.wrap .u8) true k0 a1y)) :: Res.box blk2 [Value.int .i64 a0, Value.slice a1A a1n a1c, Value.slice a2A a2n a2c] 34 :: Res.row (Value.slice a2A a2n a2c) 49 1 a2n (flat false a2y) :: (((mkI (IntKind.wrap .u8) true k0 a1y).map (It.row .u8 5)) ++ ((a2y.map (It.row .u8 5)) ++ tl))))) [(1, Value.int .i64 (k0 + ((totL true a1L : Nat) : Int)))] [.no] True (by kernel_rfl) trivial hS3r ?_
  refine l_nil rfl ?_
  refine then_n ?_
  refine wp_seq ?_
  refine c_reg ?_
  refine q_seg (S := (fun x_ => St w0 x_ (Res.row (Value.slice a1A a1n a1c) 37 2 a1n (flat true (mkI (IntKind.wrap .u8) true k0 a1y)) :: Res.box blk2 [Value.int .i64 a0, Value.slice a1A a1n a1c, Value.slice a2A a2n a2c] 34 :: Res.row (Value.slice a2A a2n a2c) 49 1 a2n (flat false a2y) :: (((mkI (IntKind.wrap .u8) true k0 a1y).map (It.row .u8 5)) ++ ((a2y.map (It.row .u8 5)) ++ tl))))) [(11, Value.int .i64 (k0 + ((totL true a1L : Nat) : Int))), (10, Value.slice a2A a2n a2c), (9, Value.pointer (some ⟨blk2, 0 + 2, none⟩))] [.no, .v (Value.slice a2A a2n a2c), .no] ((LoadsAt Try.prog (fun x_ => St w0 x_ (Res.row (Value.slice a1A a1n a1c) 37 2 a1n (flat true (mkI (IntKind.wrap .u8) true k0 a1y)) :: Res.box blk2 [Value.int .i64 a0, Value.slice a1A a1n a1c, Value.slice a2A a2n a2c] 34 :: Res.row (Value.slice a2A a2n a2c) 49 1 a2n (flat false a2y) :: (((mkI (IntKind.wrap .u8) true k0 a1y).map (It.row .u8 5)) ++ ((a2y.map (It.row .u8 5)) ++ tl)))) 32 ⟨blk2, 0 + 2, none⟩ (Value.slice a2A a2n a2c))) (by kernel_rfl) (ld_box (i := 1) rfl rfl (by kernel_rfl)) hS3r ?_
  have hlm9 : totL false a2L ≤ wt a2L := totL_wt _ _
  refine l_op rfl rfl (fun K hK => op_callm (d := some 12) rfl rfl ⟨_, Try.func75, by kernel_rfl, by kernel_rfl⟩ (vs := [Value.slice a2A a2n a2c, Value.int .i64 (k0 + ((totL true a1L : Nat) : Int))]) (by kernel_rfl) (markPayloadS_c a2A a2n a2c (k0 + ((totL true a1L : Nat) : Int)) a2L a2y _ w0 w3 (St.frontB [Res.row (Value.slice a1A a1n a1c) 37 2 a1n (flat true (mkI (IntKind.wrap .u8) true k0 a1y)), Res.box blk2 [Value.int .i64 a0, Value.slice a1A a1n a1c, Value.slice a2A a2n a2c] 34] (Res.row (Value.slice a2A a2n a2c) 49 1 a2n (flat false a2y)) [] [((mkI (IntKind.wrap .u8) true k0 a1y).map (It.row .u8 5))] (a2y.map (It.row .u8 5)) tl hS3r) a2q a2l (by omega) (by omega)) (fun v10 new11 w8 Rw8 hS8 => hK _ _ ?_))
  clear hK K
  obtain ⟨rfl, rfl⟩ := Rw8
  have hcq12 : (mkI (IntKind.wrap .u8) false (k0 + ((totL true a1L : Nat) : Int)) a2y).map (con false) = (mkL (IntKind.wrap .u8) false (k0 + ((totL true a1L : Nat) : Int)) a2L) := by rw [mkI_con, a2q]
  have hcq12w : wt (mkL (IntKind.wrap .u8) false (k0 + ((totL true a1L : Nat) : Int)) a2L) = wt a2L := mkL_wt _ _ _ _
  have hcq12t := totL_wt false a2L
  have hcq12o : okL .u8 (mkL (IntKind.wrap .u8) false (k0 + ((totL true a1L : Nat) : Int)) a2L) := mkL_ok8 _ _ _ (by omega) (by omega)
  have hS8r : St w0 w8 (Res.row (Value.slice a2A a2n a2c) 49 1 a2n (flat false (mkI (IntKind.wrap .u8) false (k0 + ((totL true a1L : Nat) : Int)) a2y)) :: Res.row (Value.slice a1A a1n a1c) 37 2 a1n (flat true (mkI (IntKind.wrap .u8) true k0 a1y)) :: Res.box blk2 [Value.int .i64 a0, Value.slice a1A a1n a1c, Value.slice a2A a2n a2c] 34 :: (((mkI (IntKind.wrap .u8) false (k0 + ((totL true a1L : Nat) : Int)) a2y).map (It.row .u8 5)) ++ (((mkI (IntKind.wrap .u8) true k0 a1y).map (It.row .u8 5)) ++ tl))) := St.backB (Res.row (Value.slice a2A a2n a2c) 49 1 a2n (flat false (mkI (IntKind.wrap .u8) false (k0 + ((totL true a1L : Nat) : Int)) a2y))) ((mkI (IntKind.wrap .u8) false (k0 + ((totL true a1L : Nat) : Int)) a2y).map (It.row .u8 5)) [Res.row (Value.slice a1A a1n a1c) 37 2 a1n (flat true (mkI (IntKind.wrap .u8) true k0 a1y)), Res.box blk2 [Value.int .i64 a0, Value.slice a1A a1n a1c, Value.slice a2A a2n a2c] 34] (((mkI (IntKind.wrap .u8) true k0 a1y).map (It.row .u8 5)) ++ tl) hS8
  refine q_seg (S := (fun x_ => St w0 x_ (Res.row (Value.slice a2A a2n a2c) 49 1 a2n (flat false (mkI (IntKind.wrap .u8) false (k0 + ((totL true a1L : Nat) : Int)) a2y)) :: Res.row (Value.slice a1A a1n a1c) 37 2 a1n (flat true (mkI (IntKind.wrap .u8) true k0 a1y)) :: Res.box blk2 [Value.int .i64 a0, Value.slice a1A a1n a1c, Value.slice a2A a2n a2c] 34 :: (((mkI (IntKind.wrap .u8) false (k0 + ((totL true a1L : Nat) : Int)) a2y).map (It.row .u8 5)) ++ (((mkI (IntKind.wrap .u8) true k0 a1y).map (It.row .u8 5)) ++ tl))))) [(1, Value.int .i64 ((k0 + ((totL true a1L : Nat) : Int)) + ((totL false a2L : Nat) : Int)))] [.no] True (by kernel_rfl) trivial hS8r ?_
  refine l_nil rfl ?_
  refine then_n ?_
  refine wp_seq ?_
  refine c_reg ?_
  refine q_seg (S := (fun x_ => St w0 x_ (Res.row (Value.slice a2A a2n a2c) 49 1 a2n (flat false (mkI (IntKind.wrap .u8) false (k0 + ((totL true a1L : Nat) : Int)) a2y)) :: Res.row (Value.slice a1A a1n a1c) 37 2 a1n (flat true (mkI (IntKind.wrap .u8) true k0 a1y)) :: Res.box blk2 [Value.int .i64 a0, Value.slice a1A a1n a1c, Value.slice a2A a2n a2c] 34 :: (((mkI (IntKind.wrap .u8) false (k0 + ((totL true a1L : Nat) : Int)) a2y).map (It.row .u8 5)) ++ (((mkI (IntKind.wrap .u8) true k0 a1y).map (It.row .u8 5)) ++ tl))))) [(4, Value.int .i64 ((k0 + ((totL true a1L : Nat) : Int)) + ((totL false a2L : Nat) : Int))), (13, Value.int .i64 ((k0 + ((totL true a1L : Nat) : Int)) + ((totL false a2L : Nat) : Int)))] [.no, .no] True (by kernel_rfl) trivial hS8r ?_
  refine l_nil rfl ?_
  refine then_n ?_
  refine wp_ret ?_
  have hS8rs1 : St w0 w8 (Res.row (Value.slice a2A a2n a2c) 49 1 a2n (flat false (mkI (IntKind.wrap .u8) false (k0 + ((totL true a1L : Nat) : Int)) a2y)) :: Res.row (Value.slice a1A a1n a1c) 37 2 a1n (flat true (mkI (IntKind.wrap .u8) true k0 a1y)) :: (((mkI (IntKind.wrap .u8) false (k0 + ((totL true a1L : Nat) : Int)) a2y).map (It.row .u8 5)) ++ (((mkI (IntKind.wrap .u8) true k0 a1y).map (It.row .u8 5)) ++ tl))) := (hS8r.sub (List.Sublist.cons_cons _ (List.Sublist.cons_cons _ (List.Sublist.cons _ (List.Sublist.append (List.Sublist.refl _) (List.Sublist.append (List.Sublist.refl _) (List.Sublist.refl _)))))))
  have hS8rs1s2 : St w0 w8 (Res.row (Value.slice a2A a2n a2c) 49 1 a2n (flat false (mkI (IntKind.wrap .u8) false (k0 + ((totL true a1L : Nat) : Int)) a2y)) :: Res.row (Value.slice a1A a1n a1c) 37 2 a1n (flat true (mkI (IntKind.wrap .u8) true k0 a1y)) :: (((mkI (IntKind.wrap .u8) false (k0 + ((totL true a1L : Nat) : Int)) a2y).map (It.row .u8 5)) ++ (((mkI (IntKind.wrap .u8) true k0 a1y).map (It.row .u8 5)) ++ tl))) := hS8rs1.front 0 rfl
  have hS8rs1s2s3 : St w0 w8 (Res.row (Value.slice a1A a1n a1c) 37 2 a1n (flat true (mkI (IntKind.wrap .u8) true k0 a1y)) :: Res.row (Value.slice a2A a2n a2c) 49 1 a2n (flat false (mkI (IntKind.wrap .u8) false (k0 + ((totL true a1L : Nat) : Int)) a2y)) :: (((mkI (IntKind.wrap .u8) false (k0 + ((totL true a1L : Nat) : Int)) a2y).map (It.row .u8 5)) ++ (((mkI (IntKind.wrap .u8) true k0 a1y).map (It.row .u8 5)) ++ tl))) := hS8rs1s2.front 1 rfl
  have hS8rs1s2s3s4 : St w0 w8 (Res.row (Value.slice a1A a1n a1c) 37 2 a1n (flat true (mkI (IntKind.wrap .u8) true k0 a1y)) :: Res.row (Value.slice a2A a2n a2c) 49 1 a2n (flat false (mkI (IntKind.wrap .u8) false (k0 + ((totL true a1L : Nat) : Int)) a2y)) :: (((mkI (IntKind.wrap .u8) false (k0 + ((totL true a1L : Nat) : Int)) a2y).map (It.row .u8 5)) ++ (((mkI (IntKind.wrap .u8) true k0 a1y).map (It.row .u8 5)) ++ tl))) := St.gfront [Res.row (Value.slice a1A a1n a1c) 37 2 a1n (flat true (mkI (IntKind.wrap .u8) true k0 a1y)), Res.row (Value.slice a2A a2n a2c) 49 1 a2n (flat false (mkI (IntKind.wrap .u8) false (k0 + ((totL true a1L : Nat) : Int)) a2y))] [] ((mkI (IntKind.wrap .u8) false (k0 + ((totL true a1L : Nat) : Int)) a2y).map (It.row .u8 5)) (((mkI (IntKind.wrap .u8) true k0 a1y).map (It.row .u8 5)) ++ tl) hS8rs1s2s3
  have hS8rs1s2s3s4s5 : St w0 w8 (Res.row (Value.slice a1A a1n a1c) 37 2 a1n (flat true (mkI (IntKind.wrap .u8) true k0 a1y)) :: Res.row (Value.slice a2A a2n a2c) 49 1 a2n (flat false (mkI (IntKind.wrap .u8) false (k0 + ((totL true a1L : Nat) : Int)) a2y)) :: (((mkI (IntKind.wrap .u8) true k0 a1y).map (It.row .u8 5)) ++ (((mkI (IntKind.wrap .u8) false (k0 + ((totL true a1L : Nat) : Int)) a2y).map (It.row .u8 5)) ++ tl))) := St.gfront [Res.row (Value.slice a1A a1n a1c) 37 2 a1n (flat true (mkI (IntKind.wrap .u8) true k0 a1y)), Res.row (Value.slice a2A a2n a2c) 49 1 a2n (flat false (mkI (IntKind.wrap .u8) false (k0 + ((totL true a1L : Nat) : Int)) a2y))] [((mkI (IntKind.wrap .u8) false (k0 + ((totL true a1L : Nat) : Int)) a2y).map (It.row .u8 5))] ((mkI (IntKind.wrap .u8) true k0 a1y).map (It.row .u8 5)) tl hS8rs1s2s3s4
  exact c_end (S := (fun x_ => St w0 x_ (Res.row (Value.slice a2A a2n a2c) 49 1 a2n (flat false (mkI (IntKind.wrap .u8) false (k0 + ((totL true a1L : Nat) : Int)) a2y)) :: Res.row (Value.slice a1A a1n a1c) 37 2 a1n (flat true (mkI (IntKind.wrap .u8) true k0 a1y)) :: Res.box blk2 [Value.int .i64 a0, Value.slice a1A a1n a1c, Value.slice a2A a2n a2c] 34 :: (((mkI (IntKind.wrap .u8) false (k0 + ((totL true a1L : Nat) : Int)) a2y).map (It.row .u8 5)) ++ (((mkI (IntKind.wrap .u8) true k0 a1y).map (It.row .u8 5)) ++ tl))))) (rs := [.tmp 4]) rfl [] (v := Value.int .i64 ((k0 + ((totL true a1L : Nat) : Int)) + ((totL false a2L : Nat) : Int))) (C := True) (by kernel_rfl) trivial hS8r (⟨_, _, rfl, hS8rs1s2s3s4s5, rfl, rfl⟩)
theorem heldReceiveWindow_c (a0 : Int) (a1A : Option Addr) (a1n a1c : Nat) (a1L : List (Int × List Int)) (a2A : Option Addr) (a2n a2c : Nat) (a2L : List (Int × List Int)) (k0 : Int) (w : World) (hk1 : 0 ≤ k0) (hk2 : ((k0 + ((totL true a1L : Nat) : Int)) + ((totL false a2L : Nat) : Int)) ≤ 1099511627776) (a1h : RdL .u8 true w w.heap.size a1A a1n (mkL (IntKind.wrap .u8) true k0 a1L)) (a1w : a1n ≤ 9223372036854775807) (a2h : RdL .u8 false w w.heap.size a2A a2n (mkL (IntKind.wrap .u8) false (k0 + ((totL true a1L : Nat) : Int)) a2L)) (a2w : a2n ≤ 9223372036854775807) : Calls Try.prog 24 #[Value.agg #[Value.int .i64 a0, Value.slice a1A a1n a1c, Value.slice a2A a2n a2c], .int .i64 k0] w (RetV w (.int .i64 ((k0 + ((totL true a1L : Nat) : Int)) + ((totL false a2L : Nat) : Int)))) := by
  refine calls_FA Try.func24 rfl (n := 18) rfl (l := [(0, Value.agg #[Value.int .i64 a0, Value.slice a1A a1n a1c, Value.slice a2A a2n a2c]), (1, Value.int .i64 k0)]) rfl (by simp) (fun g => ?_)
  have hS := St.init w
  refine wp_seq ?_
  refine c_reg ?_
  refine l_op rfl rfl (fun K hK => op_box (d := some 2) rfl rfl [Value.int .i64 a0, Value.slice a1A a1n a1c, Value.slice a2A a2n a2c] (by kernel_rfl) hS (fun blk2 w1 hS1 => hK _ _ ?_))
  clear hK K
  refine q_seg (S := (fun x_ => St w x_ [Res.box blk2 [Value.int .i64 a0, Value.slice a1A a1n a1c, Value.slice a2A a2n a2c] 34])) [(4, Value.int .i64 0)] [.no] True (by kernel_rfl) trivial hS1 ?_
  refine l_nil rfl ?_
  refine then_n ?_
  refine wp_seq ?_
  refine c_reg ?_
  refine q_seg (S := (fun x_ => St w x_ [Res.box blk2 [Value.int .i64 a0, Value.slice a1A a1n a1c, Value.slice a2A a2n a2c] 34])) [(7, Value.int .i64 k0), (6, Value.slice a1A a1n a1c), (5, Value.pointer (some ⟨blk2, 0 + 1, none⟩))] [.no, .v (Value.slice a1A a1n a1c), .no] ((LoadsAt Try.prog (fun x_ => St w x_ [Res.box blk2 [Value.int .i64 a0, Value.slice a1A a1n a1c, Value.slice a2A a2n a2c] 34]) 31 ⟨blk2, 0 + 1, none⟩ (Value.slice a1A a1n a1c))) (by kernel_rfl) (ld_box (i := 0) rfl rfl (by kernel_rfl)) hS1 ?_
  refine l_op rfl rfl (fun K hK => op_callv (d := some 8) rfl rfl ⟨_, Try.func76, by kernel_rfl, by kernel_rfl⟩ (vs := [Value.slice a1A a1n a1c, Value.int .i64 k0]) (by kernel_rfl) (v := Value.int .i64 (k0 + ((totL true a1L : Nat) : Int))) (heldNumberedPacketS_c a1A a1n a1c k0 a1L w1 (by omega) (by omega) (by omega) (hS1.rdllow a1h)) hS1 (fun w3 hS3 => hK _ _ ?_))
  clear hK K
  refine q_seg (S := (fun x_ => St w x_ [Res.box blk2 [Value.int .i64 a0, Value.slice a1A a1n a1c, Value.slice a2A a2n a2c] 34])) [(1, Value.int .i64 (k0 + ((totL true a1L : Nat) : Int)))] [.no] True (by kernel_rfl) trivial hS3 ?_
  refine l_nil rfl ?_
  refine then_n ?_
  refine wp_seq ?_
  refine wp_seq ?_
  refine c_reg ?_
  refine q_seg (S := (fun x_ => St w x_ [Res.box blk2 [Value.int .i64 a0, Value.slice a1A a1n a1c, Value.slice a2A a2n a2c] 34])) [(10, Value.bool (decide ((k0 + ((totL true a1L : Nat) : Int)) < (0 : Int)))), (9, Value.int .i64 (k0 + ((totL true a1L : Nat) : Int)))] [.no, .no] True (by kernel_rfl) trivial hS3 ?_
  refine l_nil rfl ?_
  refine then_n ?_
  refine c_false (b := (decide ((k0 + ((totL true a1L : Nat) : Int)) < (0 : Int)))) (by kernel_rfl) (decide_eq_false (by omega)) ?_
  refine wp_skip ?_
  refine then_n ?_
  refine wp_seq ?_
  refine c_reg ?_
  refine q_seg (S := (fun x_ => St w x_ [Res.box blk2 [Value.int .i64 a0, Value.slice a1A a1n a1c, Value.slice a2A a2n a2c] 34])) [(13, Value.int .i64 (k0 + ((totL true a1L : Nat) : Int))), (12, Value.slice a2A a2n a2c), (11, Value.pointer (some ⟨blk2, 0 + 2, none⟩))] [.no, .v (Value.slice a2A a2n a2c), .no] ((LoadsAt Try.prog (fun x_ => St w x_ [Res.box blk2 [Value.int .i64 a0, Value.slice a1A a1n a1c, Value.slice a2A a2n a2c] 34]) 32 ⟨blk2, 0 + 2, none⟩ (Value.slice a2A a2n a2c))) (by kernel_rfl) (ld_box (i := 0) rfl rfl (by kernel_rfl)) hS3 ?_
  refine l_op rfl rfl (fun K hK => op_callv (d := some 14) rfl rfl ⟨_, Try.func77, by kernel_rfl, by kernel_rfl⟩ (vs := [Value.slice a2A a2n a2c, Value.int .i64 (k0 + ((totL true a1L : Nat) : Int))]) (by kernel_rfl) (v := Value.int .i64 ((k0 + ((totL true a1L : Nat) : Int)) + ((totL false a2L : Nat) : Int))) (heldPayloadS_c a2A a2n a2c (k0 + ((totL true a1L : Nat) : Int)) a2L w3 (by omega) (by omega) (by omega) (hS3.rdllow a2h)) hS3 (fun w4 hS4 => hK _ _ ?_))
  clear hK K
  refine q_seg (S := (fun x_ => St w x_ [Res.box blk2 [Value.int .i64 a0, Value.slice a1A a1n a1c, Value.slice a2A a2n a2c] 34])) [(1, Value.int .i64 ((k0 + ((totL true a1L : Nat) : Int)) + ((totL false a2L : Nat) : Int)))] [.no] True (by kernel_rfl) trivial hS4 ?_
  refine l_nil rfl ?_
  refine then_n ?_
  refine wp_seq ?_
  refine wp_seq ?_
  refine c_reg ?_
  refine q_seg (S := (fun x_ => St w x_ [Res.box blk2 [Value.int .i64 a0, Value.slice a1A a1n a1c, Value.slice a2A a2n a2c] 34])) [(16, Value.bool (decide (((k0 + ((totL true a1L : Nat) : Int)) + ((totL false a2L : Nat) : Int)) < (0 : Int)))), (15, Value.int .i64 ((k0 + ((totL true a1L : Nat) : Int)) + ((totL false a2L : Nat) : Int)))] [.no, .no] True (by kernel_rfl) trivial hS4 ?_
  refine l_nil rfl ?_
  refine then_n ?_
  refine c_false (b := (decide (((k0 + ((totL true a1L : Nat) : Int)) + ((totL false a2L : Nat) : Int)) < (0 : Int)))) (by kernel_rfl) (decide_eq_false (by omega)) ?_
  refine wp_skip ?_
  refine then_n ?_
  refine wp_seq ?_
  refine c_reg ?_
  refine q_seg (S := (fun x_ => St w x_ [Res.box blk2 [Value.int .i64 a0, Value.slice a1A a1n a1c, Value.slice a2A a2n a2c] 34])) [(4, Value.int .i64 ((k0 + ((totL true a1L : Nat) : Int)) + ((totL false a2L : Nat) : Int))), (17, Value.int .i64 ((k0 + ((totL true a1L : Nat) : Int)) + ((totL false a2L : Nat) : Int)))] [.no, .no] True (by kernel_rfl) trivial hS4 ?_
  refine l_nil rfl ?_
  refine then_n ?_
  refine wp_ret ?_
  exact c_end (S := (fun x_ => St w x_ [Res.box blk2 [Value.int .i64 a0, Value.slice a1A a1n a1c, Value.slice a2A a2n a2c] 34])) (rs := [.tmp 4]) rfl [] (v := Value.int .i64 ((k0 + ((totL true a1L : Nat) : Int)) + ((totL false a2L : Nat) : Int))) (C := True) (by kernel_rfl) trivial hS4 ((hS4.rv rfl))
theorem copySender_i_c (a0 : Int) (a1A : Option Addr) (a1n a1c : Nat) (a1L : List (Int × List Int)) (w : World) (a1h : RdL .u8 true w w.heap.size a1A a1n a1L) (a1w : wt a1L ≤ 1099511627776) : Calls Try.prog 87 #[Value.agg #[Value.int .i64 a0, Value.slice a1A a1n a1c]] w (Ret w (fun v new => ∃ (A0_ : Option Addr) (c0_ : Nat) (y0_ : List It), v = Value.agg #[Value.int .i64 a0, Value.slice A0_ a1n c0_] ∧ new = Res.row (Value.slice A0_ a1n c0_) 37 2 a1n (flat true y0_) :: ((y0_.map (It.row .u8 5)) ++ []) ∧ y0_.map (con true) = a1L)) := by
  have a1l := a1h.len
  have a1v := wt_len a1L
  refine calls_FA Try.func87 rfl (n := 9) rfl (l := [(0, Value.agg #[Value.int .i64 a0, Value.slice a1A a1n a1c])]) rfl (by simp) (fun g => ?_)
  have hS := St.init w
  refine wp_seq ?_
  refine c_reg ?_
  refine l_op rfl rfl (fun K hK => op_box (d := some 1) rfl rfl [Value.int .i64 a0, Value.slice a1A a1n a1c] (by kernel_rfl) hS (fun blk2 w1 hS1 => hK _ _ ?_))
  clear hK K
  refine l_op rfl rfl (fun K hK => op_alloc (d := some 2) rfl rfl [Value.int .i64 0, Value.slice none 0 0] (by kernel_rfl) hS1 (fun blk4 w3 hS3 => hK _ _ ?_))
  clear hK K
  refine l_nil rfl ?_
  refine then_n ?_
  refine wp_seq ?_
  refine c_drawn [6] (by kernel_rfl) hS3 (fun w5 hS5 => ?_)
  refine t_seg (S := (fun x_ => St w x_ [Res.box blk4 [Value.int .i64 0, Value.slice none 0 0] 55, Res.box blk2 [Value.int .i64 a0, Value.slice a1A a1n a1c] 55])) [(0, .no), (2, .no), (1, .v (Value.int .i64 a0)), (3, .v (Value.slice a1A a1n a1c))] 3 #[true, true, true, true, false, false, false] [(6, Value.slice a1A a1n a1c), (4, Value.int .i64 a0), (5, Value.pointer (some ⟨blk2, 0 + 1, none⟩)), (3, Value.pointer (some ⟨blk2, 0 + 0, none⟩))] ((LoadsAt Try.prog (fun x_ => St w x_ [Res.box blk4 [Value.int .i64 0, Value.slice none 0 0] 55, Res.box blk2 [Value.int .i64 a0, Value.slice a1A a1n a1c] 55]) 3 ⟨blk2, 0 + 0, none⟩ (Value.int .i64 a0)) ∧ (LoadsAt Try.prog (fun x_ => St w x_ [Res.box blk4 [Value.int .i64 0, Value.slice none 0 0] 55, Res.box blk2 [Value.int .i64 a0, Value.slice a1A a1n a1c] 55]) 31 ⟨blk2, 0 + 1, none⟩ (Value.slice a1A a1n a1c))) (by kernel_rfl) (Qpanic.then Qpanic.bp) rfl (by kernel_rfl) ⟨(ld_box (i := 1) rfl rfl (by kernel_rfl)), (ld_box (i := 1) rfl rfl (by kernel_rfl))⟩ hS5 ?_
  refine a_op (i := 4) (fuel := 2) (listed' := #[true, true, true, true, true, false, false]) rfl rfl (by kernel_rfl) (by kernel_rfl) rfl (fun K hK => op_call (d := some 7) rfl rfl ⟨_, Try.func89, by kernel_rfl, by kernel_rfl⟩ (vs := [Value.slice a1A a1n a1c]) (by kernel_rfl) (copyNumbered_i_c a1A a1n a1c a1L w5 (by omega) (hS5.rdllow a1h)) hS5 (fun v8 new9 w6 Rw6 hS6 => hK _ _ (fun _ => hS6.after) ?_))
  clear hK K
  obtain ⟨Aq10, cq11, yq12, rfl, rfl, hcq13⟩ := Rw6
  have hS6r : St w w6 (Res.row (Value.slice Aq10 a1n cq11) 37 2 a1n (flat true yq12) :: Res.box blk4 [Value.int .i64 0, Value.slice none 0 0] 55 :: Res.box blk2 [Value.int .i64 a0, Value.slice a1A a1n a1c] 55 :: ((yq12.map (It.row .u8 5)) ++ [])) := St.rot_1 [Res.row (Value.slice Aq10 a1n cq11) 37 2 a1n (flat true yq12)] [Res.box blk4 [Value.int .i64 0, Value.slice none 0 0] 55, Res.box blk2 [Value.int .i64 a0, Value.slice a1A a1n a1c] 55] [] (yq12.map (It.row .u8 5)) hS6
  refine t_seg (S := (fun x_ => St w x_ [Res.box blk4 [Value.int .i64 0, Value.slice none 0 0] 55, Res.box blk2 [Value.int .i64 a0, Value.slice a1A a1n a1c] 55])) [(5, .no)] 1 #[true, true, true, true, true, true, false] [(8, Value.agg #[Value.int .i64 a0, Value.slice Aq10 a1n cq11])] True (by kernel_rfl) (Qpanic.then Qpanic.bp) rfl (by kernel_rfl) trivial (hS6r.sub (List.Sublist.cons _ (List.Sublist.cons_cons _ (List.Sublist.cons_cons _ (List.Sublist.trans List.Sublist.slnil (List.sublist_append_right _ _)))))) ?_
  refine a_op (i := 6) (fuel := 0) (listed' := #[true, true, true, true, true, true, true]) rfl rfl (by kernel_rfl) (by kernel_rfl) rfl (fun K hK => op_store (d := none) rfl rfl (i := 1) (b := blk4) (off := 0) (cs := [Value.int .i64 0, Value.slice none 0 0]) (bt := 55) (by kernel_rfl) (by kernel_rfl) [Value.int .i64 a0, Value.slice Aq10 a1n cq11] (by kernel_rfl) (by kernel_rfl) (Nat.le_of_ble_eq_true (by kernel_rfl)) (by kernel_rfl) (Res.row (Value.slice Aq10 a1n cq11) 37 2 a1n (flat true yq12) :: Res.box blk4 [Value.int .i64 a0, Value.slice Aq10 a1n cq11] 55 :: Res.box blk2 [Value.int .i64 a0, Value.slice a1A a1n a1c] 55 :: ((yq12.map (It.row .u8 5)) ++ [])) (by kernel_rfl) hS6r (fun w14 hS14 => hK _ _ (fun h => absurd h (by decide)) ?_))
  clear hK K
  refine a_done (by kernel_rfl) ?_
  refine then_n ?_
  refine wp_ret ?_
  have hS14s1 : St w w14 (Res.row (Value.slice Aq10 a1n cq11) 37 2 a1n (flat true yq12) :: ((yq12.map (It.row .u8 5)) ++ [])) := (hS14.sub (List.Sublist.cons_cons _ (List.Sublist.cons _ (List.Sublist.cons _ (List.Sublist.append (List.Sublist.refl _) List.Sublist.slnil)))))
  exact c_end (S := (fun x_ => St w x_ (Res.row (Value.slice Aq10 a1n cq11) 37 2 a1n (flat true yq12) :: Res.box blk4 [Value.int .i64 a0, Value.slice Aq10 a1n cq11] 55 :: Res.box blk2 [Value.int .i64 a0, Value.slice a1A a1n a1c] 55 :: ((yq12.map (It.row .u8 5)) ++ [])))) (rs := [.cell 2 55]) rfl [Value.agg #[Value.int .i64 a0, Value.slice Aq10 a1n cq11]] (v := Value.agg #[Value.int .i64 a0, Value.slice Aq10 a1n cq11]) (C := ((LoadsAt Try.prog (fun x_ => St w x_ (Res.row (Value.slice Aq10 a1n cq11) 37 2 a1n (flat true yq12) :: Res.box blk4 [Value.int .i64 a0, Value.slice Aq10 a1n cq11] 55 :: Res.box blk2 [Value.int .i64 a0, Value.slice a1A a1n a1c] 55 :: ((yq12.map (It.row .u8 5)) ++ []))) 55 ⟨blk4, 0, none⟩ (Value.agg #[Value.int .i64 a0, Value.slice Aq10 a1n cq11])))) (by kernel_rfl) (ld_boxN (i := 1) (k := 2) rfl rfl rfl (by kernel_rfl)) hS14 (hS14s1.rt ⟨_, _, _, rfl, rfl, hcq13⟩)
theorem l24Sender_s_c (a0 : Int) (a1A : Option Addr) (a1n a1c : Nat) (a1L : List (Int × List Int)) (w : World) (a1h : RdL .u8 true w w.heap.size a1A a1n a1L) (a1w : wt a1L ≤ 1099511627776) : Calls Try.prog 88 #[Value.agg #[Value.int .i64 a0, Value.slice a1A a1n a1c]] w (Ret w (fun v new => ∃ (A0_ : Option Addr) (c0_ : Nat) (y0_ : List It), v = Value.agg #[Value.int .i64 a0, Value.slice A0_ a1n c0_] ∧ new = Res.row (Value.slice A0_ a1n c0_) 37 2 a1n (flat true y0_) :: ((y0_.map (It.row .u8 5)) ++ []) ∧ y0_.map (con true) = a1L)) := by
  have a1l := a1h.len
  have a1v := wt_len a1L
  refine calls_FA Try.func88 rfl (n := 9) rfl (l := [(0, Value.agg #[Value.int .i64 a0, Value.slice a1A a1n a1c])]) rfl (by simp) (fun g => ?_)
  have hS := St.init w
  refine wp_seq ?_
  refine c_reg ?_
  refine l_op rfl rfl (fun K hK => op_box (d := some 1) rfl rfl [Value.int .i64 a0, Value.slice a1A a1n a1c] (by kernel_rfl) hS (fun blk2 w1 hS1 => hK _ _ ?_))
  clear hK K
  refine l_op rfl rfl (fun K hK => op_alloc (d := some 2) rfl rfl [Value.int .i64 0, Value.slice none 0 0] (by kernel_rfl) hS1 (fun blk4 w3 hS3 => hK _ _ ?_))
  clear hK K
  refine l_nil rfl ?_
  refine then_n ?_
  refine wp_seq ?_
  refine c_drawn [6] (by kernel_rfl) hS3 (fun w5 hS5 => ?_)
  refine t_seg (S := (fun x_ => St w x_ [Res.box blk4 [Value.int .i64 0, Value.slice none 0 0] 55, Res.box blk2 [Value.int .i64 a0, Value.slice a1A a1n a1c] 55])) [(0, .no), (2, .no), (1, .v (Value.int .i64 a0)), (3, .v (Value.slice a1A a1n a1c))] 3 #[true, true, true, true, false, false, false] [(6, Value.slice a1A a1n a1c), (4, Value.int .i64 a0), (5, Value.pointer (some ⟨blk2, 0 + 1, none⟩)), (3, Value.pointer (some ⟨blk2, 0 + 0, none⟩))] ((LoadsAt Try.prog (fun x_ => St w x_ [Res.box blk4 [Value.int .i64 0, Value.slice none 0 0] 55, Res.box blk2 [Value.int .i64 a0, Value.slice a1A a1n a1c] 55]) 3 ⟨blk2, 0 + 0, none⟩ (Value.int .i64 a0)) ∧ (LoadsAt Try.prog (fun x_ => St w x_ [Res.box blk4 [Value.int .i64 0, Value.slice none 0 0] 55, Res.box blk2 [Value.int .i64 a0, Value.slice a1A a1n a1c] 55]) 31 ⟨blk2, 0 + 1, none⟩ (Value.slice a1A a1n a1c))) (by kernel_rfl) (Qpanic.then Qpanic.bp) rfl (by kernel_rfl) ⟨(ld_box (i := 1) rfl rfl (by kernel_rfl)), (ld_box (i := 1) rfl rfl (by kernel_rfl))⟩ hS5 ?_
  refine a_op (i := 4) (fuel := 2) (listed' := #[true, true, true, true, true, false, false]) rfl rfl (by kernel_rfl) (by kernel_rfl) rfl (fun K hK => op_call (d := some 7) rfl rfl ⟨_, Try.func95, by kernel_rfl, by kernel_rfl⟩ (vs := [Value.slice a1A a1n a1c]) (by kernel_rfl) (l24Sents_s_c a1A a1n a1c a1L w5 (by omega) (hS5.rdllow a1h)) hS5 (fun v8 new9 w6 Rw6 hS6 => hK _ _ (fun _ => hS6.after) ?_))
  clear hK K
  obtain ⟨Aq10, cq11, yq12, rfl, rfl, hcq13⟩ := Rw6
  have hS6r : St w w6 (Res.row (Value.slice Aq10 a1n cq11) 37 2 a1n (flat true yq12) :: Res.box blk4 [Value.int .i64 0, Value.slice none 0 0] 55 :: Res.box blk2 [Value.int .i64 a0, Value.slice a1A a1n a1c] 55 :: ((yq12.map (It.row .u8 5)) ++ [])) := St.rot_1 [Res.row (Value.slice Aq10 a1n cq11) 37 2 a1n (flat true yq12)] [Res.box blk4 [Value.int .i64 0, Value.slice none 0 0] 55, Res.box blk2 [Value.int .i64 a0, Value.slice a1A a1n a1c] 55] [] (yq12.map (It.row .u8 5)) hS6
  refine t_seg (S := (fun x_ => St w x_ [Res.box blk4 [Value.int .i64 0, Value.slice none 0 0] 55, Res.box blk2 [Value.int .i64 a0, Value.slice a1A a1n a1c] 55])) [(5, .no)] 1 #[true, true, true, true, true, true, false] [(8, Value.agg #[Value.int .i64 a0, Value.slice Aq10 a1n cq11])] True (by kernel_rfl) (Qpanic.then Qpanic.bp) rfl (by kernel_rfl) trivial (hS6r.sub (List.Sublist.cons _ (List.Sublist.cons_cons _ (List.Sublist.cons_cons _ (List.Sublist.trans List.Sublist.slnil (List.sublist_append_right _ _)))))) ?_
  refine a_op (i := 6) (fuel := 0) (listed' := #[true, true, true, true, true, true, true]) rfl rfl (by kernel_rfl) (by kernel_rfl) rfl (fun K hK => op_store (d := none) rfl rfl (i := 1) (b := blk4) (off := 0) (cs := [Value.int .i64 0, Value.slice none 0 0]) (bt := 55) (by kernel_rfl) (by kernel_rfl) [Value.int .i64 a0, Value.slice Aq10 a1n cq11] (by kernel_rfl) (by kernel_rfl) (Nat.le_of_ble_eq_true (by kernel_rfl)) (by kernel_rfl) (Res.row (Value.slice Aq10 a1n cq11) 37 2 a1n (flat true yq12) :: Res.box blk4 [Value.int .i64 a0, Value.slice Aq10 a1n cq11] 55 :: Res.box blk2 [Value.int .i64 a0, Value.slice a1A a1n a1c] 55 :: ((yq12.map (It.row .u8 5)) ++ [])) (by kernel_rfl) hS6r (fun w14 hS14 => hK _ _ (fun h => absurd h (by decide)) ?_))
  clear hK K
  refine a_done (by kernel_rfl) ?_
  refine then_n ?_
  refine wp_ret ?_
  have hS14s1 : St w w14 (Res.row (Value.slice Aq10 a1n cq11) 37 2 a1n (flat true yq12) :: ((yq12.map (It.row .u8 5)) ++ [])) := (hS14.sub (List.Sublist.cons_cons _ (List.Sublist.cons _ (List.Sublist.cons _ (List.Sublist.append (List.Sublist.refl _) List.Sublist.slnil)))))
  exact c_end (S := (fun x_ => St w x_ (Res.row (Value.slice Aq10 a1n cq11) 37 2 a1n (flat true yq12) :: Res.box blk4 [Value.int .i64 a0, Value.slice Aq10 a1n cq11] 55 :: Res.box blk2 [Value.int .i64 a0, Value.slice a1A a1n a1c] 55 :: ((yq12.map (It.row .u8 5)) ++ [])))) (rs := [.cell 2 55]) rfl [Value.agg #[Value.int .i64 a0, Value.slice Aq10 a1n cq11]] (v := Value.agg #[Value.int .i64 a0, Value.slice Aq10 a1n cq11]) (C := ((LoadsAt Try.prog (fun x_ => St w x_ (Res.row (Value.slice Aq10 a1n cq11) 37 2 a1n (flat true yq12) :: Res.box blk4 [Value.int .i64 a0, Value.slice Aq10 a1n cq11] 55 :: Res.box blk2 [Value.int .i64 a0, Value.slice a1A a1n a1c] 55 :: ((yq12.map (It.row .u8 5)) ++ []))) 55 ⟨blk4, 0, none⟩ (Value.agg #[Value.int .i64 a0, Value.slice Aq10 a1n cq11])))) (by kernel_rfl) (ld_boxN (i := 1) (k := 2) rfl rfl rfl (by kernel_rfl)) hS14 (hS14s1.rt ⟨_, _, _, rfl, rfl, hcq13⟩)
theorem copyReceiver_i_c (a0 : Int) (a1A : Option Addr) (a1n a1c : Nat) (a1L : List (Int × List Int)) (a2A : Option Addr) (a2n a2c : Nat) (a2L : List (Int × List Int)) (w : World) (a1h : RdL .u8 true w w.heap.size a1A a1n a1L) (a1w : wt a1L ≤ 1099511627776) (a2h : RdL .u8 false w w.heap.size a2A a2n a2L) (a2w : wt a2L ≤ 1099511627776) : Calls Try.prog 68 #[Value.agg #[Value.int .i64 a0, Value.slice a1A a1n a1c, Value.slice a2A a2n a2c]] w (Ret w (fun v new => ∃ (A0_ : Option Addr) (c0_ : Nat) (y0_ : List It) (A1_ : Option Addr) (c1_ : Nat) (y1_ : List It), v = Value.agg #[Value.int .i64 a0, Value.slice A0_ a1n c0_, Value.slice A1_ a2n c1_] ∧ new = Res.row (Value.slice A0_ a1n c0_) 37 2 a1n (flat true y0_) :: Res.row (Value.slice A1_ a2n c1_) 49 1 a2n (flat false y1_) :: ((y0_.map (It.row .u8 5)) ++ ((y1_.map (It.row .u8 5)) ++ [])) ∧ y0_.map (con true) = a1L ∧ y1_.map (con false) = a2L)) := by
  have a1l := a1h.len
  have a1v := wt_len a1L
  have a2l := a2h.len
  have a2v := wt_len a2L
  refine calls_FA Try.func68 rfl (n := 12) rfl (l := [(0, Value.agg #[Value.int .i64 a0, Value.slice a1A a1n a1c, Value.slice a2A a2n a2c])]) rfl (by simp) (fun g => ?_)
  have hS := St.init w
  refine wp_seq ?_
  refine c_reg ?_
  refine l_op rfl rfl (fun K hK => op_box (d := some 1) rfl rfl [Value.int .i64 a0, Value.slice a1A a1n a1c, Value.slice a2A a2n a2c] (by kernel_rfl) hS (fun blk2 w1 hS1 => hK _ _ ?_))
  clear hK K
  refine l_op rfl rfl (fun K hK => op_alloc (d := some 2) rfl rfl [Value.int .i64 0, Value.slice none 0 0, Value.slice none 0 0] (by kernel_rfl) hS1 (fun blk4 w3 hS3 => hK _ _ ?_))
  clear hK K
  refine l_nil rfl ?_
  refine then_n ?_
  refine wp_seq ?_
  refine c_drawn [9] (by kernel_rfl) hS3 (fun w5 hS5 => ?_)
  refine t_seg (S := (fun x_ => St w x_ [Res.box blk4 [Value.int .i64 0, Value.slice none 0 0, Value.slice none 0 0] 34, Res.box blk2 [Value.int .i64 a0, Value.slice a1A a1n a1c, Value.slice a2A a2n a2c] 34])) [(0, .no), (2, .no), (5, .no), (1, .v (Value.int .i64 a0)), (3, .v (Value.slice a1A a1n a1c)), (6, .v (Value.slice a2A a2n a2c))] 4 #[true, true, true, true, false, true, true, false, false, false] [(9, Value.slice a2A a2n a2c), (6, Value.slice a1A a1n a1c), (4, Value.int .i64 a0), (8, Value.pointer (some ⟨blk2, 0 + 2, none⟩)), (5, Value.pointer (some ⟨blk2, 0 + 1, none⟩)), (3, Value.pointer (some ⟨blk2, 0 + 0, none⟩))] ((LoadsAt Try.prog (fun x_ => St w x_ [Res.box blk4 [Value.int .i64 0, Value.slice none 0 0, Value.slice none 0 0] 34, Res.box blk2 [Value.int .i64 a0, Value.slice a1A a1n a1c, Value.slice a2A a2n a2c] 34]) 3 ⟨blk2, 0 + 0, none⟩ (Value.int .i64 a0)) ∧ (LoadsAt Try.prog (fun x_ => St w x_ [Res.box blk4 [Value.int .i64 0, Value.slice none 0 0, Value.slice none 0 0] 34, Res.box blk2 [Value.int .i64 a0, Value.slice a1A a1n a1c, Value.slice a2A a2n a2c] 34]) 31 ⟨blk2, 0 + 1, none⟩ (Value.slice a1A a1n a1c)) ∧ (LoadsAt Try.prog (fun x_ => St w x_ [Res.box blk4 [Value.int .i64 0, Value.slice none 0 0, Value.slice none 0 0] 34, Res.box blk2 [Value.int .i64 a0, Value.slice a1A a1n a1c, Value.slice a2A a2n a2c] 34]) 32 ⟨blk2, 0 + 2, none⟩ (Value.slice a2A a2n a2c))) (by kernel_rfl) (Qpanic.then Qpanic.bp) rfl (by kernel_rfl) ⟨(ld_box (i := 1) rfl rfl (by kernel_rfl)), (ld_box (i := 1) rfl rfl (by kernel_rfl)), (ld_box (i := 1) rfl rfl (by kernel_rfl))⟩ hS5 ?_
  refine a_op (i := 4) (fuel := 3) (listed' := #[true, true, true, true, true, true, true, false, false, false]) rfl rfl (by kernel_rfl) (by kernel_rfl) rfl (fun K hK => op_call (d := some 7) rfl rfl ⟨_, Try.func89, by kernel_rfl, by kernel_rfl⟩ (vs := [Value.slice a1A a1n a1c]) (by kernel_rfl) (copyNumbered_i_c a1A a1n a1c a1L w5 (by omega) (hS5.rdllow a1h)) hS5 (fun v8 new9 w6 Rw6 hS6 => hK _ _ (fun _ => hS6.after) ?_))
  clear hK K
  obtain ⟨Aq10, cq11, yq12, rfl, rfl, hcq13⟩ := Rw6
  have hS6r : St w w6 (Res.row (Value.slice Aq10 a1n cq11) 37 2 a1n (flat true yq12) :: Res.box blk4 [Value.int .i64 0, Value.slice none 0 0, Value.slice none 0 0] 34 :: Res.box blk2 [Value.int .i64 a0, Value.slice a1A a1n a1c, Value.slice a2A a2n a2c] 34 :: ((yq12.map (It.row .u8 5)) ++ [])) := St.rot_1 [Res.row (Value.slice Aq10 a1n cq11) 37 2 a1n (flat true yq12)] [Res.box blk4 [Value.int .i64 0, Value.slice none 0 0, Value.slice none 0 0] 34, Res.box blk2 [Value.int .i64 a0, Value.slice a1A a1n a1c, Value.slice a2A a2n a2c] 34] [] (yq12.map (It.row .u8 5)) hS6
  refine a_op (i := 7) (fuel := 2) (listed' := #[true, true, true, true, true, true, true, true, false, false]) rfl rfl (by kernel_rfl) (by kernel_rfl) rfl (fun K hK => op_call (d := some 10) rfl rfl ⟨_, Try.func98, by kernel_rfl, by kernel_rfl⟩ (vs := [Value.slice a2A a2n a2c]) (by kernel_rfl) (copyPayloads_i_c a2A a2n a2c a2L w6 (by omega) (hS6r.rdllow a2h)) hS6r (fun v16 new17 w14 Rw14 hS14 => hK _ _ (fun _ => (hS14.after.sub (List.Sublist.cons _ (List.Sublist.cons_cons _ (List.Sublist.cons_cons _ (List.Sublist.trans List.Sublist.slnil (List.sublist_append_right _ _))))))) ?_))
  clear hK K
  obtain ⟨Aq18, cq19, yq20, rfl, rfl, hcq21⟩ := Rw14
  have hS14r : St w w14 (Res.row (Value.slice Aq18 a2n cq19) 49 1 a2n (flat false yq20) :: Res.row (Value.slice Aq10 a1n cq11) 37 2 a1n (flat true yq12) :: Res.box blk4 [Value.int .i64 0, Value.slice none 0 0, Value.slice none 0 0] 34 :: Res.box blk2 [Value.int .i64 a0, Value.slice a1A a1n a1c, Value.slice a2A a2n a2c] 34 :: ((yq20.map (It.row .u8 5)) ++ ((yq12.map (It.row .u8 5)) ++ []))) := St.rot_1 [Res.row (Value.slice Aq18 a2n cq19) 49 1 a2n (flat false yq20)] [Res.row (Value.slice Aq10 a1n cq11) 37 2 a1n (flat true yq12), Res.box blk4 [Value.int .i64 0, Value.slice none 0 0, Value.slice none 0 0] 34, Res.box blk2 [Value.int .i64 a0, Value.slice a1A a1n a1c, Value.slice a2A a2n a2c] 34] ((yq12.map (It.row .u8 5)) ++ []) (yq20.map (It.row .u8 5)) hS14
  refine t_seg (S := (fun x_ => St w x_ [Res.box blk4 [Value.int .i64 0, Value.slice none 0 0, Value.slice none 0 0] 34, Res.box blk2 [Value.int .i64 a0, Value.slice a1A a1n a1c, Value.slice a2A a2n a2c] 34])) [(8, .no)] 1 #[true, true, true, true, true, true, true, true, true, false] [(11, Value.agg #[Value.int .i64 a0, Value.slice Aq10 a1n cq11, Value.slice Aq18 a2n cq19])] True (by kernel_rfl) (Qpanic.then Qpanic.bp) rfl (by kernel_rfl) trivial (hS14r.sub (List.Sublist.cons _ (List.Sublist.cons _ (List.Sublist.cons_cons _ (List.Sublist.cons_cons _ (List.Sublist.trans (List.Sublist.trans List.Sublist.slnil (List.sublist_append_right _ _)) (List.sublist_append_right _ _))))))) ?_
  refine a_op (i := 9) (fuel := 0) (listed' := #[true, true, true, true, true, true, true, true, true, true]) rfl rfl (by kernel_rfl) (by kernel_rfl) rfl (fun K hK => op_store (d := none) rfl rfl (i := 2) (b := blk4) (off := 0) (cs := [Value.int .i64 0, Value.slice none 0 0, Value.slice none 0 0]) (bt := 34) (by kernel_rfl) (by kernel_rfl) [Value.int .i64 a0, Value.slice Aq10 a1n cq11, Value.slice Aq18 a2n cq19] (by kernel_rfl) (by kernel_rfl) (Nat.le_of_ble_eq_true (by kernel_rfl)) (by kernel_rfl) (Res.row (Value.slice Aq18 a2n cq19) 49 1 a2n (flat false yq20) :: Res.row (Value.slice Aq10 a1n cq11) 37 2 a1n (flat true yq12) :: Res.box blk4 [Value.int .i64 a0, Value.slice Aq10 a1n cq11, Value.slice Aq18 a2n cq19] 34 :: Res.box blk2 [Value.int .i64 a0, Value.slice a1A a1n a1c, Value.slice a2A a2n a2c] 34 :: ((yq20.map (It.row .u8 5)) ++ ((yq12.map (It.row .u8 5)) ++ []))) (by kernel_rfl) hS14r (fun w22 hS22 => hK _ _ (fun h => absurd h (by decide)) ?_))
  clear hK K
  refine a_done (by kernel_rfl) ?_
  refine then_n ?_
  refine wp_ret ?_
  have hS22s1 : St w w22 (Res.row (Value.slice Aq18 a2n cq19) 49 1 a2n (flat false yq20) :: Res.row (Value.slice Aq10 a1n cq11) 37 2 a1n (flat true yq12) :: ((yq20.map (It.row .u8 5)) ++ ((yq12.map (It.row .u8 5)) ++ []))) := (hS22.sub (List.Sublist.cons_cons _ (List.Sublist.cons_cons _ (List.Sublist.cons _ (List.Sublist.cons _ (List.Sublist.append (List.Sublist.refl _) (List.Sublist.append (List.Sublist.refl _) List.Sublist.slnil)))))))
  have hS22s1s2 : St w w22 (Res.row (Value.slice Aq18 a2n cq19) 49 1 a2n (flat false yq20) :: Res.row (Value.slice Aq10 a1n cq11) 37 2 a1n (flat true yq12) :: ((yq20.map (It.row .u8 5)) ++ ((yq12.map (It.row .u8 5)) ++ []))) := hS22s1.front 0 rfl
  have hS22s1s2s3 : St w w22 (Res.row (Value.slice Aq10 a1n cq11) 37 2 a1n (flat true yq12) :: Res.row (Value.slice Aq18 a2n cq19) 49 1 a2n (flat false yq20) :: ((yq20.map (It.row .u8 5)) ++ ((yq12.map (It.row .u8 5)) ++ []))) := hS22s1s2.front 1 rfl
  have hS22s1s2s3s4 : St w w22 (Res.row (Value.slice Aq10 a1n cq11) 37 2 a1n (flat true yq12) :: Res.row (Value.slice Aq18 a2n cq19) 49 1 a2n (flat false yq20) :: ((yq20.map (It.row .u8 5)) ++ ((yq12.map (It.row .u8 5)) ++ []))) := St.gfront [Res.row (Value.slice Aq10 a1n cq11) 37 2 a1n (flat true yq12), Res.row (Value.slice Aq18 a2n cq19) 49 1 a2n (flat false yq20)] [] (yq20.map (It.row .u8 5)) ((yq12.map (It.row .u8 5)) ++ []) hS22s1s2s3
  have hS22s1s2s3s4s5 : St w w22 (Res.row (Value.slice Aq10 a1n cq11) 37 2 a1n (flat true yq12) :: Res.row (Value.slice Aq18 a2n cq19) 49 1 a2n (flat false yq20) :: ((yq12.map (It.row .u8 5)) ++ ((yq20.map (It.row .u8 5)) ++ []))) := St.gfront [Res.row (Value.slice Aq10 a1n cq11) 37 2 a1n (flat true yq12), Res.row (Value.slice Aq18 a2n cq19) 49 1 a2n (flat false yq20)] [(yq20.map (It.row .u8 5))] (yq12.map (It.row .u8 5)) [] hS22s1s2s3s4
  exact c_end (S := (fun x_ => St w x_ (Res.row (Value.slice Aq18 a2n cq19) 49 1 a2n (flat false yq20) :: Res.row (Value.slice Aq10 a1n cq11) 37 2 a1n (flat true yq12) :: Res.box blk4 [Value.int .i64 a0, Value.slice Aq10 a1n cq11, Value.slice Aq18 a2n cq19] 34 :: Res.box blk2 [Value.int .i64 a0, Value.slice a1A a1n a1c, Value.slice a2A a2n a2c] 34 :: ((yq20.map (It.row .u8 5)) ++ ((yq12.map (It.row .u8 5)) ++ []))))) (rs := [.cell 2 34]) rfl [Value.agg #[Value.int .i64 a0, Value.slice Aq10 a1n cq11, Value.slice Aq18 a2n cq19]] (v := Value.agg #[Value.int .i64 a0, Value.slice Aq10 a1n cq11, Value.slice Aq18 a2n cq19]) (C := ((LoadsAt Try.prog (fun x_ => St w x_ (Res.row (Value.slice Aq18 a2n cq19) 49 1 a2n (flat false yq20) :: Res.row (Value.slice Aq10 a1n cq11) 37 2 a1n (flat true yq12) :: Res.box blk4 [Value.int .i64 a0, Value.slice Aq10 a1n cq11, Value.slice Aq18 a2n cq19] 34 :: Res.box blk2 [Value.int .i64 a0, Value.slice a1A a1n a1c, Value.slice a2A a2n a2c] 34 :: ((yq20.map (It.row .u8 5)) ++ ((yq12.map (It.row .u8 5)) ++ [])))) 34 ⟨blk4, 0, none⟩ (Value.agg #[Value.int .i64 a0, Value.slice Aq10 a1n cq11, Value.slice Aq18 a2n cq19])))) (by kernel_rfl) (ld_boxN (i := 2) (k := 3) rfl rfl rfl (by kernel_rfl)) hS22 (hS22s1s2s3s4s5.rt ⟨_, _, _, _, _, _, rfl, rfl, hcq13, hcq21⟩)
theorem l24Recv_s_c (a0 : Int) (a1A : Option Addr) (a1n a1c : Nat) (a1L : List (Int × List Int)) (a2A : Option Addr) (a2n a2c : Nat) (a2L : List (Int × List Int)) (w : World) (a1h : RdL .u8 true w w.heap.size a1A a1n a1L) (a1w : wt a1L ≤ 1099511627776) (a2h : RdL .u8 false w w.heap.size a2A a2n a2L) (a2w : wt a2L ≤ 1099511627776) : Calls Try.prog 63 #[Value.agg #[Value.int .i64 a0, Value.slice a1A a1n a1c, Value.slice a2A a2n a2c]] w (Ret w (fun v new => ∃ (A0_ : Option Addr) (c0_ : Nat) (y0_ : List It) (A1_ : Option Addr) (c1_ : Nat) (y1_ : List It), v = Value.agg #[Value.int .i64 a0, Value.slice A0_ a1n c0_, Value.slice A1_ a2n c1_] ∧ new = Res.row (Value.slice A0_ a1n c0_) 37 2 a1n (flat true y0_) :: Res.row (Value.slice A1_ a2n c1_) 49 1 a2n (flat false y1_) :: ((y0_.map (It.row .u8 5)) ++ ((y1_.map (It.row .u8 5)) ++ [])) ∧ y0_.map (con true) = a1L ∧ y1_.map (con false) = a2L)) := by
  have a1l := a1h.len
  have a1v := wt_len a1L
  have a2l := a2h.len
  have a2v := wt_len a2L
  refine calls_FA Try.func63 rfl (n := 12) rfl (l := [(0, Value.agg #[Value.int .i64 a0, Value.slice a1A a1n a1c, Value.slice a2A a2n a2c])]) rfl (by simp) (fun g => ?_)
  have hS := St.init w
  refine wp_seq ?_
  refine c_reg ?_
  refine l_op rfl rfl (fun K hK => op_box (d := some 1) rfl rfl [Value.int .i64 a0, Value.slice a1A a1n a1c, Value.slice a2A a2n a2c] (by kernel_rfl) hS (fun blk2 w1 hS1 => hK _ _ ?_))
  clear hK K
  refine l_op rfl rfl (fun K hK => op_alloc (d := some 2) rfl rfl [Value.int .i64 0, Value.slice none 0 0, Value.slice none 0 0] (by kernel_rfl) hS1 (fun blk4 w3 hS3 => hK _ _ ?_))
  clear hK K
  refine l_nil rfl ?_
  refine then_n ?_
  refine wp_seq ?_
  refine c_drawn [9] (by kernel_rfl) hS3 (fun w5 hS5 => ?_)
  refine t_seg (S := (fun x_ => St w x_ [Res.box blk4 [Value.int .i64 0, Value.slice none 0 0, Value.slice none 0 0] 34, Res.box blk2 [Value.int .i64 a0, Value.slice a1A a1n a1c, Value.slice a2A a2n a2c] 34])) [(0, .no), (2, .no), (5, .no), (1, .v (Value.int .i64 a0)), (3, .v (Value.slice a1A a1n a1c)), (6, .v (Value.slice a2A a2n a2c))] 4 #[true, true, true, true, false, true, true, false, false, false] [(9, Value.slice a2A a2n a2c), (6, Value.slice a1A a1n a1c), (4, Value.int .i64 a0), (8, Value.pointer (some ⟨blk2, 0 + 2, none⟩)), (5, Value.pointer (some ⟨blk2, 0 + 1, none⟩)), (3, Value.pointer (some ⟨blk2, 0 + 0, none⟩))] ((LoadsAt Try.prog (fun x_ => St w x_ [Res.box blk4 [Value.int .i64 0, Value.slice none 0 0, Value.slice none 0 0] 34, Res.box blk2 [Value.int .i64 a0, Value.slice a1A a1n a1c, Value.slice a2A a2n a2c] 34]) 3 ⟨blk2, 0 + 0, none⟩ (Value.int .i64 a0)) ∧ (LoadsAt Try.prog (fun x_ => St w x_ [Res.box blk4 [Value.int .i64 0, Value.slice none 0 0, Value.slice none 0 0] 34, Res.box blk2 [Value.int .i64 a0, Value.slice a1A a1n a1c, Value.slice a2A a2n a2c] 34]) 31 ⟨blk2, 0 + 1, none⟩ (Value.slice a1A a1n a1c)) ∧ (LoadsAt Try.prog (fun x_ => St w x_ [Res.box blk4 [Value.int .i64 0, Value.slice none 0 0, Value.slice none 0 0] 34, Res.box blk2 [Value.int .i64 a0, Value.slice a1A a1n a1c, Value.slice a2A a2n a2c] 34]) 32 ⟨blk2, 0 + 2, none⟩ (Value.slice a2A a2n a2c))) (by kernel_rfl) (Qpanic.then Qpanic.bp) rfl (by kernel_rfl) ⟨(ld_box (i := 1) rfl rfl (by kernel_rfl)), (ld_box (i := 1) rfl rfl (by kernel_rfl)), (ld_box (i := 1) rfl rfl (by kernel_rfl))⟩ hS5 ?_
  refine a_op (i := 4) (fuel := 3) (listed' := #[true, true, true, true, true, true, true, false, false, false]) rfl rfl (by kernel_rfl) (by kernel_rfl) rfl (fun K hK => op_call (d := some 7) rfl rfl ⟨_, Try.func95, by kernel_rfl, by kernel_rfl⟩ (vs := [Value.slice a1A a1n a1c]) (by kernel_rfl) (l24Sents_s_c a1A a1n a1c a1L w5 (by omega) (hS5.rdllow a1h)) hS5 (fun v8 new9 w6 Rw6 hS6 => hK _ _ (fun _ => hS6.after) ?_))
  clear hK K
  obtain ⟨Aq10, cq11, yq12, rfl, rfl, hcq13⟩ := Rw6
  have hS6r : St w w6 (Res.row (Value.slice Aq10 a1n cq11) 37 2 a1n (flat true yq12) :: Res.box blk4 [Value.int .i64 0, Value.slice none 0 0, Value.slice none 0 0] 34 :: Res.box blk2 [Value.int .i64 a0, Value.slice a1A a1n a1c, Value.slice a2A a2n a2c] 34 :: ((yq12.map (It.row .u8 5)) ++ [])) := St.rot_1 [Res.row (Value.slice Aq10 a1n cq11) 37 2 a1n (flat true yq12)] [Res.box blk4 [Value.int .i64 0, Value.slice none 0 0, Value.slice none 0 0] 34, Res.box blk2 [Value.int .i64 a0, Value.slice a1A a1n a1c, Value.slice a2A a2n a2c] 34] [] (yq12.map (It.row .u8 5)) hS6
  refine a_op (i := 7) (fuel := 2) (listed' := #[true, true, true, true, true, true, true, true, false, false]) rfl rfl (by kernel_rfl) (by kernel_rfl) rfl (fun K hK => op_call (d := some 10) rfl rfl ⟨_, Try.func96, by kernel_rfl, by kernel_rfl⟩ (vs := [Value.slice a2A a2n a2c]) (by kernel_rfl) (l15Bodies_s_c a2A a2n a2c a2L w6 (by omega) (hS6r.rdllow a2h)) hS6r (fun v16 new17 w14 Rw14 hS14 => hK _ _ (fun _ => (hS14.after.sub (List.Sublist.cons _ (List.Sublist.cons_cons _ (List.Sublist.cons_cons _ (List.Sublist.trans List.Sublist.slnil (List.sublist_append_right _ _))))))) ?_))
  clear hK K
  obtain ⟨Aq18, cq19, yq20, rfl, rfl, hcq21⟩ := Rw14
  have hS14r : St w w14 (Res.row (Value.slice Aq18 a2n cq19) 49 1 a2n (flat false yq20) :: Res.row (Value.slice Aq10 a1n cq11) 37 2 a1n (flat true yq12) :: Res.box blk4 [Value.int .i64 0, Value.slice none 0 0, Value.slice none 0 0] 34 :: Res.box blk2 [Value.int .i64 a0, Value.slice a1A a1n a1c, Value.slice a2A a2n a2c] 34 :: ((yq20.map (It.row .u8 5)) ++ ((yq12.map (It.row .u8 5)) ++ []))) := St.rot_1 [Res.row (Value.slice Aq18 a2n cq19) 49 1 a2n (flat false yq20)] [Res.row (Value.slice Aq10 a1n cq11) 37 2 a1n (flat true yq12), Res.box blk4 [Value.int .i64 0, Value.slice none 0 0, Value.slice none 0 0] 34, Res.box blk2 [Value.int .i64 a0, Value.slice a1A a1n a1c, Value.slice a2A a2n a2c] 34] ((yq12.map (It.row .u8 5)) ++ []) (yq20.map (It.row .u8 5)) hS14
  refine t_seg (S := (fun x_ => St w x_ [Res.box blk4 [Value.int .i64 0, Value.slice none 0 0, Value.slice none 0 0] 34, Res.box blk2 [Value.int .i64 a0, Value.slice a1A a1n a1c, Value.slice a2A a2n a2c] 34])) [(8, .no)] 1 #[true, true, true, true, true, true, true, true, true, false] [(11, Value.agg #[Value.int .i64 a0, Value.slice Aq10 a1n cq11, Value.slice Aq18 a2n cq19])] True (by kernel_rfl) (Qpanic.then Qpanic.bp) rfl (by kernel_rfl) trivial (hS14r.sub (List.Sublist.cons _ (List.Sublist.cons _ (List.Sublist.cons_cons _ (List.Sublist.cons_cons _ (List.Sublist.trans (List.Sublist.trans List.Sublist.slnil (List.sublist_append_right _ _)) (List.sublist_append_right _ _))))))) ?_
  refine a_op (i := 9) (fuel := 0) (listed' := #[true, true, true, true, true, true, true, true, true, true]) rfl rfl (by kernel_rfl) (by kernel_rfl) rfl (fun K hK => op_store (d := none) rfl rfl (i := 2) (b := blk4) (off := 0) (cs := [Value.int .i64 0, Value.slice none 0 0, Value.slice none 0 0]) (bt := 34) (by kernel_rfl) (by kernel_rfl) [Value.int .i64 a0, Value.slice Aq10 a1n cq11, Value.slice Aq18 a2n cq19] (by kernel_rfl) (by kernel_rfl) (Nat.le_of_ble_eq_true (by kernel_rfl)) (by kernel_rfl) (Res.row (Value.slice Aq18 a2n cq19) 49 1 a2n (flat false yq20) :: Res.row (Value.slice Aq10 a1n cq11) 37 2 a1n (flat true yq12) :: Res.box blk4 [Value.int .i64 a0, Value.slice Aq10 a1n cq11, Value.slice Aq18 a2n cq19] 34 :: Res.box blk2 [Value.int .i64 a0, Value.slice a1A a1n a1c, Value.slice a2A a2n a2c] 34 :: ((yq20.map (It.row .u8 5)) ++ ((yq12.map (It.row .u8 5)) ++ []))) (by kernel_rfl) hS14r (fun w22 hS22 => hK _ _ (fun h => absurd h (by decide)) ?_))
  clear hK K
  refine a_done (by kernel_rfl) ?_
  refine then_n ?_
  refine wp_ret ?_
  have hS22s1 : St w w22 (Res.row (Value.slice Aq18 a2n cq19) 49 1 a2n (flat false yq20) :: Res.row (Value.slice Aq10 a1n cq11) 37 2 a1n (flat true yq12) :: ((yq20.map (It.row .u8 5)) ++ ((yq12.map (It.row .u8 5)) ++ []))) := (hS22.sub (List.Sublist.cons_cons _ (List.Sublist.cons_cons _ (List.Sublist.cons _ (List.Sublist.cons _ (List.Sublist.append (List.Sublist.refl _) (List.Sublist.append (List.Sublist.refl _) List.Sublist.slnil)))))))
  have hS22s1s2 : St w w22 (Res.row (Value.slice Aq18 a2n cq19) 49 1 a2n (flat false yq20) :: Res.row (Value.slice Aq10 a1n cq11) 37 2 a1n (flat true yq12) :: ((yq20.map (It.row .u8 5)) ++ ((yq12.map (It.row .u8 5)) ++ []))) := hS22s1.front 0 rfl
  have hS22s1s2s3 : St w w22 (Res.row (Value.slice Aq10 a1n cq11) 37 2 a1n (flat true yq12) :: Res.row (Value.slice Aq18 a2n cq19) 49 1 a2n (flat false yq20) :: ((yq20.map (It.row .u8 5)) ++ ((yq12.map (It.row .u8 5)) ++ []))) := hS22s1s2.front 1 rfl
  have hS22s1s2s3s4 : St w w22 (Res.row (Value.slice Aq10 a1n cq11) 37 2 a1n (flat true yq12) :: Res.row (Value.slice Aq18 a2n cq19) 49 1 a2n (flat false yq20) :: ((yq20.map (It.row .u8 5)) ++ ((yq12.map (It.row .u8 5)) ++ []))) := St.gfront [Res.row (Value.slice Aq10 a1n cq11) 37 2 a1n (flat true yq12), Res.row (Value.slice Aq18 a2n cq19) 49 1 a2n (flat false yq20)] [] (yq20.map (It.row .u8 5)) ((yq12.map (It.row .u8 5)) ++ []) hS22s1s2s3
  have hS22s1s2s3s4s5 : St w w22 (Res.row (Value.slice Aq10 a1n cq11) 37 2 a1n (flat true yq12) :: Res.row (Value.slice Aq18 a2n cq19) 49 1 a2n (flat false yq20) :: ((yq12.map (It.row .u8 5)) ++ ((yq20.map (It.row .u8 5)) ++ []))) := St.gfront [Res.row (Value.slice Aq10 a1n cq11) 37 2 a1n (flat true yq12), Res.row (Value.slice Aq18 a2n cq19) 49 1 a2n (flat false yq20)] [(yq20.map (It.row .u8 5))] (yq12.map (It.row .u8 5)) [] hS22s1s2s3s4
  exact c_end (S := (fun x_ => St w x_ (Res.row (Value.slice Aq18 a2n cq19) 49 1 a2n (flat false yq20) :: Res.row (Value.slice Aq10 a1n cq11) 37 2 a1n (flat true yq12) :: Res.box blk4 [Value.int .i64 a0, Value.slice Aq10 a1n cq11, Value.slice Aq18 a2n cq19] 34 :: Res.box blk2 [Value.int .i64 a0, Value.slice a1A a1n a1c, Value.slice a2A a2n a2c] 34 :: ((yq20.map (It.row .u8 5)) ++ ((yq12.map (It.row .u8 5)) ++ []))))) (rs := [.cell 2 34]) rfl [Value.agg #[Value.int .i64 a0, Value.slice Aq10 a1n cq11, Value.slice Aq18 a2n cq19]] (v := Value.agg #[Value.int .i64 a0, Value.slice Aq10 a1n cq11, Value.slice Aq18 a2n cq19]) (C := ((LoadsAt Try.prog (fun x_ => St w x_ (Res.row (Value.slice Aq18 a2n cq19) 49 1 a2n (flat false yq20) :: Res.row (Value.slice Aq10 a1n cq11) 37 2 a1n (flat true yq12) :: Res.box blk4 [Value.int .i64 a0, Value.slice Aq10 a1n cq11, Value.slice Aq18 a2n cq19] 34 :: Res.box blk2 [Value.int .i64 a0, Value.slice a1A a1n a1c, Value.slice a2A a2n a2c] 34 :: ((yq20.map (It.row .u8 5)) ++ ((yq12.map (It.row .u8 5)) ++ [])))) 34 ⟨blk4, 0, none⟩ (Value.agg #[Value.int .i64 a0, Value.slice Aq10 a1n cq11, Value.slice Aq18 a2n cq19])))) (by kernel_rfl) (ld_boxN (i := 2) (k := 3) rfl rfl rfl (by kernel_rfl)) hS22 (hS22s1s2s3s4s5.rt ⟨_, _, _, _, _, _, rfl, rfl, hcq13, hcq21⟩)
theorem EqualSenders_i_c (a0 : Int) (a1A : Option Addr) (a1n a1c : Nat) (a1L : List (Int × List Int)) (b0 : Int) (b1A : Option Addr) (b1n b1c : Nat) (b1L : List (Int × List Int)) (w : World) (a1h : RdL .u8 true w w.heap.size a1A a1n a1L) (a1w : wt a1L ≤ 1099511627776) (b1h : RdL .u8 true w w.heap.size b1A b1n b1L) (b1w : wt b1L ≤ 1099511627776) : Calls Try.prog 35 #[Value.agg #[Value.int .i64 a0, Value.slice a1A a1n a1c], Value.agg #[Value.int .i64 b0, Value.slice b1A b1n b1c]] w (RetV w (.bool (decide (a0 = b0) && decide (a1L = b1L)))) := by
  have a1l := a1h.len
  have a1v := wt_len a1L
  have b1l := b1h.len
  have b1v := wt_len b1L
  refine calls_FA Try.func35 rfl (n := 17) rfl (l := [(0, Value.agg #[Value.int .i64 a0, Value.slice a1A a1n a1c]), (1, Value.agg #[Value.int .i64 b0, Value.slice b1A b1n b1c])]) rfl (by simp) (fun g => ?_)
  have hS := St.init w
  refine wp_seq ?_
  refine c_reg ?_
  refine l_op rfl rfl (fun K hK => op_box (d := some 2) rfl rfl [Value.int .i64 a0, Value.slice a1A a1n a1c] (by kernel_rfl) hS (fun blk2 w1 hS1 => hK _ _ ?_))
  clear hK K
  refine l_op rfl rfl (fun K hK => op_box (d := some 3) rfl rfl [Value.int .i64 b0, Value.slice b1A b1n b1c] (by kernel_rfl) hS1 (fun blk4 w3 hS3 => hK _ _ ?_))
  clear hK K
  refine q_seg (S := (fun x_ => St w x_ [Res.box blk4 [Value.int .i64 b0, Value.slice b1A b1n b1c] 55, Res.box blk2 [Value.int .i64 a0, Value.slice a1A a1n a1c] 55])) [(4, Value.bool false)] [.no] True (by kernel_rfl) trivial hS3 ?_
  refine l_nil rfl ?_
  refine then_n ?_
  refine wp_seq ?_
  refine c_reg ?_
  refine q_seg (S := (fun x_ => St w x_ [Res.box blk4 [Value.int .i64 b0, Value.slice b1A b1n b1c] 55, Res.box blk2 [Value.int .i64 a0, Value.slice a1A a1n a1c] 55])) [(10, Value.bool (decide (a0 = b0))), (9, Value.bool (decide (a0 = b0))), (8, Value.int .i64 b0), (7, Value.pointer (some ⟨blk4, 0 + 0, none⟩)), (6, Value.int .i64 a0), (5, Value.pointer (some ⟨blk2, 0 + 0, none⟩))] [.no, .v (Value.int .i64 a0), .no, .v (Value.int .i64 b0), .no, .no] ((LoadsAt Try.prog (fun x_ => St w x_ [Res.box blk4 [Value.int .i64 b0, Value.slice b1A b1n b1c] 55, Res.box blk2 [Value.int .i64 a0, Value.slice a1A a1n a1c] 55]) 3 ⟨blk2, 0 + 0, none⟩ (Value.int .i64 a0)) ∧ (LoadsAt Try.prog (fun x_ => St w x_ [Res.box blk4 [Value.int .i64 b0, Value.slice b1A b1n b1c] 55, Res.box blk2 [Value.int .i64 a0, Value.slice a1A a1n a1c] 55]) 3 ⟨blk4, 0 + 0, none⟩ (Value.int .i64 b0))) (by kernel_rfl) ⟨(ld_box (i := 1) rfl rfl (by kernel_rfl)), (ld_box (i := 0) rfl rfl (by kernel_rfl))⟩ hS3 ?_
  rcases Bool.eq_false_or_eq_true (decide (a0 = b0)) with hb5 | hb5
  · skip
    have hb5p := of_decide_eq_true hb5
    refine q_seg (S := (fun x_ => St w x_ [Res.box blk4 [Value.int .i64 b0, Value.slice b1A b1n b1c] 55, Res.box blk2 [Value.int .i64 a0, Value.slice a1A a1n a1c] 55])) [(14, Value.slice b1A b1n b1c), (13, Value.pointer (some ⟨blk4, 0 + 1, none⟩)), (12, Value.slice a1A a1n a1c), (11, Value.pointer (some ⟨blk2, 0 + 1, none⟩))] [.no, .v (Value.slice a1A a1n a1c), .no, .v (Value.slice b1A b1n b1c)] (((decide (a0 = b0)) = true) ∧ ((decide (a0 = b0)) = true) ∧ (LoadsAt Try.prog (fun x_ => St w x_ [Res.box blk4 [Value.int .i64 b0, Value.slice b1A b1n b1c] 55, Res.box blk2 [Value.int .i64 a0, Value.slice a1A a1n a1c] 55]) 31 ⟨blk2, 0 + 1, none⟩ (Value.slice a1A a1n a1c)) ∧ ((decide (a0 = b0)) = true) ∧ ((decide (a0 = b0)) = true) ∧ (LoadsAt Try.prog (fun x_ => St w x_ [Res.box blk4 [Value.int .i64 b0, Value.slice b1A b1n b1c] 55, Res.box blk2 [Value.int .i64 a0, Value.slice a1A a1n a1c] 55]) 31 ⟨blk4, 0 + 1, none⟩ (Value.slice b1A b1n b1c))) (by kernel_rfl) ⟨hb5, hb5, (ld_box (i := 1) rfl rfl (by kernel_rfl)), hb5, hb5, (ld_box (i := 0) rfl rfl (by kernel_rfl))⟩ hS3 ?_
    refine l_opg rfl (b := (decide (a0 = b0))) (want := true) (by kernel_rfl) hb5 (fun K hK => op_callv (d := some 15) rfl rfl ⟨_, Try.func80, by kernel_rfl, by kernel_rfl⟩ (vs := [Value.slice a1A a1n a1c, Value.slice b1A b1n b1c]) (by kernel_rfl) (v := Value.bool (decide (a1L = b1L))) (equalNumbered_i_c a1A b1A a1n a1c b1n b1c a1L b1L w3 (by omega) (by omega) (hS3.rdllow a1h) (hS3.rdllow b1h)) hS3 (fun w6 hS6 => hK _ _ ?_))
    clear hK K
    refine q_seg (S := (fun x_ => St w x_ [Res.box blk4 [Value.int .i64 b0, Value.slice b1A b1n b1c] 55, Res.box blk2 [Value.int .i64 a0, Value.slice a1A a1n a1c] 55])) [(4, Value.bool (decide (a1L = b1L))), (16, Value.bool (decide (a1L = b1L)))] [.v (.bool true), .no] (((decide (a0 = b0)) = true)) (by kernel_rfl) hb5 hS6 ?_
    refine l_nil rfl ?_
    refine then_n ?_
    refine wp_ret ?_
    exact c_end (S := (fun x_ => St w x_ [Res.box blk4 [Value.int .i64 b0, Value.slice b1A b1n b1c] 55, Res.box blk2 [Value.int .i64 a0, Value.slice a1A a1n a1c] 55])) (rs := [.tmp 4]) rfl [] (v := Value.bool (decide (a1L = b1L))) (C := True) (by kernel_rfl) trivial hS6 ((hS6.rv (congrArg Value.bool (by first | rfl | simp [*]))))
  · skip
    have hb5p := of_decide_eq_false hb5
    refine q_seg (S := (fun x_ => St w x_ [Res.box blk4 [Value.int .i64 b0, Value.slice b1A b1n b1c] 55, Res.box blk2 [Value.int .i64 a0, Value.slice a1A a1n a1c] 55])) [(4, Value.bool false), (16, Value.bool false), (15, undef), (14, undef), (13, undef), (12, undef), (11, undef)] [.skip, .skip, .skip, .skip, .skip, .v (.bool false), .no] (((decide (a0 = b0)) = !true) ∧ ((decide (a0 = b0)) = !true) ∧ ((decide (a0 = b0)) = !true) ∧ ((decide (a0 = b0)) = !true) ∧ ((decide (a0 = b0)) = !true) ∧ ((decide (a0 = b0)) = false)) (by kernel_rfl) ⟨hb5, hb5, hb5, hb5, hb5, hb5⟩ hS3 ?_
    refine l_nil rfl ?_
    refine then_n ?_
    refine wp_ret ?_
    exact c_end (S := (fun x_ => St w x_ [Res.box blk4 [Value.int .i64 b0, Value.slice b1A b1n b1c] 55, Res.box blk2 [Value.int .i64 a0, Value.slice a1A a1n a1c] 55])) (rs := [.tmp 4]) rfl [] (v := Value.bool false) (C := True) (by kernel_rfl) trivial hS3 ((hS3.rv (congrArg Value.bool (by first | rfl | simp [*]))))
theorem EqualBuffers_i_c (a0 : Int) (a1A : Option Addr) (a1n a1c : Nat) (a1L : List (Int × List Int)) (a2 : Int) (b0 : Int) (b1A : Option Addr) (b1n b1c : Nat) (b1L : List (Int × List Int)) (b2 : Int) (w : World) (a1h : RdL .u8 false w w.heap.size a1A a1n a1L) (a1w : wt a1L ≤ 1099511627776) (b1h : RdL .u8 false w w.heap.size b1A b1n b1L) (b1w : wt b1L ≤ 1099511627776) : Calls Try.prog 39 #[Value.agg #[Value.int .i64 a0, Value.slice a1A a1n a1c, Value.int .i64 a2], Value.agg #[Value.int .i64 b0, Value.slice b1A b1n b1c, Value.int .i64 b2]] w (RetV w (.bool ((decide (a0 = b0) && decide (a2 = b2)) && decide (a1L = b1L)))) := by
  have a1l := a1h.len
  have a1v := wt_len a1L
  have b1l := b1h.len
  have b1v := wt_len b1L
  refine calls_FA Try.func39 rfl (n := 24) rfl (l := [(0, Value.agg #[Value.int .i64 a0, Value.slice a1A a1n a1c, Value.int .i64 a2]), (1, Value.agg #[Value.int .i64 b0, Value.slice b1A b1n b1c, Value.int .i64 b2])]) rfl (by simp) (fun g => ?_)
  have hS := St.init w
  refine wp_seq ?_
  refine c_reg ?_
  refine l_op rfl rfl (fun K hK => op_box (d := some 2) rfl rfl [Value.int .i64 a0, Value.slice a1A a1n a1c, Value.int .i64 a2] (by kernel_rfl) hS (fun blk2 w1 hS1 => hK _ _ ?_))
  clear hK K
  refine l_op rfl rfl (fun K hK => op_box (d := some 3) rfl rfl [Value.int .i64 b0, Value.slice b1A b1n b1c, Value.int .i64 b2] (by kernel_rfl) hS1 (fun blk4 w3 hS3 => hK _ _ ?_))
  clear hK K
  refine q_seg (S := (fun x_ => St w x_ [Res.box blk4 [Value.int .i64 b0, Value.slice b1A b1n b1c, Value.int .i64 b2] 65, Res.box blk2 [Value.int .i64 a0, Value.slice a1A a1n a1c, Value.int .i64 a2] 65])) [(4, Value.bool false)] [.no] True (by kernel_rfl) trivial hS3 ?_
  refine l_nil rfl ?_
  refine then_n ?_
  refine wp_seq ?_
  refine c_reg ?_
  refine q_seg (S := (fun x_ => St w x_ [Res.box blk4 [Value.int .i64 b0, Value.slice b1A b1n b1c, Value.int .i64 b2] 65, Res.box blk2 [Value.int .i64 a0, Value.slice a1A a1n a1c, Value.int .i64 a2] 65])) [(10, Value.bool (decide (a0 = b0))), (9, Value.bool (decide (a0 = b0))), (8, Value.int .i64 b0), (7, Value.pointer (some ⟨blk4, 0 + 0, none⟩)), (6, Value.int .i64 a0), (5, Value.pointer (some ⟨blk2, 0 + 0, none⟩))] [.no, .v (Value.int .i64 a0), .no, .v (Value.int .i64 b0), .no, .no] ((LoadsAt Try.prog (fun x_ => St w x_ [Res.box blk4 [Value.int .i64 b0, Value.slice b1A b1n b1c, Value.int .i64 b2] 65, Res.box blk2 [Value.int .i64 a0, Value.slice a1A a1n a1c, Value.int .i64 a2] 65]) 3 ⟨blk2, 0 + 0, none⟩ (Value.int .i64 a0)) ∧ (LoadsAt Try.prog (fun x_ => St w x_ [Res.box blk4 [Value.int .i64 b0, Value.slice b1A b1n b1c, Value.int .i64 b2] 65, Res.box blk2 [Value.int .i64 a0, Value.slice a1A a1n a1c, Value.int .i64 a2] 65]) 3 ⟨blk4, 0 + 0, none⟩ (Value.int .i64 b0))) (by kernel_rfl) ⟨(ld_box (i := 1) rfl rfl (by kernel_rfl)), (ld_box (i := 0) rfl rfl (by kernel_rfl))⟩ hS3 ?_
  rcases Bool.eq_false_or_eq_true (decide (a0 = b0)) with hb5 | hb5
  · skip
    have hb5p := of_decide_eq_true hb5
    refine q_seg (S := (fun x_ => St w x_ [Res.box blk4 [Value.int .i64 b0, Value.slice b1A b1n b1c, Value.int .i64 b2] 65, Res.box blk2 [Value.int .i64 a0, Value.slice a1A a1n a1c, Value.int .i64 a2] 65])) [(17, Value.bool (decide (a2 = b2))), (16, Value.bool (decide (a2 = b2))), (15, Value.bool (decide (a2 = b2))), (14, Value.int .i64 b2), (13, Value.pointer (some ⟨blk4, 0 + 2, none⟩)), (12, Value.int .i64 a2), (11, Value.pointer (some ⟨blk2, 0 + 2, none⟩))] [.no, .v (Value.int .i64 a2), .no, .v (Value.int .i64 b2), .no, .v (.bool true), .no] (((decide (a0 = b0)) = true) ∧ ((decide (a0 = b0)) = true) ∧ (LoadsAt Try.prog (fun x_ => St w x_ [Res.box blk4 [Value.int .i64 b0, Value.slice b1A b1n b1c, Value.int .i64 b2] 65, Res.box blk2 [Value.int .i64 a0, Value.slice a1A a1n a1c, Value.int .i64 a2] 65]) 3 ⟨blk2, 0 + 2, none⟩ (Value.int .i64 a2)) ∧ ((decide (a0 = b0)) = true) ∧ ((decide (a0 = b0)) = true) ∧ (LoadsAt Try.prog (fun x_ => St w x_ [Res.box blk4 [Value.int .i64 b0, Value.slice b1A b1n b1c, Value.int .i64 b2] 65, Res.box blk2 [Value.int .i64 a0, Value.slice a1A a1n a1c, Value.int .i64 a2] 65]) 3 ⟨blk4, 0 + 2, none⟩ (Value.int .i64 b2)) ∧ ((decide (a0 = b0)) = true) ∧ ((decide (a0 = b0)) = true)) (by kernel_rfl) ⟨hb5, hb5, (ld_box (i := 1) rfl rfl (by kernel_rfl)), hb5, hb5, (ld_box (i := 0) rfl rfl (by kernel_rfl)), hb5, hb5⟩ hS3 ?_
    rcases Bool.eq_false_or_eq_true (decide (a2 = b2)) with hb6 | hb6
    · skip
      have hb6p := of_decide_eq_true hb6
      refine q_seg (S := (fun x_ => St w x_ [Res.box blk4 [Value.int .i64 b0, Value.slice b1A b1n b1c, Value.int .i64 b2] 65, Res.box blk2 [Value.int .i64 a0, Value.slice a1A a1n a1c, Value.int .i64 a2] 65])) [(21, Value.slice b1A b1n b1c), (20, Value.pointer (some ⟨blk4, 0 + 1, none⟩)), (19, Value.slice a1A a1n a1c), (18, Value.pointer (some ⟨blk2, 0 + 1, none⟩))] [.no, .v (Value.slice a1A a1n a1c), .no, .v (Value.slice b1A b1n b1c)] (((decide (a2 = b2)) = true) ∧ ((decide (a2 = b2)) = true) ∧ (LoadsAt Try.prog (fun x_ => St w x_ [Res.box blk4 [Value.int .i64 b0, Value.slice b1A b1n b1c, Value.int .i64 b2] 65, Res.box blk2 [Value.int .i64 a0, Value.slice a1A a1n a1c, Value.int .i64 a2] 65]) 32 ⟨blk2, 0 + 1, none⟩ (Value.slice a1A a1n a1c)) ∧ ((decide (a2 = b2)) = true) ∧ ((decide (a2 = b2)) = true) ∧ (LoadsAt Try.prog (fun x_ => St w x_ [Res.box blk4 [Value.int .i64 b0, Value.slice b1A b1n b1c, Value.int .i64 b2] 65, Res.box blk2 [Value.int .i64 a0, Value.slice a1A a1n a1c, Value.int .i64 a2] 65]) 32 ⟨blk4, 0 + 1, none⟩ (Value.slice b1A b1n b1c))) (by kernel_rfl) ⟨hb6, hb6, (ld_box (i := 1) rfl rfl (by kernel_rfl)), hb6, hb6, (ld_box (i := 0) rfl rfl (by kernel_rfl))⟩ hS3 ?_
      refine l_opg rfl (b := (decide (a2 = b2))) (want := true) (by kernel_rfl) hb6 (fun K hK => op_callv (d := some 22) rfl rfl ⟨_, Try.func82, by kernel_rfl, by kernel_rfl⟩ (vs := [Value.slice a1A a1n a1c, Value.slice b1A b1n b1c]) (by kernel_rfl) (v := Value.bool (decide (a1L = b1L))) (equalPayloads_i_c a1A b1A a1n a1c b1n b1c a1L b1L w3 (by omega) (by omega) (hS3.rdllow a1h) (hS3.rdllow b1h)) hS3 (fun w7 hS7 => hK _ _ ?_))
      clear hK K
      refine q_seg (S := (fun x_ => St w x_ [Res.box blk4 [Value.int .i64 b0, Value.slice b1A b1n b1c, Value.int .i64 b2] 65, Res.box blk2 [Value.int .i64 a0, Value.slice a1A a1n a1c, Value.int .i64 a2] 65])) [(4, Value.bool (decide (a1L = b1L))), (23, Value.bool (decide (a1L = b1L)))] [.v (.bool true), .no] (((decide (a2 = b2)) = true)) (by kernel_rfl) hb6 hS7 ?_
      refine l_nil rfl ?_
      refine then_n ?_
      refine wp_ret ?_
      exact c_end (S := (fun x_ => St w x_ [Res.box blk4 [Value.int .i64 b0, Value.slice b1A b1n b1c, Value.int .i64 b2] 65, Res.box blk2 [Value.int .i64 a0, Value.slice a1A a1n a1c, Value.int .i64 a2] 65])) (rs := [.tmp 4]) rfl [] (v := Value.bool (decide (a1L = b1L))) (C := True) (by kernel_rfl) trivial hS7 ((hS7.rv (congrArg Value.bool (by first | rfl | simp [*]))))
    · skip
      have hb6p := of_decide_eq_false hb6
      refine q_seg (S := (fun x_ => St w x_ [Res.box blk4 [Value.int .i64 b0, Value.slice b1A b1n b1c, Value.int .i64 b2] 65, Res.box blk2 [Value.int .i64 a0, Value.slice a1A a1n a1c, Value.int .i64 a2] 65])) [(4, Value.bool false), (23, Value.bool false), (22, undef), (21, undef), (20, undef), (19, undef), (18, undef)] [.skip, .skip, .skip, .skip, .skip, .v (.bool false), .no] (((decide (a2 = b2)) = !true) ∧ ((decide (a2 = b2)) = !true) ∧ ((decide (a2 = b2)) = !true) ∧ ((decide (a2 = b2)) = !true) ∧ ((decide (a2 = b2)) = !true) ∧ ((decide (a2 = b2)) = false)) (by kernel_rfl) ⟨hb6, hb6, hb6, hb6, hb6, hb6⟩ hS3 ?_
      refine l_nil rfl ?_
      refine then_n ?_
      refine wp_ret ?_
      exact c_end (S := (fun x_ => St w x_ [Res.box blk4 [Value.int .i64 b0, Value.slice b1A b1n b1c, Value.int .i64 b2] 65, Res.box blk2 [Value.int .i64 a0, Value.slice a1A a1n a1c, Value.int .i64 a2] 65])) (rs := [.tmp 4]) rfl [] (v := Value.bool false) (C := True) (by kernel_rfl) trivial hS3 ((hS3.rv (congrArg Value.bool (by first | rfl | simp [*]))))
  · skip
    have hb5p := of_decide_eq_false hb5
    refine q_seg (S := (fun x_ => St w x_ [Res.box blk4 [Value.int .i64 b0, Value.slice b1A b1n b1c, Value.int .i64 b2] 65, Res.box blk2 [Value.int .i64 a0, Value.slice a1A a1n a1c, Value.int .i64 a2] 65])) [(4, Value.bool false), (23, Value.bool false), (22, undef), (21, undef), (20, undef), (19, undef), (18, undef), (17, Value.bool false), (16, Value.bool false), (15, undef), (14, undef), (13, undef), (12, undef), (11, undef)] [.skip, .skip, .skip, .skip, .skip, .v (.bool false), .no, .skip, .skip, .skip, .skip, .skip, .v (.bool false), .no] (((decide (a0 = b0)) = !true) ∧ ((decide (a0 = b0)) = !true) ∧ ((decide (a0 = b0)) = !true) ∧ ((decide (a0 = b0)) = !true) ∧ ((decide (a0 = b0)) = !true) ∧ ((decide (a0 = b0)) = false) ∧ (false = !true) ∧ (false = !true) ∧ (false = !true) ∧ (false = !true) ∧ (false = !true) ∧ (false = false)) (by kernel_rfl) ⟨hb5, hb5, hb5, hb5, hb5, hb5, rfl, rfl, rfl, rfl, rfl, rfl⟩ hS3 ?_
    refine l_nil rfl ?_
    refine then_n ?_
    refine wp_ret ?_
    exact c_end (S := (fun x_ => St w x_ [Res.box blk4 [Value.int .i64 b0, Value.slice b1A b1n b1c, Value.int .i64 b2] 65, Res.box blk2 [Value.int .i64 a0, Value.slice a1A a1n a1c, Value.int .i64 a2] 65])) (rs := [.tmp 4]) rfl [] (v := Value.bool false) (C := True) (by kernel_rfl) trivial hS3 ((hS3.rv (congrArg Value.bool (by first | rfl | simp [*]))))
theorem EqualReceivers_i_c (a0 : Int) (a1A : Option Addr) (a1n a1c : Nat) (a1L : List (Int × List Int)) (a2A : Option Addr) (a2n a2c : Nat) (a2L : List (Int × List Int)) (b0 : Int) (b1A : Option Addr) (b1n b1c : Nat) (b1L : List (Int × List Int)) (b2A : Option Addr) (b2n b2c : Nat) (b2L : List (Int × List Int)) (w : World) (a1h : RdL .u8 true w w.heap.size a1A a1n a1L) (a1w : wt a1L ≤ 1099511627776) (a2h : RdL .u8 false w w.heap.size a2A a2n a2L) (a2w : wt a2L ≤ 1099511627776) (b1h : RdL .u8 true w w.heap.size b1A b1n b1L) (b1w : wt b1L ≤ 1099511627776) (b2h : RdL .u8 false w w.heap.size b2A b2n b2L) (b2w : wt b2L ≤ 1099511627776) : Calls Try.prog 52 #[Value.agg #[Value.int .i64 a0, Value.slice a1A a1n a1c, Value.slice a2A a2n a2c], Value.agg #[Value.int .i64 b0, Value.slice b1A b1n b1c, Value.slice b2A b2n b2c]] w (RetV w (.bool ((decide (a0 = b0) && decide (a1L = b1L)) && decide (a2L = b2L)))) := by
  have a1l := a1h.len
  have a1v := wt_len a1L
  have a2l := a2h.len
  have a2v := wt_len a2L
  have b1l := b1h.len
  have b1v := wt_len b1L
  have b2l := b2h.len
  have b2v := wt_len b2L
  refine calls_FA Try.func52 rfl (n := 24) rfl (l := [(0, Value.agg #[Value.int .i64 a0, Value.slice a1A a1n a1c, Value.slice a2A a2n a2c]), (1, Value.agg #[Value.int .i64 b0, Value.slice b1A b1n b1c, Value.slice b2A b2n b2c])]) rfl (by simp) (fun g => ?_)
  have hS := St.init w
  refine wp_seq ?_
  refine c_reg ?_
  refine l_op rfl rfl (fun K hK => op_box (d := some 2) rfl rfl [Value.int .i64 a0, Value.slice a1A a1n a1c, Value.slice a2A a2n a2c] (by kernel_rfl) hS (fun blk2 w1 hS1 => hK _ _ ?_))
  clear hK K
  refine l_op rfl rfl (fun K hK => op_box (d := some 3) rfl rfl [Value.int .i64 b0, Value.slice b1A b1n b1c, Value.slice b2A b2n b2c] (by kernel_rfl) hS1 (fun blk4 w3 hS3 => hK _ _ ?_))
  clear hK K
  refine q_seg (S := (fun x_ => St w x_ [Res.box blk4 [Value.int .i64 b0, Value.slice b1A b1n b1c, Value.slice b2A b2n b2c] 34, Res.box blk2 [Value.int .i64 a0, Value.slice a1A a1n a1c, Value.slice a2A a2n a2c] 34])) [(4, Value.bool false)] [.no] True (by kernel_rfl) trivial hS3 ?_
  refine l_nil rfl ?_
  refine then_n ?_
  refine wp_seq ?_
  refine c_reg ?_
  refine q_seg (S := (fun x_ => St w x_ [Res.box blk4 [Value.int .i64 b0, Value.slice b1A b1n b1c, Value.slice b2A b2n b2c] 34, Res.box blk2 [Value.int .i64 a0, Value.slice a1A a1n a1c, Value.slice a2A a2n a2c] 34])) [(10, Value.bool (decide (a0 = b0))), (9, Value.bool (decide (a0 = b0))), (8, Value.int .i64 b0), (7, Value.pointer (some ⟨blk4, 0 + 0, none⟩)), (6, Value.int .i64 a0), (5, Value.pointer (some ⟨blk2, 0 + 0, none⟩))] [.no, .v (Value.int .i64 a0), .no, .v (Value.int .i64 b0), .no, .no] ((LoadsAt Try.prog (fun x_ => St w x_ [Res.box blk4 [Value.int .i64 b0, Value.slice b1A b1n b1c, Value.slice b2A b2n b2c] 34, Res.box blk2 [Value.int .i64 a0, Value.slice a1A a1n a1c, Value.slice a2A a2n a2c] 34]) 3 ⟨blk2, 0 + 0, none⟩ (Value.int .i64 a0)) ∧ (LoadsAt Try.prog (fun x_ => St w x_ [Res.box blk4 [Value.int .i64 b0, Value.slice b1A b1n b1c, Value.slice b2A b2n b2c] 34, Res.box blk2 [Value.int .i64 a0, Value.slice a1A a1n a1c, Value.slice a2A a2n a2c] 34]) 3 ⟨blk4, 0 + 0, none⟩ (Value.int .i64 b0))) (by kernel_rfl) ⟨(ld_box (i := 1) rfl rfl (by kernel_rfl)), (ld_box (i := 0) rfl rfl (by kernel_rfl))⟩ hS3 ?_
  rcases Bool.eq_false_or_eq_true (decide (a0 = b0)) with hb5 | hb5
  · skip
    have hb5p := of_decide_eq_true hb5
    refine q_seg (S := (fun x_ => St w x_ [Res.box blk4 [Value.int .i64 b0, Value.slice b1A b1n b1c, Value.slice b2A b2n b2c] 34, Res.box blk2 [Value.int .i64 a0, Value.slice a1A a1n a1c, Value.slice a2A a2n a2c] 34])) [(14, Value.slice b1A b1n b1c), (13, Value.pointer (some ⟨blk4, 0 + 1, none⟩)), (12, Value.slice a1A a1n a1c), (11, Value.pointer (some ⟨blk2, 0 + 1, none⟩))] [.no, .v (Value.slice a1A a1n a1c), .no, .v (Value.slice b1A b1n b1c)] (((decide (a0 = b0)) = true) ∧ ((decide (a0 = b0)) = true) ∧ (LoadsAt Try.prog (fun x_ => St w x_ [Res.box blk4 [Value.int .i64 b0, Value.slice b1A b1n b1c, Value.slice b2A b2n b2c] 34, Res.box blk2 [Value.int .i64 a0, Value.slice a1A a1n a1c, Value.slice a2A a2n a2c] 34]) 31 ⟨blk2, 0 + 1, none⟩ (Value.slice a1A a1n a1c)) ∧ ((decide (a0 = b0)) = true) ∧ ((decide (a0 = b0)) = true) ∧ (LoadsAt Try.prog (fun x_ => St w x_ [Res.box blk4 [Value.int .i64 b0, Value.slice b1A b1n b1c, Value.slice b2A b2n b2c] 34, Res.box blk2 [Value.int .i64 a0, Value.slice a1A a1n a1c, Value.slice a2A a2n a2c] 34]) 31 ⟨blk4, 0 + 1, none⟩ (Value.slice b1A b1n b1c))) (by kernel_rfl) ⟨hb5, hb5, (ld_box (i := 1) rfl rfl (by kernel_rfl)), hb5, hb5, (ld_box (i := 0) rfl rfl (by kernel_rfl))⟩ hS3 ?_
    refine l_opg rfl (b := (decide (a0 = b0))) (want := true) (by kernel_rfl) hb5 (fun K hK => op_callv (d := some 15) rfl rfl ⟨_, Try.func80, by kernel_rfl, by kernel_rfl⟩ (vs := [Value.slice a1A a1n a1c, Value.slice b1A b1n b1c]) (by kernel_rfl) (v := Value.bool (decide (a1L = b1L))) (equalNumbered_i_c a1A b1A a1n a1c b1n b1c a1L b1L w3 (by omega) (by omega) (hS3.rdllow a1h) (hS3.rdllow b1h)) hS3 (fun w6 hS6 => hK _ _ ?_))
    clear hK K
    refine q_seg (S := (fun x_ => St w x_ [Res.box blk4 [Value.int .i64 b0, Value.slice b1A b1n b1c, Value.slice b2A b2n b2c] 34, Res.box blk2 [Value.int .i64 a0, Value.slice a1A a1n a1c, Value.slice a2A a2n a2c] 34])) [(17, Value.bool (decide (a1L = b1L))), (16, Value.bool (decide (a1L = b1L)))] [.v (.bool true), .no] (((decide (a0 = b0)) = true)) (by kernel_rfl) hb5 hS6 ?_
    rcases Bool.eq_false_or_eq_true (decide (a1L = b1L)) with hb7 | hb7
    · skip
      have hb7p := of_decide_eq_true hb7
      refine q_seg (S := (fun x_ => St w x_ [Res.box blk4 [Value.int .i64 b0, Value.slice b1A b1n b1c, Value.slice b2A b2n b2c] 34, Res.box blk2 [Value.int .i64 a0, Value.slice a1A a1n a1c, Value.slice a2A a2n a2c] 34])) [(21, Value.slice b2A b2n b2c), (20, Value.pointer (some ⟨blk4, 0 + 2, none⟩)), (19, Value.slice a2A a2n a2c), (18, Value.pointer (some ⟨blk2, 0 + 2, none⟩))] [.no, .v (Value.slice a2A a2n a2c), .no, .v (Value.slice b2A b2n b2c)] (((decide (a1L = b1L)) = true) ∧ ((decide (a1L = b1L)) = true) ∧ (LoadsAt Try.prog (fun x_ => St w x_ [Res.box blk4 [Value.int .i64 b0, Value.slice b1A b1n b1c, Value.slice b2A b2n b2c] 34, Res.box blk2 [Value.int .i64 a0, Value.slice a1A a1n a1c, Value.slice a2A a2n a2c] 34]) 32 ⟨blk2, 0 + 2, none⟩ (Value.slice a2A a2n a2c)) ∧ ((decide (a1L = b1L)) = true) ∧ ((decide (a1L = b1L)) = true) ∧ (LoadsAt Try.prog (fun x_ => St w x_ [Res.box blk4 [Value.int .i64 b0, Value.slice b1A b1n b1c, Value.slice b2A b2n b2c] 34, Res.box blk2 [Value.int .i64 a0, Value.slice a1A a1n a1c, Value.slice a2A a2n a2c] 34]) 32 ⟨blk4, 0 + 2, none⟩ (Value.slice b2A b2n b2c))) (by kernel_rfl) ⟨hb7, hb7, (ld_box (i := 1) rfl rfl (by kernel_rfl)), hb7, hb7, (ld_box (i := 0) rfl rfl (by kernel_rfl))⟩ hS6 ?_
      refine l_opg rfl (b := (decide (a1L = b1L))) (want := true) (by kernel_rfl) hb7 (fun K hK => op_callv (d := some 22) rfl rfl ⟨_, Try.func82, by kernel_rfl, by kernel_rfl⟩ (vs := [Value.slice a2A a2n a2c, Value.slice b2A b2n b2c]) (by kernel_rfl) (v := Value.bool (decide (a2L = b2L))) (equalPayloads_i_c a2A b2A a2n a2c b2n b2c a2L b2L w6 (by omega) (by omega) (hS6.rdllow a2h) (hS6.rdllow b2h)) hS6 (fun w8 hS8 => hK _ _ ?_))
      clear hK K
      refine q_seg (S := (fun x_ => St w x_ [Res.box blk4 [Value.int .i64 b0, Value.slice b1A b1n b1c, Value.slice b2A b2n b2c] 34, Res.box blk2 [Value.int .i64 a0, Value.slice a1A a1n a1c, Value.slice a2A a2n a2c] 34])) [(4, Value.bool (decide (a2L = b2L))), (23, Value.bool (decide (a2L = b2L)))] [.v (.bool true), .no] (((decide (a1L = b1L)) = true)) (by kernel_rfl) hb7 hS8 ?_
      refine l_nil rfl ?_
      refine then_n ?_
      refine wp_ret ?_
      exact c_end (S := (fun x_ => St w x_ [Res.box blk4 [Value.int .i64 b0, Value.slice b1A b1n b1c, Value.slice b2A b2n b2c] 34, Res.box blk2 [Value.int .i64 a0, Value.slice a1A a1n a1c, Value.slice a2A a2n a2c] 34])) (rs := [.tmp 4]) rfl [] (v := Value.bool (decide (a2L = b2L))) (C := True) (by kernel_rfl) trivial hS8 ((hS8.rv (congrArg Value.bool (by first | rfl | simp [*]))))
    · skip
      have hb7p := of_decide_eq_false hb7
      refine q_seg (S := (fun x_ => St w x_ [Res.box blk4 [Value.int .i64 b0, Value.slice b1A b1n b1c, Value.slice b2A b2n b2c] 34, Res.box blk2 [Value.int .i64 a0, Value.slice a1A a1n a1c, Value.slice a2A a2n a2c] 34])) [(4, Value.bool false), (23, Value.bool false), (22, undef), (21, undef), (20, undef), (19, undef), (18, undef)] [.skip, .skip, .skip, .skip, .skip, .v (.bool false), .no] (((decide (a1L = b1L)) = !true) ∧ ((decide (a1L = b1L)) = !true) ∧ ((decide (a1L = b1L)) = !true) ∧ ((decide (a1L = b1L)) = !true) ∧ ((decide (a1L = b1L)) = !true) ∧ ((decide (a1L = b1L)) = false)) (by kernel_rfl) ⟨hb7, hb7, hb7, hb7, hb7, hb7⟩ hS6 ?_
      refine l_nil rfl ?_
      refine then_n ?_
      refine wp_ret ?_
      exact c_end (S := (fun x_ => St w x_ [Res.box blk4 [Value.int .i64 b0, Value.slice b1A b1n b1c, Value.slice b2A b2n b2c] 34, Res.box blk2 [Value.int .i64 a0, Value.slice a1A a1n a1c, Value.slice a2A a2n a2c] 34])) (rs := [.tmp 4]) rfl [] (v := Value.bool false) (C := True) (by kernel_rfl) trivial hS6 ((hS6.rv (congrArg Value.bool (by first | rfl | simp [*]))))
  · skip
    have hb5p := of_decide_eq_false hb5
    refine q_seg (S := (fun x_ => St w x_ [Res.box blk4 [Value.int .i64 b0, Value.slice b1A b1n b1c, Value.slice b2A b2n b2c] 34, Res.box blk2 [Value.int .i64 a0, Value.slice a1A a1n a1c, Value.slice a2A a2n a2c] 34])) [(4, Value.bool false), (23, Value.bool false), (22, undef), (21, undef), (20, undef), (19, undef), (18, undef), (17, Value.bool false), (16, Value.bool false), (15, undef), (14, undef), (13, undef), (12, undef), (11, undef)] [.skip, .skip, .skip, .skip, .skip, .v (.bool false), .no, .skip, .skip, .skip, .skip, .skip, .v (.bool false), .no] (((decide (a0 = b0)) = !true) ∧ ((decide (a0 = b0)) = !true) ∧ ((decide (a0 = b0)) = !true) ∧ ((decide (a0 = b0)) = !true) ∧ ((decide (a0 = b0)) = !true) ∧ ((decide (a0 = b0)) = false) ∧ (false = !true) ∧ (false = !true) ∧ (false = !true) ∧ (false = !true) ∧ (false = !true) ∧ (false = false)) (by kernel_rfl) ⟨hb5, hb5, hb5, hb5, hb5, hb5, rfl, rfl, rfl, rfl, rfl, rfl⟩ hS3 ?_
    refine l_nil rfl ?_
    refine then_n ?_
    refine wp_ret ?_
    exact c_end (S := (fun x_ => St w x_ [Res.box blk4 [Value.int .i64 b0, Value.slice b1A b1n b1c, Value.slice b2A b2n b2c] 34, Res.box blk2 [Value.int .i64 a0, Value.slice a1A a1n a1c, Value.slice a2A a2n a2c] 34])) (rs := [.tmp 4]) rfl [] (v := Value.bool false) (C := True) (by kernel_rfl) trivial hS3 ((hS3.rv (congrArg Value.bool (by first | rfl | simp [*]))))
theorem EqualSenders_s_c (a0 : Int) (a1A : Option Addr) (a1n a1c : Nat) (a1L : List (Int × List Int)) (b0 : Int) (b1A : Option Addr) (b1n b1c : Nat) (b1L : List (Int × List Int)) (w : World) (a1h : RdL .u8 true w w.heap.size a1A a1n a1L) (a1w : wt a1L ≤ 1099511627776) (b1h : RdL .u8 true w w.heap.size b1A b1n b1L) (b1w : wt b1L ≤ 1099511627776) : Calls Try.prog 34 #[Value.agg #[Value.int .i64 a0, Value.slice a1A a1n a1c], Value.agg #[Value.int .i64 b0, Value.slice b1A b1n b1c]] w (RetV w (.bool (decide (a0 = b0) && decide (a1L = b1L)))) := by
  have a1l := a1h.len
  have a1v := wt_len a1L
  have b1l := b1h.len
  have b1v := wt_len b1L
  refine calls_FA Try.func34 rfl (n := 17) rfl (l := [(0, Value.agg #[Value.int .i64 a0, Value.slice a1A a1n a1c]), (1, Value.agg #[Value.int .i64 b0, Value.slice b1A b1n b1c])]) rfl (by simp) (fun g => ?_)
  have hS := St.init w
  refine wp_seq ?_
  refine c_reg ?_
  refine l_op rfl rfl (fun K hK => op_box (d := some 2) rfl rfl [Value.int .i64 a0, Value.slice a1A a1n a1c] (by kernel_rfl) hS (fun blk2 w1 hS1 => hK _ _ ?_))
  clear hK K
  refine l_op rfl rfl (fun K hK => op_box (d := some 3) rfl rfl [Value.int .i64 b0, Value.slice b1A b1n b1c] (by kernel_rfl) hS1 (fun blk4 w3 hS3 => hK _ _ ?_))
  clear hK K
  refine q_seg (S := (fun x_ => St w x_ [Res.box blk4 [Value.int .i64 b0, Value.slice b1A b1n b1c] 55, Res.box blk2 [Value.int .i64 a0, Value.slice a1A a1n a1c] 55])) [(4, Value.bool false)] [.no] True (by kernel_rfl) trivial hS3 ?_
  refine l_nil rfl ?_
  refine then_n ?_
  refine wp_seq ?_
  refine c_reg ?_
  refine q_seg (S := (fun x_ => St w x_ [Res.box blk4 [Value.int .i64 b0, Value.slice b1A b1n b1c] 55, Res.box blk2 [Value.int .i64 a0, Value.slice a1A a1n a1c] 55])) [(10, Value.bool (decide (a0 = b0))), (9, Value.bool (decide (a0 = b0))), (8, Value.int .i64 b0), (7, Value.pointer (some ⟨blk4, 0 + 0, none⟩)), (6, Value.int .i64 a0), (5, Value.pointer (some ⟨blk2, 0 + 0, none⟩))] [.no, .v (Value.int .i64 a0), .no, .v (Value.int .i64 b0), .no, .no] ((LoadsAt Try.prog (fun x_ => St w x_ [Res.box blk4 [Value.int .i64 b0, Value.slice b1A b1n b1c] 55, Res.box blk2 [Value.int .i64 a0, Value.slice a1A a1n a1c] 55]) 3 ⟨blk2, 0 + 0, none⟩ (Value.int .i64 a0)) ∧ (LoadsAt Try.prog (fun x_ => St w x_ [Res.box blk4 [Value.int .i64 b0, Value.slice b1A b1n b1c] 55, Res.box blk2 [Value.int .i64 a0, Value.slice a1A a1n a1c] 55]) 3 ⟨blk4, 0 + 0, none⟩ (Value.int .i64 b0))) (by kernel_rfl) ⟨(ld_box (i := 1) rfl rfl (by kernel_rfl)), (ld_box (i := 0) rfl rfl (by kernel_rfl))⟩ hS3 ?_
  rcases Bool.eq_false_or_eq_true (decide (a0 = b0)) with hb5 | hb5
  · skip
    have hb5p := of_decide_eq_true hb5
    refine q_seg (S := (fun x_ => St w x_ [Res.box blk4 [Value.int .i64 b0, Value.slice b1A b1n b1c] 55, Res.box blk2 [Value.int .i64 a0, Value.slice a1A a1n a1c] 55])) [(14, Value.slice b1A b1n b1c), (13, Value.pointer (some ⟨blk4, 0 + 1, none⟩)), (12, Value.slice a1A a1n a1c), (11, Value.pointer (some ⟨blk2, 0 + 1, none⟩))] [.no, .v (Value.slice a1A a1n a1c), .no, .v (Value.slice b1A b1n b1c)] (((decide (a0 = b0)) = true) ∧ ((decide (a0 = b0)) = true) ∧ (LoadsAt Try.prog (fun x_ => St w x_ [Res.box blk4 [Value.int .i64 b0, Value.slice b1A b1n b1c] 55, Res.box blk2 [Value.int .i64 a0, Value.slice a1A a1n a1c] 55]) 31 ⟨blk2, 0 + 1, none⟩ (Value.slice a1A a1n a1c)) ∧ ((decide (a0 = b0)) = true) ∧ ((decide (a0 = b0)) = true) ∧ (LoadsAt Try.prog (fun x_ => St w x_ [Res.box blk4 [Value.int .i64 b0, Value.slice b1A b1n b1c] 55, Res.box blk2 [Value.int .i64 a0, Value.slice a1A a1n a1c] 55]) 31 ⟨blk4, 0 + 1, none⟩ (Value.slice b1A b1n b1c))) (by kernel_rfl) ⟨hb5, hb5, (ld_box (i := 1) rfl rfl (by kernel_rfl)), hb5, hb5, (ld_box (i := 0) rfl rfl (by kernel_rfl))⟩ hS3 ?_
    refine l_opg rfl (b := (decide (a0 = b0))) (want := true) (by kernel_rfl) hb5 (fun K hK => op_callv (d := some 15) rfl rfl ⟨_, Try.func79, by kernel_rfl, by kernel_rfl⟩ (vs := [Value.slice a1A a1n a1c, Value.slice b1A b1n b1c]) (by kernel_rfl) (v := Value.bool (decide (a1L = b1L))) (l24Same_s_c a1A b1A a1n a1c b1n b1c a1L b1L w3 (by omega) (by omega) (hS3.rdllow a1h) (hS3.rdllow b1h)) hS3 (fun w6 hS6 => hK _ _ ?_))
    clear hK K
    refine q_seg (S := (fun x_ => St w x_ [Res.box blk4 [Value.int .i64 b0, Value.slice b1A b1n b1c] 55, Res.box blk2 [Value.int .i64 a0, Value.slice a1A a1n a1c] 55])) [(4, Value.bool (decide (a1L = b1L))), (16, Value.bool (decide (a1L = b1L)))] [.v (.bool true), .no] (((decide (a0 = b0)) = true)) (by kernel_rfl) hb5 hS6 ?_
    refine l_nil rfl ?_
    refine then_n ?_
    refine wp_ret ?_
    exact c_end (S := (fun x_ => St w x_ [Res.box blk4 [Value.int .i64 b0, Value.slice b1A b1n b1c] 55, Res.box blk2 [Value.int .i64 a0, Value.slice a1A a1n a1c] 55])) (rs := [.tmp 4]) rfl [] (v := Value.bool (decide (a1L = b1L))) (C := True) (by kernel_rfl) trivial hS6 ((hS6.rv (congrArg Value.bool (by first | rfl | simp [*]))))
  · skip
    have hb5p := of_decide_eq_false hb5
    refine q_seg (S := (fun x_ => St w x_ [Res.box blk4 [Value.int .i64 b0, Value.slice b1A b1n b1c] 55, Res.box blk2 [Value.int .i64 a0, Value.slice a1A a1n a1c] 55])) [(4, Value.bool false), (16, Value.bool false), (15, undef), (14, undef), (13, undef), (12, undef), (11, undef)] [.skip, .skip, .skip, .skip, .skip, .v (.bool false), .no] (((decide (a0 = b0)) = !true) ∧ ((decide (a0 = b0)) = !true) ∧ ((decide (a0 = b0)) = !true) ∧ ((decide (a0 = b0)) = !true) ∧ ((decide (a0 = b0)) = !true) ∧ ((decide (a0 = b0)) = false)) (by kernel_rfl) ⟨hb5, hb5, hb5, hb5, hb5, hb5⟩ hS3 ?_
    refine l_nil rfl ?_
    refine then_n ?_
    refine wp_ret ?_
    exact c_end (S := (fun x_ => St w x_ [Res.box blk4 [Value.int .i64 b0, Value.slice b1A b1n b1c] 55, Res.box blk2 [Value.int .i64 a0, Value.slice a1A a1n a1c] 55])) (rs := [.tmp 4]) rfl [] (v := Value.bool false) (C := True) (by kernel_rfl) trivial hS3 ((hS3.rv (congrArg Value.bool (by first | rfl | simp [*]))))
theorem EqualBuffers_s_c (a0 : Int) (a1A : Option Addr) (a1n a1c : Nat) (a1L : List (Int × List Int)) (a2 : Int) (b0 : Int) (b1A : Option Addr) (b1n b1c : Nat) (b1L : List (Int × List Int)) (b2 : Int) (w : World) (a1h : RdL .u8 false w w.heap.size a1A a1n a1L) (a1w : wt a1L ≤ 1099511627776) (b1h : RdL .u8 false w w.heap.size b1A b1n b1L) (b1w : wt b1L ≤ 1099511627776) : Calls Try.prog 37 #[Value.agg #[Value.int .i64 a0, Value.slice a1A a1n a1c, Value.int .i64 a2], Value.agg #[Value.int .i64 b0, Value.slice b1A b1n b1c, Value.int .i64 b2]] w (RetV w (.bool ((decide (a0 = b0) && decide (a2 = b2)) && decide (a1L = b1L)))) := by
  have a1l := a1h.len
  have a1v := wt_len a1L
  have b1l := b1h.len
  have b1v := wt_len b1L
  refine calls_FA Try.func37 rfl (n := 24) rfl (l := [(0, Value.agg #[Value.int .i64 a0, Value.slice a1A a1n a1c, Value.int .i64 a2]), (1, Value.agg #[Value.int .i64 b0, Value.slice b1A b1n b1c, Value.int .i64 b2])]) rfl (by simp) (fun g => ?_)
  have hS := St.init w
  refine wp_seq ?_
  refine c_reg ?_
  refine l_op rfl rfl (fun K hK => op_box (d := some 2) rfl rfl [Value.int .i64 a0, Value.slice a1A a1n a1c, Value.int .i64 a2] (by kernel_rfl) hS (fun blk2 w1 hS1 => hK _ _ ?_))
  clear hK K
  refine l_op rfl rfl (fun K hK => op_box (d := some 3) rfl rfl [Value.int .i64 b0, Value.slice b1A b1n b1c, Value.int .i64 b2] (by kernel_rfl) hS1 (fun blk4 w3 hS3 => hK _ _ ?_))
  clear hK K
  refine q_seg (S := (fun x_ => St w x_ [Res.box blk4 [Value.int .i64 b0, Value.slice b1A b1n b1c, Value.int .i64 b2] 65, Res.box blk2 [Value.int .i64 a0, Value.slice a1A a1n a1c, Value.int .i64 a2] 65])) [(4, Value.bool false)] [.no] True (by kernel_rfl) trivial hS3 ?_
  refine l_nil rfl ?_
  refine then_n ?_
  refine wp_seq ?_
  refine c_reg ?_
  refine q_seg (S := (fun x_ => St w x_ [Res.box blk4 [Value.int .i64 b0, Value.slice b1A b1n b1c, Value.int .i64 b2] 65, Res.box blk2 [Value.int .i64 a0, Value.slice a1A a1n a1c, Value.int .i64 a2] 65])) [(10, Value.bool (decide (a0 = b0))), (9, Value.bool (decide (a0 = b0))), (8, Value.int .i64 b0), (7, Value.pointer (some ⟨blk4, 0 + 0, none⟩)), (6, Value.int .i64 a0), (5, Value.pointer (some ⟨blk2, 0 + 0, none⟩))] [.no, .v (Value.int .i64 a0), .no, .v (Value.int .i64 b0), .no, .no] ((LoadsAt Try.prog (fun x_ => St w x_ [Res.box blk4 [Value.int .i64 b0, Value.slice b1A b1n b1c, Value.int .i64 b2] 65, Res.box blk2 [Value.int .i64 a0, Value.slice a1A a1n a1c, Value.int .i64 a2] 65]) 3 ⟨blk2, 0 + 0, none⟩ (Value.int .i64 a0)) ∧ (LoadsAt Try.prog (fun x_ => St w x_ [Res.box blk4 [Value.int .i64 b0, Value.slice b1A b1n b1c, Value.int .i64 b2] 65, Res.box blk2 [Value.int .i64 a0, Value.slice a1A a1n a1c, Value.int .i64 a2] 65]) 3 ⟨blk4, 0 + 0, none⟩ (Value.int .i64 b0))) (by kernel_rfl) ⟨(ld_box (i := 1) rfl rfl (by kernel_rfl)), (ld_box (i := 0) rfl rfl (by kernel_rfl))⟩ hS3 ?_
  rcases Bool.eq_false_or_eq_true (decide (a0 = b0)) with hb5 | hb5
  · skip
    have hb5p := of_decide_eq_true hb5
    refine q_seg (S := (fun x_ => St w x_ [Res.box blk4 [Value.int .i64 b0, Value.slice b1A b1n b1c, Value.int .i64 b2] 65, Res.box blk2 [Value.int .i64 a0, Value.slice a1A a1n a1c, Value.int .i64 a2] 65])) [(17, Value.bool (decide (a2 = b2))), (16, Value.bool (decide (a2 = b2))), (15, Value.bool (decide (a2 = b2))), (14, Value.int .i64 b2), (13, Value.pointer (some ⟨blk4, 0 + 2, none⟩)), (12, Value.int .i64 a2), (11, Value.pointer (some ⟨blk2, 0 + 2, none⟩))] [.no, .v (Value.int .i64 a2), .no, .v (Value.int .i64 b2), .no, .v (.bool true), .no] (((decide (a0 = b0)) = true) ∧ ((decide (a0 = b0)) = true) ∧ (LoadsAt Try.prog (fun x_ => St w x_ [Res.box blk4 [Value.int .i64 b0, Value.slice b1A b1n b1c, Value.int .i64 b2] 65, Res.box blk2 [Value.int .i64 a0, Value.slice a1A a1n a1c, Value.int .i64 a2] 65]) 3 ⟨blk2, 0 + 2, none⟩ (Value.int .i64 a2)) ∧ ((decide (a0 = b0)) = true) ∧ ((decide (a0 = b0)) = true) ∧ (LoadsAt Try.prog (fun x_ => St w x_ [Res.box blk4 [Value.int .i64 b0, Value.slice b1A b1n b1c, Value.int .i64 b2] 65, Res.box blk2 [Value.int .i64 a0, Value.slice a1A a1n a1c, Value.int .i64 a2] 65]) 3 ⟨blk4, 0 + 2, none⟩ (Value.int .i64 b2)) ∧ ((decide (a0 = b0)) = true) ∧ ((decide (a0 = b0)) = true)) (by kernel_rfl) ⟨hb5, hb5, (ld_box (i := 1) rfl rfl (by kernel_rfl)), hb5, hb5, (ld_box (i := 0) rfl rfl (by kernel_rfl)), hb5, hb5⟩ hS3 ?_
    rcases Bool.eq_false_or_eq_true (decide (a2 = b2)) with hb6 | hb6
    · skip
      have hb6p := of_decide_eq_true hb6
      refine q_seg (S := (fun x_ => St w x_ [Res.box blk4 [Value.int .i64 b0, Value.slice b1A b1n b1c, Value.int .i64 b2] 65, Res.box blk2 [Value.int .i64 a0, Value.slice a1A a1n a1c, Value.int .i64 a2] 65])) [(21, Value.slice b1A b1n b1c), (20, Value.pointer (some ⟨blk4, 0 + 1, none⟩)), (19, Value.slice a1A a1n a1c), (18, Value.pointer (some ⟨blk2, 0 + 1, none⟩))] [.no, .v (Value.slice a1A a1n a1c), .no, .v (Value.slice b1A b1n b1c)] (((decide (a2 = b2)) = true) ∧ ((decide (a2 = b2)) = true) ∧ (LoadsAt Try.prog (fun x_ => St w x_ [Res.box blk4 [Value.int .i64 b0, Value.slice b1A b1n b1c, Value.int .i64 b2] 65, Res.box blk2 [Value.int .i64 a0, Value.slice a1A a1n a1c, Value.int .i64 a2] 65]) 32 ⟨blk2, 0 + 1, none⟩ (Value.slice a1A a1n a1c)) ∧ ((decide (a2 = b2)) = true) ∧ ((decide (a2 = b2)) = true) ∧ (LoadsAt Try.prog (fun x_ => St w x_ [Res.box blk4 [Value.int .i64 b0, Value.slice b1A b1n b1c, Value.int .i64 b2] 65, Res.box blk2 [Value.int .i64 a0, Value.slice a1A a1n a1c, Value.int .i64 a2] 65]) 32 ⟨blk4, 0 + 1, none⟩ (Value.slice b1A b1n b1c))) (by kernel_rfl) ⟨hb6, hb6, (ld_box (i := 1) rfl rfl (by kernel_rfl)), hb6, hb6, (ld_box (i := 0) rfl rfl (by kernel_rfl))⟩ hS3 ?_
      refine l_opg rfl (b := (decide (a2 = b2))) (want := true) (by kernel_rfl) hb6 (fun K hK => op_callv (d := some 22) rfl rfl ⟨_, Try.func81, by kernel_rfl, by kernel_rfl⟩ (vs := [Value.slice a1A a1n a1c, Value.slice b1A b1n b1c]) (by kernel_rfl) (v := Value.bool (decide (a1L = b1L))) (l15Same_s_c a1A b1A a1n a1c b1n b1c a1L b1L w3 (by omega) (by omega) (hS3.rdllow a1h) (hS3.rdllow b1h)) hS3 (fun w7 hS7 => hK _ _ ?_))
      clear hK K
      refine q_seg (S := (fun x_ => St w x_ [Res.box blk4 [Value.int .i64 b0, Value.slice b1A b1n b1c, Value.int .i64 b2] 65, Res.box blk2 [Value.int .i64 a0, Value.slice a1A a1n a1c, Value.int .i64 a2] 65])) [(4, Value.bool (decide (a1L = b1L))), (23, Value.bool (decide (a1L = b1L)))] [.v (.bool true), .no] (((decide (a2 = b2)) = true)) (by kernel_rfl) hb6 hS7 ?_
      refine l_nil rfl ?_
      refine then_n ?_
      refine wp_ret ?_
      exact c_end (S := (fun x_ => St w x_ [Res.box blk4 [Value.int .i64 b0, Value.slice b1A b1n b1c, Value.int .i64 b2] 65, Res.box blk2 [Value.int .i64 a0, Value.slice a1A a1n a1c, Value.int .i64 a2] 65])) (rs := [.tmp 4]) rfl [] (v := Value.bool (decide (a1L = b1L))) (C := True) (by kernel_rfl) trivial hS7 ((hS7.rv (congrArg Value.bool (by first | rfl | simp [*]))))
    · skip
      have hb6p := of_decide_eq_false hb6
      refine q_seg (S := (fun x_ => St w x_ [Res.box blk4 [Value.int .i64 b0, Value.slice b1A b1n b1c, Value.int .i64 b2] 65, Res.box blk2 [Value.int .i64 a0, Value.slice a1A a1n a1c, Value.int .i64 a2] 65])) [(4, Value.bool false), (23, Value.bool false), (22, undef), (21, undef), (20, undef), (19, undef), (18, undef)] [.skip, .skip, .skip, .skip, .skip, .v (.bool false), .no] (((decide (a2 = b2)) = !true) ∧ ((decide (a2 = b2)) = !true) ∧ ((decide (a2 = b2)) = !true) ∧ ((decide (a2 = b2)) = !true) ∧ ((decide (a2 = b2)) = !true) ∧ ((decide (a2 = b2)) = false)) (by kernel_rfl) ⟨hb6, hb6, hb6, hb6, hb6, hb6⟩ hS3 ?_
      refine l_nil rfl ?_
      refine then_n ?_
      refine wp_ret ?_
      exact c_end (S := (fun x_ => St w x_ [Res.box blk4 [Value.int .i64 b0, Value.slice b1A b1n b1c, Value.int .i64 b2] 65, Res.box blk2 [Value.int .i64 a0, Value.slice a1A a1n a1c, Value.int .i64 a2] 65])) (rs := [.tmp 4]) rfl [] (v := Value.bool false) (C := True) (by kernel_rfl) trivial hS3 ((hS3.rv (congrArg Value.bool (by first | rfl | simp [*]))))
  · skip
    have hb5p := of_decide_eq_false hb5
    refine q_seg (S := (fun x_ => St w x_ [Res.box blk4 [Value.int .i64 b0, Value.slice b1A b1n b1c, Value.int .i64 b2] 65, Res.box blk2 [Value.int .i64 a0, Value.slice a1A a1n a1c, Value.int .i64 a2] 65])) [(4, Value.bool false), (23, Value.bool false), (22, undef), (21, undef), (20, undef), (19, undef), (18, undef), (17, Value.bool false), (16, Value.bool false), (15, undef), (14, undef), (13, undef), (12, undef), (11, undef)] [.skip, .skip, .skip, .skip, .skip, .v (.bool false), .no, .skip, .skip, .skip, .skip, .skip, .v (.bool false), .no] (((decide (a0 = b0)) = !true) ∧ ((decide (a0 = b0)) = !true) ∧ ((decide (a0 = b0)) = !true) ∧ ((decide (a0 = b0)) = !true) ∧ ((decide (a0 = b0)) = !true) ∧ ((decide (a0 = b0)) = false) ∧ (false = !true) ∧ (false = !true) ∧ (false = !true) ∧ (false = !true) ∧ (false = !true) ∧ (false = false)) (by kernel_rfl) ⟨hb5, hb5, hb5, hb5, hb5, hb5, rfl, rfl, rfl, rfl, rfl, rfl⟩ hS3 ?_
    refine l_nil rfl ?_
    refine then_n ?_
    refine wp_ret ?_
    exact c_end (S := (fun x_ => St w x_ [Res.box blk4 [Value.int .i64 b0, Value.slice b1A b1n b1c, Value.int .i64 b2] 65, Res.box blk2 [Value.int .i64 a0, Value.slice a1A a1n a1c, Value.int .i64 a2] 65])) (rs := [.tmp 4]) rfl [] (v := Value.bool false) (C := True) (by kernel_rfl) trivial hS3 ((hS3.rv (congrArg Value.bool (by first | rfl | simp [*]))))
theorem EqualReceivers_s_c (a0 : Int) (a1A : Option Addr) (a1n a1c : Nat) (a1L : List (Int × List Int)) (a2A : Option Addr) (a2n a2c : Nat) (a2L : List (Int × List Int)) (b0 : Int) (b1A : Option Addr) (b1n b1c : Nat) (b1L : List (Int × List Int)) (b2A : Option Addr) (b2n b2c : Nat) (b2L : List (Int × List Int)) (w : World) (a1h : RdL .u8 true w w.heap.size a1A a1n a1L) (a1w : wt a1L ≤ 1099511627776) (a2h : RdL .u8 false w w.heap.size a2A a2n a2L) (a2w : wt a2L ≤ 1099511627776) (b1h : RdL .u8 true w w.heap.size b1A b1n b1L) (b1w : wt b1L ≤ 1099511627776) (b2h : RdL .u8 false w w.heap.size b2A b2n b2L) (b2w : wt b2L ≤ 1099511627776) : Calls Try.prog 51 #[Value.agg #[Value.int .i64 a0, Value.slice a1A a1n a1c, Value.slice a2A a2n a2c], Value.agg #[Value.int .i64 b0, Value.slice b1A b1n b1c, Value.slice b2A b2n b2c]] w (RetV w (.bool ((decide (a0 = b0) && decide (a1L = b1L)) && decide (a2L = b2L)))) := by
  have a1l := a1h.len
  have a1v := wt_len a1L
  have a2l := a2h.len
  have a2v := wt_len a2L
  have b1l := b1h.len
  have b1v := wt_len b1L
  have b2l := b2h.len
  have b2v := wt_len b2L
  refine calls_FA Try.func51 rfl (n := 24) rfl (l := [(0, Value.agg #[Value.int .i64 a0, Value.slice a1A a1n a1c, Value.slice a2A a2n a2c]), (1, Value.agg #[Value.int .i64 b0, Value.slice b1A b1n b1c, Value.slice b2A b2n b2c])]) rfl (by simp) (fun g => ?_)
  have hS := St.init w
  refine wp_seq ?_
  refine c_reg ?_
  refine l_op rfl rfl (fun K hK => op_box (d := some 2) rfl rfl [Value.int .i64 a0, Value.slice a1A a1n a1c, Value.slice a2A a2n a2c] (by kernel_rfl) hS (fun blk2 w1 hS1 => hK _ _ ?_))
  clear hK K
  refine l_op rfl rfl (fun K hK => op_box (d := some 3) rfl rfl [Value.int .i64 b0, Value.slice b1A b1n b1c, Value.slice b2A b2n b2c] (by kernel_rfl) hS1 (fun blk4 w3 hS3 => hK _ _ ?_))
  clear hK K
  refine q_seg (S := (fun x_ => St w x_ [Res.box blk4 [Value.int .i64 b0, Value.slice b1A b1n b1c, Value.slice b2A b2n b2c] 34, Res.box blk2 [Value.int .i64 a0, Value.slice a1A a1n a1c, Value.slice a2A a2n a2c] 34])) [(4, Value.bool false)] [.no] True (by kernel_rfl) trivial hS3 ?_
  refine l_nil rfl ?_
  refine then_n ?_
  refine wp_seq ?_
  refine c_reg ?_
  refine q_seg (S := (fun x_ => St w x_ [Res.box blk4 [Value.int .i64 b0, Value.slice b1A b1n b1c, Value.slice b2A b2n b2c] 34, Res.box blk2 [Value.int .i64 a0, Value.slice a1A a1n a1c, Value.slice a2A a2n a2c] 34])) [(10, Value.bool (decide (a0 = b0))), (9, Value.bool (decide (a0 = b0))), (8, Value.int .i64 b0), (7, Value.pointer (some ⟨blk4, 0 + 0, none⟩)), (6, Value.int .i64 a0), (5, Value.pointer (some ⟨blk2, 0 + 0, none⟩))] [.no, .v (Value.int .i64 a0), .no, .v (Value.int .i64 b0), .no, .no] ((LoadsAt Try.prog (fun x_ => St w x_ [Res.box blk4 [Value.int .i64 b0, Value.slice b1A b1n b1c, Value.slice b2A b2n b2c] 34, Res.box blk2 [Value.int .i64 a0, Value.slice a1A a1n a1c, Value.slice a2A a2n a2c] 34]) 3 ⟨blk2, 0 + 0, none⟩ (Value.int .i64 a0)) ∧ (LoadsAt Try.prog (fun x_ => St w x_ [Res.box blk4 [Value.int .i64 b0, Value.slice b1A b1n b1c, Value.slice b2A b2n b2c] 34, Res.box blk2 [Value.int .i64 a0, Value.slice a1A a1n a1c, Value.slice a2A a2n a2c] 34]) 3 ⟨blk4, 0 + 0, none⟩ (Value.int .i64 b0))) (by kernel_rfl) ⟨(ld_box (i := 1) rfl rfl (by kernel_rfl)), (ld_box (i := 0) rfl rfl (by kernel_rfl))⟩ hS3 ?_
  rcases Bool.eq_false_or_eq_true (decide (a0 = b0)) with hb5 | hb5
  · skip
    have hb5p := of_decide_eq_true hb5
    refine q_seg (S := (fun x_ => St w x_ [Res.box blk4 [Value.int .i64 b0, Value.slice b1A b1n b1c, Value.slice b2A b2n b2c] 34, Res.box blk2 [Value.int .i64 a0, Value.slice a1A a1n a1c, Value.slice a2A a2n a2c] 34])) [(14, Value.slice b1A b1n b1c), (13, Value.pointer (some ⟨blk4, 0 + 1, none⟩)), (12, Value.slice a1A a1n a1c), (11, Value.pointer (some ⟨blk2, 0 + 1, none⟩))] [.no, .v (Value.slice a1A a1n a1c), .no, .v (Value.slice b1A b1n b1c)] (((decide (a0 = b0)) = true) ∧ ((decide (a0 = b0)) = true) ∧ (LoadsAt Try.prog (fun x_ => St w x_ [Res.box blk4 [Value.int .i64 b0, Value.slice b1A b1n b1c, Value.slice b2A b2n b2c] 34, Res.box blk2 [Value.int .i64 a0, Value.slice a1A a1n a1c, Value.slice a2A a2n a2c] 34]) 31 ⟨blk2, 0 + 1, none⟩ (Value.slice a1A a1n a1c)) ∧ ((decide (a0 = b0)) = true) ∧ ((decide (a0 = b0)) = true) ∧ (LoadsAt Try.prog (fun x_ => St w x_ [Res.box blk4 [Value.int .i64 b0, Value.slice b1A b1n b1c, Value.slice b2A b2n b2c] 34, Res.box blk2 [Value.int .i64 a0, Value.slice a1A a1n a1c, Value.slice a2A a2n a2c] 34]) 31 ⟨blk4, 0 + 1, none⟩ (Value.slice b1A b1n b1c))) (by kernel_rfl) ⟨hb5, hb5, (ld_box (i := 1) rfl rfl (by kernel_rfl)), hb5, hb5, (ld_box (i := 0) rfl rfl (by kernel_rfl))⟩ hS3 ?_
    refine l_opg rfl (b := (decide (a0 = b0))) (want := true) (by kernel_rfl) hb5 (fun K hK => op_callv (d := some 15) rfl rfl ⟨_, Try.func79, by kernel_rfl, by kernel_rfl⟩ (vs := [Value.slice a1A a1n a1c, Value.slice b1A b1n b1c]) (by kernel_rfl) (v := Value.bool (decide (a1L = b1L))) (l24Same_s_c a1A b1A a1n a1c b1n b1c a1L b1L w3 (by omega) (by omega) (hS3.rdllow a1h) (hS3.rdllow b1h)) hS3 (fun w6 hS6 => hK _ _ ?_))
    clear hK K
    refine q_seg (S := (fun x_ => St w x_ [Res.box blk4 [Value.int .i64 b0, Value.slice b1A b1n b1c, Value.slice b2A b2n b2c] 34, Res.box blk2 [Value.int .i64 a0, Value.slice a1A a1n a1c, Value.slice a2A a2n a2c] 34])) [(17, Value.bool (decide (a1L = b1L))), (16, Value.bool (decide (a1L = b1L)))] [.v (.bool true), .no] (((decide (a0 = b0)) = true)) (by kernel_rfl) hb5 hS6 ?_
    rcases Bool.eq_false_or_eq_true (decide (a1L = b1L)) with hb7 | hb7
    · skip
      have hb7p := of_decide_eq_true hb7
      refine q_seg (S := (fun x_ => St w x_ [Res.box blk4 [Value.int .i64 b0, Value.slice b1A b1n b1c, Value.slice b2A b2n b2c] 34, Res.box blk2 [Value.int .i64 a0, Value.slice a1A a1n a1c, Value.slice a2A a2n a2c] 34])) [(21, Value.slice b2A b2n b2c), (20, Value.pointer (some ⟨blk4, 0 + 2, none⟩)), (19, Value.slice a2A a2n a2c), (18, Value.pointer (some ⟨blk2, 0 + 2, none⟩))] [.no, .v (Value.slice a2A a2n a2c), .no, .v (Value.slice b2A b2n b2c)] (((decide (a1L = b1L)) = true) ∧ ((decide (a1L = b1L)) = true) ∧ (LoadsAt Try.prog (fun x_ => St w x_ [Res.box blk4 [Value.int .i64 b0, Value.slice b1A b1n b1c, Value.slice b2A b2n b2c] 34, Res.box blk2 [Value.int .i64 a0, Value.slice a1A a1n a1c, Value.slice a2A a2n a2c] 34]) 32 ⟨blk2, 0 + 2, none⟩ (Value.slice a2A a2n a2c)) ∧ ((decide (a1L = b1L)) = true) ∧ ((decide (a1L = b1L)) = true) ∧ (LoadsAt Try.prog (fun x_ => St w x_ [Res.box blk4 [Value.int .i64 b0, Value.slice b1A b1n b1c, Value.slice b2A b2n b2c] 34, Res.box blk2 [Value.int .i64 a0, Value.slice a1A a1n a1c, Value.slice a2A a2n a2c] 34]) 32 ⟨blk4, 0 + 2, none⟩ (Value.slice b2A b2n b2c))) (by kernel_rfl) ⟨hb7, hb7, (ld_box (i := 1) rfl rfl (by kernel_rfl)), hb7, hb7, (ld_box (i := 0) rfl rfl (by kernel_rfl))⟩ hS6 ?_
      refine l_opg rfl (b := (decide (a1L = b1L))) (want := true) (by kernel_rfl) hb7 (fun K hK => op_callv (d := some 22) rfl rfl ⟨_, Try.func81, by kernel_rfl, by kernel_rfl⟩ (vs := [Value.slice a2A a2n a2c, Value.slice b2A b2n b2c]) (by kernel_rfl) (v := Value.bool (decide (a2L = b2L))) (l15Same_s_c a2A b2A a2n a2c b2n b2c a2L b2L w6 (by omega) (by omega) (hS6.rdllow a2h) (hS6.rdllow b2h)) hS6 (fun w8 hS8 => hK _ _ ?_))
      clear hK K
      refine q_seg (S := (fun x_ => St w x_ [Res.box blk4 [Value.int .i64 b0, Value.slice b1A b1n b1c, Value.slice b2A b2n b2c] 34, Res.box blk2 [Value.int .i64 a0, Value.slice a1A a1n a1c, Value.slice a2A a2n a2c] 34])) [(4, Value.bool (decide (a2L = b2L))), (23, Value.bool (decide (a2L = b2L)))] [.v (.bool true), .no] (((decide (a1L = b1L)) = true)) (by kernel_rfl) hb7 hS8 ?_
      refine l_nil rfl ?_
      refine then_n ?_
      refine wp_ret ?_
      exact c_end (S := (fun x_ => St w x_ [Res.box blk4 [Value.int .i64 b0, Value.slice b1A b1n b1c, Value.slice b2A b2n b2c] 34, Res.box blk2 [Value.int .i64 a0, Value.slice a1A a1n a1c, Value.slice a2A a2n a2c] 34])) (rs := [.tmp 4]) rfl [] (v := Value.bool (decide (a2L = b2L))) (C := True) (by kernel_rfl) trivial hS8 ((hS8.rv (congrArg Value.bool (by first | rfl | simp [*]))))
    · skip
      have hb7p := of_decide_eq_false hb7
      refine q_seg (S := (fun x_ => St w x_ [Res.box blk4 [Value.int .i64 b0, Value.slice b1A b1n b1c, Value.slice b2A b2n b2c] 34, Res.box blk2 [Value.int .i64 a0, Value.slice a1A a1n a1c, Value.slice a2A a2n a2c] 34])) [(4, Value.bool false), (23, Value.bool false), (22, undef), (21, undef), (20, undef), (19, undef), (18, undef)] [.skip, .skip, .skip, .skip, .skip, .v (.bool false), .no] (((decide (a1L = b1L)) = !true) ∧ ((decide (a1L = b1L)) = !true) ∧ ((decide (a1L = b1L)) = !true) ∧ ((decide (a1L = b1L)) = !true) ∧ ((decide (a1L = b1L)) = !true) ∧ ((decide (a1L = b1L)) = false)) (by kernel_rfl) ⟨hb7, hb7, hb7, hb7, hb7, hb7⟩ hS6 ?_
      refine l_nil rfl ?_
      refine then_n ?_
      refine wp_ret ?_
      exact c_end (S := (fun x_ => St w x_ [Res.box blk4 [Value.int .i64 b0, Value.slice b1A b1n b1c, Value.slice b2A b2n b2c] 34, Res.box blk2 [Value.int .i64 a0, Value.slice a1A a1n a1c, Value.slice a2A a2n a2c] 34])) (rs := [.tmp 4]) rfl [] (v := Value.bool false) (C := True) (by kernel_rfl) trivial hS6 ((hS6.rv (congrArg Value.bool (by first | rfl | simp [*]))))
  · skip
    have hb5p := of_decide_eq_false hb5
    refine q_seg (S := (fun x_ => St w x_ [Res.box blk4 [Value.int .i64 b0, Value.slice b1A b1n b1c, Value.slice b2A b2n b2c] 34, Res.box blk2 [Value.int .i64 a0, Value.slice a1A a1n a1c, Value.slice a2A a2n a2c] 34])) [(4, Value.bool false), (23, Value.bool false), (22, undef), (21, undef), (20, undef), (19, undef), (18, undef), (17, Value.bool false), (16, Value.bool false), (15, undef), (14, undef), (13, undef), (12, undef), (11, undef)] [.skip, .skip, .skip, .skip, .skip, .v (.bool false), .no, .skip, .skip, .skip, .skip, .skip, .v (.bool false), .no] (((decide (a0 = b0)) = !true) ∧ ((decide (a0 = b0)) = !true) ∧ ((decide (a0 = b0)) = !true) ∧ ((decide (a0 = b0)) = !true) ∧ ((decide (a0 = b0)) = !true) ∧ ((decide (a0 = b0)) = false) ∧ (false = !true) ∧ (false = !true) ∧ (false = !true) ∧ (false = !true) ∧ (false = !true) ∧ (false = false)) (by kernel_rfl) ⟨hb5, hb5, hb5, hb5, hb5, hb5, rfl, rfl, rfl, rfl, rfl, rfl⟩ hS3 ?_
    refine l_nil rfl ?_
    refine then_n ?_
    refine wp_ret ?_
    exact c_end (S := (fun x_ => St w x_ [Res.box blk4 [Value.int .i64 b0, Value.slice b1A b1n b1c, Value.slice b2A b2n b2c] 34, Res.box blk2 [Value.int .i64 a0, Value.slice a1A a1n a1c, Value.slice a2A a2n a2c] 34])) (rs := [.tmp 4]) rfl [] (v := Value.bool false) (C := True) (by kernel_rfl) trivial hS3 ((hS3.rv (congrArg Value.bool (by first | rfl | simp [*]))))
end Go.Proofs.Ytchkiohikhfecaa
