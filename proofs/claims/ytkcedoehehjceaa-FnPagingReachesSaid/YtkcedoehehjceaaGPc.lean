/-
  Contracts of the cells that are paged.
-/
import Derived.Test.YtkcedoehehjceaaGDp
import Derived.Test.YtkcedoehehjceaaCell
import Derived.Test.YtkcedoehehjceaaGPg
namespace Go.Proofs.Ytkcedoehehjceaa
open Go.RowKit
set_option maxRecDepth 100000

theorem toCellMap_c (a0A : Option Addr) (a0n a0c : Nat) (a0L : List (Int × List Int)) (w : World) (a0h : RdL .i64 true w w.heap.size a0A a0n a0L) (a0w : wt a0L ≤ 1099511627776) : Calls Try.prog 23 #[Value.agg #[Value.slice a0A a0n a0c]] w (Ret w (fun v new => ∃ (A0_ : Option Addr) (c0_ : Nat) (y0_ : List It), v = Value.agg #[Value.slice A0_ a0n c0_] ∧ new = Res.row (Value.slice A0_ a0n c0_) 44 2 a0n (flat true y0_) :: ((y0_.map (It.row .i64 3)) ++ []) ∧ y0_.map (con true) = a0L)) := by
  have a0l := a0h.len
  have a0v := wt_len a0L
  refine calls_FA Try.func23 rfl (n := 9) rfl (l := [(0, Value.agg #[Value.slice a0A a0n a0c])]) rfl (by simp) (fun g => ?_)
  have hS := St.init w
  refine wp_seq ?_
  refine c_reg ?_
  refine l_op rfl rfl (fun K hK => op_box (d := some 1) rfl rfl [Value.slice a0A a0n a0c] (by kernel_rfl) hS (fun blk2 w1 hS1 => hK _ _ ?_))
  clear hK K
  refine l_op rfl rfl (fun K hK => op_alloc (d := some 2) rfl rfl [Value.slice none 0 0] (by kernel_rfl) hS1 (fun blk4 w3 hS3 => hK _ _ ?_))
  clear hK K
  refine l_nil rfl ?_
  refine then_n ?_
  refine wp_seq ?_
  refine c_reg ?_
  refine l_op rfl rfl (fun K hK => op_alloc (d := some 3) rfl rfl [Value.slice none 0 0] (by kernel_rfl) hS3 (fun blk6 w5 hS5 => hK _ _ ?_))
  clear hK K
  refine l_nil rfl ?_
  refine then_n ?_
  refine wp_seq ?_
  refine c_reg ?_
  refine q_seg (S := (fun x_ => St w x_ [Res.box blk6 [Value.slice none 0 0] 32, Res.box blk4 [Value.slice none 0 0] 32, Res.box blk2 [Value.slice a0A a0n a0c] 49])) [(5, Value.slice a0A a0n a0c), (4, Value.pointer (some ⟨blk2, 0 + 0, none⟩))] [.no, .v (Value.slice a0A a0n a0c)] ((LoadsAt Try.prog (fun x_ => St w x_ [Res.box blk6 [Value.slice none 0 0] 32, Res.box blk4 [Value.slice none 0 0] 32, Res.box blk2 [Value.slice a0A a0n a0c] 49]) 47 ⟨blk2, 0 + 0, none⟩ (Value.slice a0A a0n a0c))) (by kernel_rfl) (ld_box (i := 2) rfl rfl (by kernel_rfl)) hS5 ?_
  refine l_op rfl rfl (fun K hK => op_call (d := some 6) rfl rfl ⟨_, Try.func41, by kernel_rfl, by kernel_rfl⟩ (vs := [Value.slice a0A a0n a0c]) (by kernel_rfl) (toCellS_c a0A a0n a0c a0L w5 (by omega) (hS5.rdllow a0h)) hS5 (fun v9 new10 w7 Rw7 hS7 => hK _ _ ?_))
  clear hK K
  obtain ⟨Aq11, cq12, yq13, rfl, rfl, hcq14⟩ := Rw7
  have hS7r : St w w7 (Res.row (Value.slice Aq11 a0n cq12) 44 2 a0n (flat true yq13) :: Res.box blk6 [Value.slice none 0 0] 32 :: Res.box blk4 [Value.slice none 0 0] 32 :: Res.box blk2 [Value.slice a0A a0n a0c] 49 :: ((yq13.map (It.row .i64 3)) ++ [])) := St.rot_1 [Res.row (Value.slice Aq11 a0n cq12) 44 2 a0n (flat true yq13)] [Res.box blk6 [Value.slice none 0 0] 32, Res.box blk4 [Value.slice none 0 0] 32, Res.box blk2 [Value.slice a0A a0n a0c] 49] [] (yq13.map (It.row .i64 3)) hS7
  refine q_seg (S := (fun x_ => St w x_ (Res.row (Value.slice Aq11 a0n cq12) 44 2 a0n (flat true yq13) :: Res.box blk6 [Value.slice none 0 0] 32 :: Res.box blk4 [Value.slice none 0 0] 32 :: Res.box blk2 [Value.slice a0A a0n a0c] 49 :: ((yq13.map (It.row .i64 3)) ++ [])))) [(7, Value.pointer (some ⟨blk6, 0 + 0, none⟩))] [.no] True (by kernel_rfl) trivial hS7r ?_
  refine l_op rfl rfl (fun K hK => op_store (d := none) rfl rfl (i := 1) (b := blk6) (off := 0 + 0) (cs := [Value.slice none 0 0]) (bt := 32) (by kernel_rfl) (by kernel_rfl) [Value.slice Aq11 a0n cq12] (by kernel_rfl) (by kernel_rfl) (Nat.le_of_ble_eq_true (by kernel_rfl)) (by kernel_rfl) (Res.row (Value.slice Aq11 a0n cq12) 44 2 a0n (flat true yq13) :: Res.box blk6 [Value.slice Aq11 a0n cq12] 32 :: Res.box blk4 [Value.slice none 0 0] 32 :: Res.box blk2 [Value.slice a0A a0n a0c] 49 :: ((yq13.map (It.row .i64 3)) ++ [])) (by kernel_rfl) hS7r (fun w15 hS15 => hK _ _ ?_))
  clear hK K
  refine l_nil rfl ?_
  refine then_n ?_
  refine wp_seq ?_
  refine c_reg ?_
  refine q_seg (S := (fun x_ => St w x_ (Res.row (Value.slice Aq11 a0n cq12) 44 2 a0n (flat true yq13) :: Res.box blk6 [Value.slice Aq11 a0n cq12] 32 :: Res.box blk4 [Value.slice none 0 0] 32 :: Res.box blk2 [Value.slice a0A a0n a0c] 49 :: ((yq13.map (It.row .i64 3)) ++ [])))) [(8, Value.agg #[Value.slice Aq11 a0n cq12])] [.v (Value.agg #[Value.slice Aq11 a0n cq12])] ((LoadsAt Try.prog (fun x_ => St w x_ (Res.row (Value.slice Aq11 a0n cq12) 44 2 a0n (flat true yq13) :: Res.box blk6 [Value.slice Aq11 a0n cq12] 32 :: Res.box blk4 [Value.slice none 0 0] 32 :: Res.box blk2 [Value.slice a0A a0n a0c] 49 :: ((yq13.map (It.row .i64 3)) ++ []))) 32 ⟨blk6, 0, none⟩ (Value.agg #[Value.slice Aq11 a0n cq12]))) (by kernel_rfl) (ld_boxN (i := 1) (k := 1) rfl rfl rfl (by kernel_rfl)) hS15 ?_
  refine l_op rfl rfl (fun K hK => op_store (d := none) rfl rfl (i := 2) (b := blk4) (off := 0) (cs := [Value.slice none 0 0]) (bt := 32) (by kernel_rfl) (by kernel_rfl) [Value.slice Aq11 a0n cq12] (by kernel_rfl) (by kernel_rfl) (Nat.le_of_ble_eq_true (by kernel_rfl)) (by kernel_rfl) (Res.row (Value.slice Aq11 a0n cq12) 44 2 a0n (flat true yq13) :: Res.box blk6 [Value.slice Aq11 a0n cq12] 32 :: Res.box blk4 [Value.slice Aq11 a0n cq12] 32 :: Res.box blk2 [Value.slice a0A a0n a0c] 49 :: ((yq13.map (It.row .i64 3)) ++ [])) (by kernel_rfl) hS15 (fun w16 hS16 => hK _ _ ?_))
  clear hK K
  refine l_nil rfl ?_
  refine then_n ?_
  refine wp_ret ?_
  have hS16s1 : St w w16 (Res.row (Value.slice Aq11 a0n cq12) 44 2 a0n (flat true yq13) :: ((yq13.map (It.row .i64 3)) ++ [])) := (hS16.sub (List.Sublist.cons_cons _ (List.Sublist.cons _ (List.Sublist.cons _ (List.Sublist.cons _ (List.Sublist.append (List.Sublist.refl _) List.Sublist.slnil))))))
  exact c_end (S := (fun x_ => St w x_ (Res.row (Value.slice Aq11 a0n cq12) 44 2 a0n (flat true yq13) :: Res.box blk6 [Value.slice Aq11 a0n cq12] 32 :: Res.box blk4 [Value.slice Aq11 a0n cq12] 32 :: Res.box blk2 [Value.slice a0A a0n a0c] 49 :: ((yq13.map (It.row .i64 3)) ++ [])))) (rs := [.cell 2 32]) rfl [Value.agg #[Value.slice Aq11 a0n cq12]] (v := Value.agg #[Value.slice Aq11 a0n cq12]) (C := ((LoadsAt Try.prog (fun x_ => St w x_ (Res.row (Value.slice Aq11 a0n cq12) 44 2 a0n (flat true yq13) :: Res.box blk6 [Value.slice Aq11 a0n cq12] 32 :: Res.box blk4 [Value.slice Aq11 a0n cq12] 32 :: Res.box blk2 [Value.slice a0A a0n a0c] 49 :: ((yq13.map (It.row .i64 3)) ++ []))) 32 ⟨blk4, 0, none⟩ (Value.agg #[Value.slice Aq11 a0n cq12])))) (by kernel_rfl) (ld_boxN (i := 2) (k := 1) rfl rfl rfl (by kernel_rfl)) hS16 (hS16s1.rt ⟨_, _, _, rfl, rfl, hcq14⟩)
theorem eqCellMap_c (a0A : Option Addr) (a0n a0c : Nat) (a0L : List (Int × List Int)) (b0A : Option Addr) (b0c : Nat) (w : World) (a0h : RdL .i64 true w w.heap.size a0A a0n a0L) (a0w : wt a0L ≤ 1099511627776) (b0h : RdL .i64 true w w.heap.size b0A a0n a0L) : Calls Try.prog 25 #[Value.agg #[Value.slice a0A a0n a0c], Value.agg #[Value.slice b0A a0n b0c]] w (RetV w (.bool true)) := by
  have a0l := a0h.len
  have a0v := wt_len a0L
  refine calls_FA Try.func25 rfl (n := 11) rfl (l := [(0, Value.agg #[Value.slice a0A a0n a0c]), (1, Value.agg #[Value.slice b0A a0n b0c])]) rfl (by simp) (fun g => ?_)
  have hS := St.init w
  refine wp_seq ?_
  refine c_reg ?_
  refine l_op rfl rfl (fun K hK => op_box (d := some 2) rfl rfl [Value.slice a0A a0n a0c] (by kernel_rfl) hS (fun blk2 w1 hS1 => hK _ _ ?_))
  clear hK K
  refine l_op rfl rfl (fun K hK => op_box (d := some 3) rfl rfl [Value.slice b0A a0n b0c] (by kernel_rfl) hS1 (fun blk4 w3 hS3 => hK _ _ ?_))
  clear hK K
  refine q_seg (S := (fun x_ => St w x_ [Res.box blk4 [Value.slice b0A a0n b0c] 32, Res.box blk2 [Value.slice a0A a0n a0c] 32])) [(4, Value.bool false)] [.no] True (by kernel_rfl) trivial hS3 ?_
  refine l_nil rfl ?_
  refine then_n ?_
  refine wp_seq ?_
  refine wp_seq ?_
  refine c_reg ?_
  refine q_seg (S := (fun x_ => St w x_ [Res.box blk4 [Value.slice b0A a0n b0c] 32, Res.box blk2 [Value.slice a0A a0n a0c] 32])) [(8, Value.slice b0A a0n b0c), (7, Value.pointer (some ⟨blk4, 0 + 0, none⟩)), (6, Value.slice a0A a0n a0c), (5, Value.pointer (some ⟨blk2, 0 + 0, none⟩))] [.no, .v (Value.slice a0A a0n a0c), .no, .v (Value.slice b0A a0n b0c)] ((LoadsAt Try.prog (fun x_ => St w x_ [Res.box blk4 [Value.slice b0A a0n b0c] 32, Res.box blk2 [Value.slice a0A a0n a0c] 32]) 30 ⟨blk2, 0 + 0, none⟩ (Value.slice a0A a0n a0c)) ∧ (LoadsAt Try.prog (fun x_ => St w x_ [Res.box blk4 [Value.slice b0A a0n b0c] 32, Res.box blk2 [Value.slice a0A a0n a0c] 32]) 30 ⟨blk4, 0 + 0, none⟩ (Value.slice b0A a0n b0c))) (by kernel_rfl) ⟨(ld_box (i := 1) rfl rfl (by kernel_rfl)), (ld_box (i := 0) rfl rfl (by kernel_rfl))⟩ hS3 ?_
  refine l_op rfl rfl (fun K hK => op_callv (d := some 9) rfl rfl ⟨_, Try.func42, by kernel_rfl, by kernel_rfl⟩ (vs := [Value.slice a0A a0n a0c, Value.slice b0A a0n b0c]) (by kernel_rfl) (v := Value.bool true) (eqCellS_c a0A b0A a0n a0c b0c a0L w3 a0w (hS3.rdllow a0h) (hS3.rdllow b0h)) hS3 (fun w5 hS5 => hK _ _ ?_))
  clear hK K
  refine q_seg (S := (fun x_ => St w x_ [Res.box blk4 [Value.slice b0A a0n b0c] 32, Res.box blk2 [Value.slice a0A a0n a0c] 32])) [(10, Value.bool false)] [.no] True (by kernel_rfl) trivial hS5 ?_
  refine l_nil rfl ?_
  refine then_n ?_
  refine c_false (b := false) (by kernel_rfl) rfl ?_
  refine wp_skip ?_
  refine then_n ?_
  refine wp_seq ?_
  refine c_reg ?_
  refine q_seg (S := (fun x_ => St w x_ [Res.box blk4 [Value.slice b0A a0n b0c] 32, Res.box blk2 [Value.slice a0A a0n a0c] 32])) [(4, Value.bool true)] [.no] True (by kernel_rfl) trivial hS5 ?_
  refine l_nil rfl ?_
  refine then_n ?_
  refine wp_ret ?_
  exact c_end (S := (fun x_ => St w x_ [Res.box blk4 [Value.slice b0A a0n b0c] 32, Res.box blk2 [Value.slice a0A a0n a0c] 32])) (rs := [.tmp 4]) rfl [] (v := Value.bool true) (C := True) (by kernel_rfl) trivial hS5 ((hS5.rv rfl))
theorem szCellMap_c (a0A : Option Addr) (a0n a0c : Nat) (a0L : List (Int × List Int)) (lf : Int) (w : World) (h1 : 0 ≤ lf) (h2 : lf ≤ 1099511627776) (a0h : RdL .i64 true w w.heap.size a0A a0n a0L) (a0w : a0n ≤ 9223372036854775807) : Calls Try.prog 21 #[Value.agg #[Value.slice a0A a0n a0c], .int .i64 lf] w (RetV w (.int .i64 (szF lf [a0L]))) := by
  refine calls_FA Try.func21 rfl (n := 12) rfl (l := [(0, Value.agg #[Value.slice a0A a0n a0c]), (1, Value.int .i64 lf)]) rfl (by simp) (fun g => ?_)
  have hS := St.init w
  refine wp_seq ?_
  refine c_reg ?_
  refine l_op rfl rfl (fun K hK => op_box (d := some 2) rfl rfl [Value.slice a0A a0n a0c] (by kernel_rfl) hS (fun blk2 w1 hS1 => hK _ _ ?_))
  clear hK K
  refine q_seg (S := (fun x_ => St w x_ [Res.box blk2 [Value.slice a0A a0n a0c] 49])) [(4, Value.int .i64 0)] [.no] True (by kernel_rfl) trivial hS1 ?_
  refine l_nil rfl ?_
  refine then_n ?_
  refine wp_seq ?_
  refine c_reg ?_
  refine q_seg (S := (fun x_ => St w x_ [Res.box blk2 [Value.slice a0A a0n a0c] 49])) [(7, Value.int .i64 lf), (6, Value.slice a0A a0n a0c), (5, Value.pointer (some ⟨blk2, 0 + 0, none⟩))] [.no, .v (Value.slice a0A a0n a0c), .no] ((LoadsAt Try.prog (fun x_ => St w x_ [Res.box blk2 [Value.slice a0A a0n a0c] 49]) 47 ⟨blk2, 0 + 0, none⟩ (Value.slice a0A a0n a0c))) (by kernel_rfl) (ld_box (i := 0) rfl rfl (by kernel_rfl)) hS1 ?_
  refine l_op rfl rfl (fun K hK => op_callv (d := some 8) rfl rfl ⟨_, Try.func40, by kernel_rfl, by kernel_rfl⟩ (vs := [Value.slice a0A a0n a0c, Value.int .i64 lf]) (by kernel_rfl) (v := Value.int .i64 (szI lf a0L)) (szCellS_c a0A a0n a0c a0L lf w1 (by omega) (by omega) (by omega) (hS1.rdllow a0h)) hS1 (fun w3 hS3 => hK _ _ ?_))
  clear hK K
  have hsz4 := szI_le (L := a0L) (lf := lf) (by omega)
  refine q_seg (S := (fun x_ => St w x_ [Res.box blk2 [Value.slice a0A a0n a0c] 49])) [(1, Value.int .i64 (szI lf a0L))] [.no] True (by kernel_rfl) trivial hS3 ?_
  refine l_nil rfl ?_
  refine then_n ?_
  refine wp_seq ?_
  refine wp_seq ?_
  refine c_reg ?_
  refine q_seg (S := (fun x_ => St w x_ [Res.box blk2 [Value.slice a0A a0n a0c] 49])) [(10, Value.bool (decide ((szI lf a0L) < (0 : Int)))), (9, Value.int .i64 (szI lf a0L))] [.no, .no] True (by kernel_rfl) trivial hS3 ?_
  refine l_nil rfl ?_
  refine then_n ?_
  rcases Bool.eq_false_or_eq_true (decide ((szI lf a0L) < (0 : Int))) with hb5 | hb5
  · skip
    have hb5p := of_decide_eq_true hb5
    refine c_true (b := (decide ((szI lf a0L) < (0 : Int)))) (by kernel_rfl) hb5 ?_
    refine wp_seq ?_
    refine c_reg ?_
    refine q_seg (S := (fun x_ => St w x_ [Res.box blk2 [Value.slice a0A a0n a0c] 49])) [(4, Value.int .i64 (-1))] [.no] True (by kernel_rfl) trivial hS3 ?_
    refine l_nil rfl ?_
    refine then_n ?_
    refine wp_ret ?_
    refine then_r ?_
    exact c_end (S := (fun x_ => St w x_ [Res.box blk2 [Value.slice a0A a0n a0c] 49])) (rs := [.tmp 4]) rfl [] (v := Value.int .i64 (-1)) (C := True) (by kernel_rfl) trivial hS3 ((hS3.rv (congrArg (Value.int .i64) (by simp only [szF]; repeat (first | omega | rfl | split)))))
  · skip
    have hb5p := of_decide_eq_false hb5
    refine c_false (b := (decide ((szI lf a0L) < (0 : Int)))) (by kernel_rfl) hb5 ?_
    refine wp_skip ?_
    refine then_n ?_
    refine wp_seq ?_
    refine c_reg ?_
    refine q_seg (S := (fun x_ => St w x_ [Res.box blk2 [Value.slice a0A a0n a0c] 49])) [(4, Value.int .i64 (szI lf a0L)), (11, Value.int .i64 (szI lf a0L))] [.no, .no] True (by kernel_rfl) trivial hS3 ?_
    refine l_nil rfl ?_
    refine then_n ?_
    refine wp_ret ?_
    exact c_end (S := (fun x_ => St w x_ [Res.box blk2 [Value.slice a0A a0n a0c] 49])) (rs := [.tmp 4]) rfl [] (v := Value.int .i64 (szI lf a0L)) (C := True) (by kernel_rfl) trivial hS3 ((hS3.rv (congrArg (Value.int .i64) (by simp only [szF]; repeat (first | omega | rfl | split)))))
theorem markCellMap_c (a0A : Option Addr) (a0n a0c : Nat) (a0L : List (Int × List Int)) (a0y : List It) (k0 : Int) (tl : List Res) (w0 w : World) (hS : St w0 w (Res.row (Value.slice a0A a0n a0c) 44 2 a0n (flat true a0y) :: ((a0y.map (It.row .i64 3)) ++ tl))) (a0q : a0y.map (con true) = a0L) (a0l : a0L.length = a0n) (hk1 : 0 ≤ k0) (hk2 : (k0 + ((totL true a0L : Nat) : Int)) ≤ 1099511627776) : Calls Try.prog 26 #[Value.agg #[Value.slice a0A a0n a0c], .int .i64 k0] w (fun e w' => ∃ v own', e = .returned v ∧ St w0 w' own' ∧ (v = .int .i64 (k0 + ((totL true a0L : Nat) : Int)) ∧ own' = (Res.row (Value.slice a0A a0n a0c) 44 2 a0n (flat true (mkI id true k0 a0y)) :: (((mkI id true k0 a0y).map (It.row .i64 3)) ++ tl)))) := by
  refine calls_FA Try.func26 rfl (n := 10) rfl (l := [(0, Value.agg #[Value.slice a0A a0n a0c]), (1, Value.int .i64 k0)]) rfl (by simp) (fun g => ?_)
  refine wp_seq ?_
  refine c_reg ?_
  refine l_op rfl rfl (fun K hK => op_box (d := some 2) rfl rfl [Value.slice a0A a0n a0c] (by kernel_rfl) hS (fun blk2 w1 hS1 => hK _ _ ?_))
  clear hK K
  refine q_seg (S := (fun x_ => St w0 x_ (Res.box blk2 [Value.slice a0A a0n a0c] 32 :: Res.row (Value.slice a0A a0n a0c) 44 2 a0n (flat true a0y) :: ((a0y.map (It.row .i64 3)) ++ tl)))) [(4, Value.int .i64 0)] [.no] True (by kernel_rfl) trivial hS1 ?_
  refine l_nil rfl ?_
  refine then_n ?_
  refine wp_seq ?_
  refine c_reg ?_
  refine q_seg (S := (fun x_ => St w0 x_ (Res.box blk2 [Value.slice a0A a0n a0c] 32 :: Res.row (Value.slice a0A a0n a0c) 44 2 a0n (flat true a0y) :: ((a0y.map (It.row .i64 3)) ++ tl)))) [(7, Value.int .i64 k0), (6, Value.slice a0A a0n a0c), (5, Value.pointer (some ⟨blk2, 0 + 0, none⟩))] [.no, .v (Value.slice a0A a0n a0c), .no] ((LoadsAt Try.prog (fun x_ => St w0 x_ (Res.box blk2 [Value.slice a0A a0n a0c] 32 :: Res.row (Value.slice a0A a0n a0c) 44 2 a0n (flat true a0y) :: ((a0y.map (It.row .i64 3)) ++ tl))) 30 ⟨blk2, 0 + 0, none⟩ (Value.slice a0A a0n a0c))) (by kernel_rfl) (ld_box (i := 0) rfl rfl (by kernel_rfl)) hS1 ?_
  have hlm4 : totL true a0L ≤ wt a0L := totL_wt _ _
  refine l_op rfl rfl (fun K hK => op_callm (d := some 8) rfl rfl ⟨_, Try.func43, by kernel_rfl, by kernel_rfl⟩ (vs := [Value.slice a0A a0n a0c, Value.int .i64 k0]) (by kernel_rfl) (markCellS_c a0A a0n a0c k0 a0L a0y _ w0 w1 (St.frontB [Res.box blk2 [Value.slice a0A a0n a0c] 32] (Res.row (Value.slice a0A a0n a0c) 44 2 a0n (flat true a0y)) [] [] (a0y.map (It.row .i64 3)) tl hS1) a0q a0l (by omega) (by omega)) (fun v5 new6 w3 Rw3 hS3 => hK _ _ ?_))
  clear hK K
  obtain ⟨rfl, rfl⟩ := Rw3
  have hcq7 : (mkI id true k0 a0y).map (con true) = (mkL id true k0 a0L) := by rw [mkI_con, a0q]
  have hcq7w : wt (mkL id true k0 a0L) = wt a0L := mkL_wt _ _ _ _
  have hcq7t := totL_wt true a0L
  have hcq7o : okL .i64 (mkL id true k0 a0L) := mkL_ok64 _ _ _ (by omega) (by omega)
  have hS3r : St w0 w3 (Res.row (Value.slice a0A a0n a0c) 44 2 a0n (flat true (mkI id true k0 a0y)) :: Res.box blk2 [Value.slice a0A a0n a0c] 32 :: (((mkI id true k0 a0y).map (It.row .i64 3)) ++ tl)) := St.backB (Res.row (Value.slice a0A a0n a0c) 44 2 a0n (flat true (mkI id true k0 a0y))) ((mkI id true k0 a0y).map (It.row .i64 3)) [Res.box blk2 [Value.slice a0A a0n a0c] 32] tl hS3
  refine q_seg (S := (fun x_ => St w0 x_ (Res.row (Value.slice a0A a0n a0c) 44 2 a0n (flat true (mkI id true k0 a0y)) :: Res.box blk2 [Value.slice a0A a0n a0c] 32 :: (((mkI id true k0 a0y).map (It.row .i64 3)) ++ tl)))) [(1, Value.int .i64 (k0 + ((totL true a0L : Nat) : Int)))] [.no] True (by kernel_rfl) trivial hS3r ?_
  refine l_nil rfl ?_
  refine then_n ?_
  refine wp_seq ?_
  refine c_reg ?_
  refine q_seg (S := (fun x_ => St w0 x_ (Res.row (Value.slice a0A a0n a0c) 44 2 a0n (flat true (mkI id true k0 a0y)) :: Res.box blk2 [Value.slice a0A a0n a0c] 32 :: (((mkI id true k0 a0y).map (It.row .i64 3)) ++ tl)))) [(4, Value.int .i64 (k0 + ((totL true a0L : Nat) : Int))), (9, Value.int .i64 (k0 + ((totL true a0L : Nat) : Int)))] [.no, .no] True (by kernel_rfl) trivial hS3r ?_
  refine l_nil rfl ?_
  refine then_n ?_
  refine wp_ret ?_
  have hS3rs1 : St w0 w3 (Res.row (Value.slice a0A a0n a0c) 44 2 a0n (flat true (mkI id true k0 a0y)) :: (((mkI id true k0 a0y).map (It.row .i64 3)) ++ tl)) := (hS3r.sub (List.Sublist.cons_cons _ (List.Sublist.cons _ (List.Sublist.append (List.Sublist.refl _) (List.Sublist.refl _)))))
  exact c_end (S := (fun x_ => St w0 x_ (Res.row (Value.slice a0A a0n a0c) 44 2 a0n (flat true (mkI id true k0 a0y)) :: Res.box blk2 [Value.slice a0A a0n a0c] 32 :: (((mkI id true k0 a0y).map (It.row .i64 3)) ++ tl)))) (rs := [.tmp 4]) rfl [] (v := Value.int .i64 (k0 + ((totL true a0L : Nat) : Int))) (C := True) (by kernel_rfl) trivial hS3r (⟨_, _, rfl, hS3rs1, rfl, rfl⟩)
theorem CellsInArea_i_c (a0A : Option Addr) (a0n a0c : Nat) (a0L : List (Int × List Int)) (e : Int) (w : World) (a0h : RdL .i64 true w w.heap.size a0A a0n a0L) (a0w : wt a0L ≤ 1099511627776) : Calls Try.prog 37 #[Value.agg #[Value.slice a0A a0n a0c], .int .i64 e] w (Ret w (fun v new => ∃ (A_ : Option Addr) (c_ : Nat), v = .slice A_ ((cia a0L e)).length c_ ∧ new = [.row (.slice A_ ((cia a0L e)).length c_) 3 1 ((cia a0L e)).length (((cia a0L e)).map (.int .i64))])) := by
  obtain ⟨hok, ys, hr, rfl⟩ := a0h
  have hwl := wt_len (ys.map (con true))
  have hln := hr.len
  rw [List.length_map] at hwl
  have hLn : (ys.map (con true)).length = a0n := by rw [List.length_map]; exact hln
  refine calls_FA Try.func37 rfl (n := 27) rfl (l := [(0, Value.agg #[Value.slice a0A a0n a0c]), (1, Value.int .i64 e)]) rfl (by simp) (fun g => ?_)
  have hS := St.init w
  refine wp_seq ?_
  refine c_reg ?_
  refine l_op rfl rfl (fun K hK => op_box (d := some 2) rfl rfl [Value.slice a0A a0n a0c] (by kernel_rfl) hS (fun blk2 w1 hS1 => hK _ _ ?_))
  clear hK K
  refine q_seg (S := (fun x_ => St w x_ [Res.box blk2 [Value.slice a0A a0n a0c] 32])) [(4, Value.slice none 0 0)] [.no] True (by kernel_rfl) trivial hS1 ?_
  refine l_nil rfl ?_
  refine then_n ?_
  refine wp_seq ?_
  refine c_reg ?_
  refine l_op rfl rfl (fun K hK => op_buildSlice (d := some 8) rfl rfl (e := 3) (by kernel_rfl) 1 (by kernel_rfl) (by decide) (by decide) [] (by kernel_rfl) rfl hS1 (fun blk4 w3 hS3 => hK _ _ ?_))
  clear hK K
  refine q_seg (S := (fun x_ => St w x_ [Res.row (Value.slice (some ⟨blk4, 0, none⟩) 0 0) 3 1 0 ([]), Res.box blk2 [Value.slice a0A a0n a0c] 32])) [(5, Value.slice (some ⟨blk4, 0, none⟩) 0 0)] [.no] True (by kernel_rfl) trivial hS3 ?_
  refine l_nil rfl ?_
  refine then_n ?_
  refine wp_seq ?_
  refine wp_seq ?_
  refine c_reg ?_
  refine q_seg (S := (fun x_ => St w x_ [Res.row (Value.slice (some ⟨blk4, 0, none⟩) 0 0) 3 1 0 ([]), Res.box blk2 [Value.slice a0A a0n a0c] 32])) [(12, Value.int .i64 0), (11, Value.int .i64 ((a0n : Nat) : Int)), (10, Value.slice a0A a0n a0c), (9, Value.pointer (some ⟨blk2, 0 + 0, none⟩))] [.no, .v (Value.slice a0A a0n a0c), .no, .no] ((LoadsAt Try.prog (fun x_ => St w x_ [Res.row (Value.slice (some ⟨blk4, 0, none⟩) 0 0) 3 1 0 ([]), Res.box blk2 [Value.slice a0A a0n a0c] 32]) 30 ⟨blk2, 0 + 0, none⟩ (Value.slice a0A a0n a0c))) (by kernel_rfl) (ld_box (i := 1) rfl rfl (by kernel_rfl)) hS3 ?_
  refine l_nil rfl ?_
  refine then_n ?_
  refine wp_block ?_
  refine c_loop (X := Nat × Option Addr × Nat) (fun (x_ : Nat × Option Addr × Nat) => match x_ with | (k, A2, c2) => [(1, Value.int .i64 e), (5, Value.slice A2 (List.length (ciaK (ys.map (con true)) e k)) c2), (10, Value.slice a0A a0n a0c), (11, Value.int .i64 ((a0n : Nat) : Int)), (12, Value.int .i64 ((k : Nat) : Int))]) (fun (x_ : Nat × Option Addr × Nat) (wr : World) => match x_ with | (k, A2, c2) => (k ≤ a0n) ∧ St w wr [Res.row (Value.slice A2 (List.length (ciaK (ys.map (con true)) e k)) c2) 3 1 (List.length (ciaK (ys.map (con true)) e k)) ((ciaK (ys.map (con true)) e k).map (Value.int .i64)), Res.box blk2 [Value.slice a0A a0n a0c] 32]) (fun (x_ : Nat × Option Addr × Nat) => match x_ with | (k, A2, c2) => a0n - k) ((0, (some ⟨blk4, 0, none⟩), 0)) ?_ ?_ ?_
  · exact (agree_cons (by kernel_rfl) (agree_cons (by kernel_rfl) (agree_cons (by kernel_rfl) (agree_cons (by kernel_rfl) (agree_cons (by kernel_rfl) agree_nil)))))
  · exact ⟨Nat.zero_le _, ((hS3.sub (List.Sublist.cons_cons _ (List.Sublist.cons_cons _ List.Sublist.slnil))))⟩
  rintro ⟨k, A2, c2⟩ g6 w5 ⟨hkn, hS5⟩
  have hcl := cia_len (ys.map (con true)) e k
  refine wp_seq ?_
  refine c_reg ?_
  refine q_seg (S := (fun x_ => St w x_ [Res.row (Value.slice A2 (List.length (ciaK (ys.map (con true)) e k)) c2) 3 1 (List.length (ciaK (ys.map (con true)) e k)) ((ciaK (ys.map (con true)) e k).map (Value.int .i64)), Res.box blk2 [Value.slice a0A a0n a0c] 32])) [(13, Value.bool (decide (((k : Nat) : Int) < ((a0n : Nat) : Int))))] [.no] True (by kernel_rfl) trivial hS5 ?_
  refine l_nil rfl ?_
  refine then_n ?_
  refine wp_seq ?_
  rcases Bool.eq_false_or_eq_true (decide (((k : Nat) : Int) < ((a0n : Nat) : Int))) with hb7 | hb7
  · skip
    have hb7p := of_decide_eq_true hb7
    obtain ⟨b, off, rfl, hbB, hcl⟩ := hr.at (k := k) (by omega)
    obtain ⟨y, hyk, hym⟩ := get_of_lt (l := ys) (k := k) (by have := hr.len; omega)
    obtain ⟨hy1, hy2, hy3⟩ := hr.el y hym
    obtain ⟨hyi, hyz⟩ := hok _ (List.mem_map_of_mem (f := (con true)) hym)
    have hyl : y.zs.length + 1 ≤ wt (ys.map (con true)) := wt_mem (List.mem_map_of_mem (f := (con true)) hym)
    refine c_true (b := (decide (((k : Nat) : Int) < ((a0n : Nat) : Int)))) (by kernel_rfl) hb7 ?_
    refine wp_skip ?_
    refine then_n ?_
    refine wp_seq ?_
    refine wp_block ?_
    refine wp_seq ?_
    refine c_reg ?_
    refine q_seg (S := (fun x_ => St w x_ [Res.row (Value.slice A2 (List.length (ciaK (ys.map (con true)) e k)) c2) 3 1 (List.length (ciaK (ys.map (con true)) e k)) ((ciaK (ys.map (con true)) e k).map (Value.int .i64)), Res.box blk2 [Value.slice (some ⟨b, off, none⟩) a0n a0c] 32])) [(16, Value.agg #[Value.int .i64 y.s, Value.slice y.A y.zs.length y.c]), (15, Value.pointer (some ⟨b, off + Int.toNat ((k : Nat) : Int) * 2, none⟩)), (14, Value.int .i64 ((k : Nat) : Int))] [.no, .no, .v (Value.agg #[Value.int .i64 y.s, Value.slice y.A y.zs.length y.c])] (((0 : Int) ≤ ((k : Nat) : Int)) ∧ (((k : Nat) : Int) < ((a0n : Nat) : Int)) ∧ (LoadsAt Try.prog (fun x_ => St w x_ [Res.row (Value.slice A2 (List.length (ciaK (ys.map (con true)) e k)) c2) 3 1 (List.length (ciaK (ys.map (con true)) e k)) ((ciaK (ys.map (con true)) e k).map (Value.int .i64)), Res.box blk2 [Value.slice (some ⟨b, off, none⟩) a0n a0c] 32]) 44 ⟨b, off + Int.toNat ((k : Nat) : Int) * 2, none⟩ (Value.agg #[Value.int .i64 y.s, Value.slice y.A y.zs.length y.c]))) (by kernel_rfl) ⟨(by omega), (by omega), (ld_lowN (k := 2) (vs := [Value.int .i64 y.s, Value.slice y.A y.zs.length y.c]) (by kernel_rfl) rfl (flat_cells (p := true) hcl hyk))⟩ hS5 ?_
    refine l_op rfl rfl (fun K hK => op_alloc (d := some 7) rfl rfl [Value.int .i64 0, Value.slice none 0 0] (by kernel_rfl) hS5 (fun blk9 w8 hS8 => hK _ _ ?_))
    clear hK K
    refine q_seg (S := (fun x_ => St w x_ [Res.box blk9 [Value.int .i64 0, Value.slice none 0 0] 44, Res.row (Value.slice A2 (List.length (ciaK (ys.map (con true)) e k)) c2) 3 1 (List.length (ciaK (ys.map (con true)) e k)) ((ciaK (ys.map (con true)) e k).map (Value.int .i64)), Res.box blk2 [Value.slice (some ⟨b, off, none⟩) a0n a0c] 32])) [(6, Value.int .i64 ((k : Nat) : Int))] [.no] True (by kernel_rfl) trivial hS8 ?_
    refine l_op rfl rfl (fun K hK => op_store (d := none) rfl rfl (i := 0) (b := blk9) (off := 0) (cs := [Value.int .i64 0, Value.slice none 0 0]) (bt := 44) (by kernel_rfl) (by kernel_rfl) [Value.int .i64 y.s, Value.slice y.A y.zs.length y.c] (by kernel_rfl) (by kernel_rfl) (Nat.le_of_ble_eq_true (by kernel_rfl)) (by kernel_rfl) [Res.box blk9 [Value.int .i64 y.s, Value.slice y.A y.zs.length y.c] 44, Res.row (Value.slice A2 (List.length (ciaK (ys.map (con true)) e k)) c2) 3 1 (List.length (ciaK (ys.map (con true)) e k)) ((ciaK (ys.map (con true)) e k).map (Value.int .i64)), Res.box blk2 [Value.slice (some ⟨b, off, none⟩) a0n a0c] 32] (by kernel_rfl) hS8 (fun w10 hS10 => hK _ _ ?_))
    clear hK K
    refine l_nil rfl ?_
    refine then_n ?_
    refine wp_seq ?_
    refine c_reg ?_
    refine q_seg (S := (fun x_ => St w x_ [Res.box blk9 [Value.int .i64 y.s, Value.slice y.A y.zs.length y.c] 44, Res.row (Value.slice A2 (List.length (ciaK (ys.map (con true)) e k)) c2) 3 1 (List.length (ciaK (ys.map (con true)) e k)) ((ciaK (ys.map (con true)) e k).map (Value.int .i64)), Res.box blk2 [Value.slice (some ⟨b, off, none⟩) a0n a0c] 32])) [(20, Value.bool (decide (y.s = e))), (19, Value.int .i64 e), (18, Value.int .i64 y.s), (17, Value.pointer (some ⟨blk9, 0 + 0, none⟩))] [.no, .v (Value.int .i64 y.s), .no, .no] ((LoadsAt Try.prog (fun x_ => St w x_ [Res.box blk9 [Value.int .i64 y.s, Value.slice y.A y.zs.length y.c] 44, Res.row (Value.slice A2 (List.length (ciaK (ys.map (con true)) e k)) c2) 3 1 (List.length (ciaK (ys.map (con true)) e k)) ((ciaK (ys.map (con true)) e k).map (Value.int .i64)), Res.box blk2 [Value.slice (some ⟨b, off, none⟩) a0n a0c] 32]) 3 ⟨blk9, 0 + 0, none⟩ (Value.int .i64 y.s))) (by kernel_rfl) (ld_box (i := 0) rfl rfl (by kernel_rfl)) hS10 ?_
    refine l_nil rfl ?_
    refine then_n ?_
    rcases Bool.eq_false_or_eq_true (decide (y.s = e)) with hb11 | hb11
    · skip
      have hb11p := of_decide_eq_true hb11
      refine c_true (b := (decide (y.s = e))) (by kernel_rfl) hb11 ?_
      refine c_reg ?_
      refine q_seg (S := (fun x_ => St w x_ [Res.box blk9 [Value.int .i64 y.s, Value.slice y.A y.zs.length y.c] 44, Res.row (Value.slice A2 (List.length (ciaK (ys.map (con true)) e k)) c2) 3 1 (List.length (ciaK (ys.map (con true)) e k)) ((ciaK (ys.map (con true)) e k).map (Value.int .i64)), Res.box blk2 [Value.slice (some ⟨b, off, none⟩) a0n a0c] 32])) [(22, Value.int .i64 ((k : Nat) : Int)), (21, Value.slice A2 (List.length (ciaK (ys.map (con true)) e k)) c2)] [.no, .no] True (by kernel_rfl) trivial hS10 ?_
      refine l_op rfl rfl (fun K hK => op_buildSlice (d := some 23) rfl rfl (e := 3) (by kernel_rfl) 1 (by kernel_rfl) (by decide) (by decide) [Value.int .i64 ((k : Nat) : Int)] (by kernel_rfl) rfl hS10 (fun blk13 w12 hS12 => hK _ _ ?_))
      clear hK K
      refine l_op rfl rfl (fun K hK => op_append (d := some 24) rfl rfl elInt hS12 (i := 2) rfl rfl rfl (news := [Value.int .i64 ((k : Nat) : Int)]) (hS12.rd (List.mem_of_getElem? (i := 0) rfl)) (all_one (by rfl)) (by omega) (by omega) (fun v15 w14 hS14 => hK _ _ ?_))
      clear hK K
      obtain ⟨hlv15, Av15, cv15, hvv15, hnv15, hmv15⟩ := hS14.row_slice (List.mem_of_getElem? (i := 2) rfl)
      subst hvv15
      refine q_seg (S := (fun x_ => St w x_ [Res.row (Value.slice (some ⟨blk13, 0, none⟩) 1 1) 3 1 1 ([Value.int .i64 ((k : Nat) : Int)]), Res.box blk9 [Value.int .i64 y.s, Value.slice y.A y.zs.length y.c] 44, Res.row (Value.slice Av15 ((List.length (ciaK (ys.map (con true)) e k)) + 1) cv15) 3 1 ((List.length (ciaK (ys.map (con true)) e k)) + 1) (((ciaK (ys.map (con true)) e k).map (Value.int .i64)) ++ [Value.int .i64 ((k : Nat) : Int)]), Res.box blk2 [Value.slice (some ⟨b, off, none⟩) a0n a0c] 32])) [(5, Value.slice Av15 ((List.length (ciaK (ys.map (con true)) e k)) + 1) cv15)] [.no] True (by kernel_rfl) trivial hS14 ?_
      refine l_nil rfl ?_
      refine blk_n ?_
      refine then_n ?_
      refine c_reg ?_
      refine q_seg (S := (fun x_ => St w x_ [Res.row (Value.slice (some ⟨blk13, 0, none⟩) 1 1) 3 1 1 ([Value.int .i64 ((k : Nat) : Int)]), Res.box blk9 [Value.int .i64 y.s, Value.slice y.A y.zs.length y.c] 44, Res.row (Value.slice Av15 ((List.length (ciaK (ys.map (con true)) e k)) + 1) cv15) 3 1 ((List.length (ciaK (ys.map (con true)) e k)) + 1) (((ciaK (ys.map (con true)) e k).map (Value.int .i64)) ++ [Value.int .i64 ((k : Nat) : Int)]), Res.box blk2 [Value.slice (some ⟨b, off, none⟩) a0n a0c] 32])) [(12, Value.int .i64 (((k : Nat) : Int) + (1 : Int))), (25, Value.int .i64 (((k : Nat) : Int) + (1 : Int)))] [.no, .no] ((InK .i64 (((k : Nat) : Int) + (1 : Int)))) (by kernel_rfl) (in64 (by omega) (by omega)) hS14 ?_
      refine l_nil rfl ?_
      refine then_n ?_
      have hcs := cia_t (con_get (p := true) hyk) hb11p
      have hS14s1 : St w w14 [Res.row (Value.slice Av15 ((List.length (ciaK (ys.map (con true)) e k)) + 1) cv15) 3 1 ((List.length (ciaK (ys.map (con true)) e k)) + 1) (((ciaK (ys.map (con true)) e k).map (Value.int .i64)) ++ [Value.int .i64 ((k : Nat) : Int)]), Res.box blk2 [Value.slice (some ⟨b, off, none⟩) a0n a0c] 32] := (hS14.sub (List.Sublist.cons _ (List.Sublist.cons _ (List.Sublist.cons_cons _ (List.Sublist.cons_cons _ List.Sublist.slnil)))))
      refine round_end ((k + 1, Av15, cv15)) ?_ ?_ ?_
      · exact (agree_cons (by kernel_rfl) (agree_eq (v0 := Value.slice Av15 ((List.length (ciaK (ys.map (con true)) e k)) + 1) cv15) (by kernel_rfl) (congrArg (fun m => Value.slice Av15 m cv15) (by rw [hcs]; simp)) (agree_cons (by kernel_rfl) (agree_cons (by kernel_rfl) (agree_cons (by kernel_rfl) agree_nil)))))
      · exact ⟨(by omega), (hS14s1.eqv (by rw [hcs]; simp))⟩
      · exact (by first | omega | (dsimp only; omega))
    · skip
      have hb11p := of_decide_eq_false hb11
      refine c_false (b := (decide (y.s = e))) (by kernel_rfl) hb11 ?_
      refine wp_skip ?_
      refine blk_n ?_
      refine then_n ?_
      refine c_reg ?_
      refine q_seg (S := (fun x_ => St w x_ [Res.box blk9 [Value.int .i64 y.s, Value.slice y.A y.zs.length y.c] 44, Res.row (Value.slice A2 (List.length (ciaK (ys.map (con true)) e k)) c2) 3 1 (List.length (ciaK (ys.map (con true)) e k)) ((ciaK (ys.map (con true)) e k).map (Value.int .i64)), Res.box blk2 [Value.slice (some ⟨b, off, none⟩) a0n a0c] 32])) [(12, Value.int .i64 (((k : Nat) : Int) + (1 : Int))), (25, Value.int .i64 (((k : Nat) : Int) + (1 : Int)))] [.no, .no] ((InK .i64 (((k : Nat) : Int) + (1 : Int)))) (by kernel_rfl) (in64 (by omega) (by omega)) hS10 ?_
      refine l_nil rfl ?_
      refine then_n ?_
      have hcs := cia_f (con_get (p := true) hyk) hb11p
      have hS10s2 : St w w10 [Res.row (Value.slice A2 (List.length (ciaK (ys.map (con true)) e k)) c2) 3 1 (List.length (ciaK (ys.map (con true)) e k)) ((ciaK (ys.map (con true)) e k).map (Value.int .i64)), Res.box blk2 [Value.slice (some ⟨b, off, none⟩) a0n a0c] 32] := (hS10.sub (List.Sublist.cons _ (List.Sublist.cons_cons _ (List.Sublist.cons_cons _ List.Sublist.slnil))))
      refine round_end ((k + 1, A2, c2)) ?_ ?_ ?_
      · exact (agree_cons (by kernel_rfl) (agree_eq (v0 := Value.slice A2 (List.length (ciaK (ys.map (con true)) e k)) c2) (by kernel_rfl) (congrArg (fun m => Value.slice A2 m c2) (by rw [hcs])) (agree_cons (by kernel_rfl) (agree_cons (by kernel_rfl) (agree_cons (by kernel_rfl) agree_nil)))))
      · exact ⟨(by omega), (hS10s2.eqv (by rw [hcs]))⟩
      · exact (by first | omega | (dsimp only; omega))
  · skip
    have hb7p := of_decide_eq_false hb7
    refine c_false (b := (decide (((k : Nat) : Int) < ((a0n : Nat) : Int)))) (by kernel_rfl) hb7 ?_
    refine wp_exit ?_
    refine then_x ?_
    refine then_x ?_
    refine blk_hit ?_
    refine then_n ?_
    refine wp_seq ?_
    refine c_reg ?_
    refine q_seg (S := (fun x_ => St w x_ [Res.row (Value.slice A2 (List.length (ciaK (ys.map (con true)) e k)) c2) 3 1 (List.length (ciaK (ys.map (con true)) e k)) ((ciaK (ys.map (con true)) e k).map (Value.int .i64)), Res.box blk2 [Value.slice a0A a0n a0c] 32])) [(4, Value.slice A2 (List.length (ciaK (ys.map (con true)) e k)) c2), (26, Value.slice A2 (List.length (ciaK (ys.map (con true)) e k)) c2)] [.no, .no] True (by kernel_rfl) trivial hS5 ?_
    refine l_nil rfl ?_
    refine then_n ?_
    refine wp_ret ?_
    have hS5s3 : St w w5 [Res.row (Value.slice A2 (List.length (ciaK (ys.map (con true)) e k)) c2) 3 1 (List.length (ciaK (ys.map (con true)) e k)) ((ciaK (ys.map (con true)) e k).map (Value.int .i64))] := (hS5.sub (List.Sublist.cons_cons _ (List.Sublist.cons _ List.Sublist.slnil)))
    have hkn2 : k = a0n := by omega
    have hce : ciaK (ys.map (con true)) e k = cia (ys.map (con true)) e := by rw [cia, hLn, hkn2]
    exact c_end (S := (fun x_ => St w x_ [Res.row (Value.slice A2 (List.length (ciaK (ys.map (con true)) e k)) c2) 3 1 (List.length (ciaK (ys.map (con true)) e k)) ((ciaK (ys.map (con true)) e k).map (Value.int .i64)), Res.box blk2 [Value.slice a0A a0n a0c] 32])) (rs := [.tmp 4]) rfl [] (v := Value.slice A2 (List.length (ciaK (ys.map (con true)) e k)) c2) (C := True) (by kernel_rfl) trivial hS5 ((hS5s3.eqv (by rw [hce])).rt ⟨_, _, by rw [hce], rfl⟩)
theorem CellsInArea_s_c (a0A : Option Addr) (a0n a0c : Nat) (a0L : List (Int × List Int)) (e : Int) (w : World) (a0h : RdL .i64 true w w.heap.size a0A a0n a0L) (a0w : wt a0L ≤ 1099511627776) : Calls Try.prog 19 #[Value.agg #[Value.slice a0A a0n a0c], .int .i64 e] w (Ret w (fun v new => ∃ (A_ : Option Addr) (c_ : Nat), v = .slice A_ ((cia a0L e)).length c_ ∧ new = [.row (.slice A_ ((cia a0L e)).length c_) 3 1 ((cia a0L e)).length (((cia a0L e)).map (.int .i64))])) := by
  obtain ⟨hok, ys, hr, rfl⟩ := a0h
  have hwl := wt_len (ys.map (con true))
  have hln := hr.len
  rw [List.length_map] at hwl
  have hLn : (ys.map (con true)).length = a0n := by rw [List.length_map]; exact hln
  refine calls_FA Try.func19 rfl (n := 28) rfl (l := [(0, Value.agg #[Value.slice a0A a0n a0c]), (1, Value.int .i64 e)]) rfl (by simp) (fun g => ?_)
  have hS := St.init w
  refine wp_seq ?_
  refine c_reg ?_
  refine l_op rfl rfl (fun K hK => op_box (d := some 2) rfl rfl [Value.slice a0A a0n a0c] (by kernel_rfl) hS (fun blk2 w1 hS1 => hK _ _ ?_))
  clear hK K
  refine q_seg (S := (fun x_ => St w x_ [Res.box blk2 [Value.slice a0A a0n a0c] 32])) [(4, Value.slice none 0 0)] [.no] True (by kernel_rfl) trivial hS1 ?_
  refine l_nil rfl ?_
  refine then_n ?_
  refine wp_seq ?_
  refine c_reg ?_
  refine l_op rfl rfl (fun K hK => op_buildSlice (d := some 7) rfl rfl (e := 3) (by kernel_rfl) 1 (by kernel_rfl) (by decide) (by decide) [] (by kernel_rfl) rfl hS1 (fun blk4 w3 hS3 => hK _ _ ?_))
  clear hK K
  refine q_seg (S := (fun x_ => St w x_ [Res.row (Value.slice (some ⟨blk4, 0, none⟩) 0 0) 3 1 0 ([]), Res.box blk2 [Value.slice a0A a0n a0c] 32])) [(5, Value.slice (some ⟨blk4, 0, none⟩) 0 0)] [.no] True (by kernel_rfl) trivial hS3 ?_
  refine l_nil rfl ?_
  refine then_n ?_
  refine wp_seq ?_
  refine wp_seq ?_
  refine c_reg ?_
  refine q_seg (S := (fun x_ => St w x_ [Res.row (Value.slice (some ⟨blk4, 0, none⟩) 0 0) 3 1 0 ([]), Res.box blk2 [Value.slice a0A a0n a0c] 32])) [(6, Value.int .i64 0)] [.no] True (by kernel_rfl) trivial hS3 ?_
  refine l_nil rfl ?_
  refine then_n ?_
  refine wp_block ?_
  refine c_loop (X := Nat × Option Addr × Nat) (fun (x_ : Nat × Option Addr × Nat) => match x_ with | (k, A2, c2) => [(1, Value.int .i64 e), (2, Value.pointer (some ⟨blk2, 0, none⟩)), (5, Value.slice A2 (List.length (ciaK (ys.map (con true)) e k)) c2), (6, Value.int .i64 ((k : Nat) : Int))]) (fun (x_ : Nat × Option Addr × Nat) (wr : World) => match x_ with | (k, A2, c2) => (k ≤ a0n) ∧ St w wr [Res.row (Value.slice A2 (List.length (ciaK (ys.map (con true)) e k)) c2) 3 1 (List.length (ciaK (ys.map (con true)) e k)) ((ciaK (ys.map (con true)) e k).map (Value.int .i64)), Res.box blk2 [Value.slice a0A a0n a0c] 32]) (fun (x_ : Nat × Option Addr × Nat) => match x_ with | (k, A2, c2) => a0n - k) ((0, (some ⟨blk4, 0, none⟩), 0)) ?_ ?_ ?_
  · exact (agree_cons (by kernel_rfl) (agree_cons (by kernel_rfl) (agree_cons (by kernel_rfl) (agree_cons (by kernel_rfl) agree_nil))))
  · exact ⟨Nat.zero_le _, ((hS3.sub (List.Sublist.cons_cons _ (List.Sublist.cons_cons _ List.Sublist.slnil))))⟩
  rintro ⟨k, A2, c2⟩ g6 w5 ⟨hkn, hS5⟩
  have hcl := cia_len (ys.map (con true)) e k
  refine wp_seq ?_
  refine wp_seq ?_
  refine c_reg ?_
  refine q_seg (S := (fun x_ => St w x_ [Res.row (Value.slice A2 (List.length (ciaK (ys.map (con true)) e k)) c2) 3 1 (List.length (ciaK (ys.map (con true)) e k)) ((ciaK (ys.map (con true)) e k).map (Value.int .i64)), Res.box blk2 [Value.slice a0A a0n a0c] 32])) [(12, Value.bool (decide (((k : Nat) : Int) < ((a0n : Nat) : Int)))), (11, Value.int .i64 ((a0n : Nat) : Int)), (10, Value.slice a0A a0n a0c), (9, Value.pointer (some ⟨blk2, 0 + 0, none⟩)), (8, Value.int .i64 ((k : Nat) : Int))] [.no, .no, .v (Value.slice a0A a0n a0c), .no, .no] ((LoadsAt Try.prog (fun x_ => St w x_ [Res.row (Value.slice A2 (List.length (ciaK (ys.map (con true)) e k)) c2) 3 1 (List.length (ciaK (ys.map (con true)) e k)) ((ciaK (ys.map (con true)) e k).map (Value.int .i64)), Res.box blk2 [Value.slice a0A a0n a0c] 32]) 30 ⟨blk2, 0 + 0, none⟩ (Value.slice a0A a0n a0c))) (by kernel_rfl) (ld_box (i := 1) rfl rfl (by kernel_rfl)) hS5 ?_
  refine l_nil rfl ?_
  refine then_n ?_
  rcases Bool.eq_false_or_eq_true (decide (((k : Nat) : Int) < ((a0n : Nat) : Int))) with hb7 | hb7
  · skip
    have hb7p := of_decide_eq_true hb7
    obtain ⟨b, off, rfl, hbB, hcl⟩ := hr.at (k := k) (by omega)
    obtain ⟨y, hyk, hym⟩ := get_of_lt (l := ys) (k := k) (by have := hr.len; omega)
    obtain ⟨hy1, hy2, hy3⟩ := hr.el y hym
    obtain ⟨hyi, hyz⟩ := hok _ (List.mem_map_of_mem (f := (con true)) hym)
    have hyl : y.zs.length + 1 ≤ wt (ys.map (con true)) := wt_mem (List.mem_map_of_mem (f := (con true)) hym)
    refine c_true (b := (decide (((k : Nat) : Int) < ((a0n : Nat) : Int)))) (by kernel_rfl) hb7 ?_
    refine wp_skip ?_
    refine then_n ?_
    refine wp_seq ?_
    refine wp_block ?_
    refine wp_seq ?_
    refine c_reg ?_
    refine q_seg (S := (fun x_ => St w x_ [Res.row (Value.slice A2 (List.length (ciaK (ys.map (con true)) e k)) c2) 3 1 (List.length (ciaK (ys.map (con true)) e k)) ((ciaK (ys.map (con true)) e k).map (Value.int .i64)), Res.box blk2 [Value.slice (some ⟨b, off, none⟩) a0n a0c] 32])) [(22, Value.bool (decide (y.s = e))), (21, Value.int .i64 e), (20, Value.int .i64 y.s), (19, Value.pointer (some ⟨b, off + Int.toNat ((k : Nat) : Int) * 2 + 0, none⟩)), (18, Value.pointer (some ⟨b, off + Int.toNat ((k : Nat) : Int) * 2, none⟩)), (17, Value.int .i64 ((k : Nat) : Int)), (16, Value.slice (some ⟨b, off, none⟩) a0n a0c), (15, Value.pointer (some ⟨blk2, 0 + 0, none⟩))] [.no, .v (Value.slice (some ⟨b, off, none⟩) a0n a0c), .no, .no, .no, .v (Value.int .i64 y.s), .no, .no] ((LoadsAt Try.prog (fun x_ => St w x_ [Res.row (Value.slice A2 (List.length (ciaK (ys.map (con true)) e k)) c2) 3 1 (List.length (ciaK (ys.map (con true)) e k)) ((ciaK (ys.map (con true)) e k).map (Value.int .i64)), Res.box blk2 [Value.slice (some ⟨b, off, none⟩) a0n a0c] 32]) 30 ⟨blk2, 0 + 0, none⟩ (Value.slice (some ⟨b, off, none⟩) a0n a0c)) ∧ ((0 : Int) ≤ ((k : Nat) : Int)) ∧ (((k : Nat) : Int) < ((a0n : Nat) : Int)) ∧ (LoadsAt Try.prog (fun x_ => St w x_ [Res.row (Value.slice A2 (List.length (ciaK (ys.map (con true)) e k)) c2) 3 1 (List.length (ciaK (ys.map (con true)) e k)) ((ciaK (ys.map (con true)) e k).map (Value.int .i64)), Res.box blk2 [Value.slice (some ⟨b, off, none⟩) a0n a0c] 32]) 3 ⟨b, off + Int.toNat ((k : Nat) : Int) * 2 + 0, none⟩ (Value.int .i64 y.s))) (by kernel_rfl) ⟨(ld_box (i := 1) rfl rfl (by kernel_rfl)), (by omega), (by omega), (ld_low (flat_cell (p := true) (r := 0) hcl hyk rfl) (by kernel_rfl))⟩ hS5 ?_
    refine l_nil rfl ?_
    refine then_n ?_
    rcases Bool.eq_false_or_eq_true (decide (y.s = e)) with hb8 | hb8
    · skip
      have hb8p := of_decide_eq_true hb8
      refine c_true (b := (decide (y.s = e))) (by kernel_rfl) hb8 ?_
      refine c_reg ?_
      refine q_seg (S := (fun x_ => St w x_ [Res.row (Value.slice A2 (List.length (ciaK (ys.map (con true)) e k)) c2) 3 1 (List.length (ciaK (ys.map (con true)) e k)) ((ciaK (ys.map (con true)) e k).map (Value.int .i64)), Res.box blk2 [Value.slice (some ⟨b, off, none⟩) a0n a0c] 32])) [(24, Value.int .i64 ((k : Nat) : Int)), (23, Value.slice A2 (List.length (ciaK (ys.map (con true)) e k)) c2)] [.no, .no] True (by kernel_rfl) trivial hS5 ?_
      refine l_op rfl rfl (fun K hK => op_buildSlice (d := some 25) rfl rfl (e := 3) (by kernel_rfl) 1 (by kernel_rfl) (by decide) (by decide) [Value.int .i64 ((k : Nat) : Int)] (by kernel_rfl) rfl hS5 (fun blk10 w9 hS9 => hK _ _ ?_))
      clear hK K
      refine l_op rfl rfl (fun K hK => op_append (d := some 26) rfl rfl elInt hS9 (i := 1) rfl rfl rfl (news := [Value.int .i64 ((k : Nat) : Int)]) (hS9.rd (List.mem_of_getElem? (i := 0) rfl)) (all_one (by rfl)) (by omega) (by omega) (fun v12 w11 hS11 => hK _ _ ?_))
      clear hK K
      obtain ⟨hlv12, Av12, cv12, hvv12, hnv12, hmv12⟩ := hS11.row_slice (List.mem_of_getElem? (i := 1) rfl)
      subst hvv12
      refine q_seg (S := (fun x_ => St w x_ [Res.row (Value.slice (some ⟨blk10, 0, none⟩) 1 1) 3 1 1 ([Value.int .i64 ((k : Nat) : Int)]), Res.row (Value.slice Av12 ((List.length (ciaK (ys.map (con true)) e k)) + 1) cv12) 3 1 ((List.length (ciaK (ys.map (con true)) e k)) + 1) (((ciaK (ys.map (con true)) e k).map (Value.int .i64)) ++ [Value.int .i64 ((k : Nat) : Int)]), Res.box blk2 [Value.slice (some ⟨b, off, none⟩) a0n a0c] 32])) [(5, Value.slice Av12 ((List.length (ciaK (ys.map (con true)) e k)) + 1) cv12)] [.no] True (by kernel_rfl) trivial hS11 ?_
      refine l_nil rfl ?_
      refine blk_n ?_
      refine then_n ?_
      refine c_reg ?_
      refine q_seg (S := (fun x_ => St w x_ [Res.row (Value.slice (some ⟨blk10, 0, none⟩) 1 1) 3 1 1 ([Value.int .i64 ((k : Nat) : Int)]), Res.row (Value.slice Av12 ((List.length (ciaK (ys.map (con true)) e k)) + 1) cv12) 3 1 ((List.length (ciaK (ys.map (con true)) e k)) + 1) (((ciaK (ys.map (con true)) e k).map (Value.int .i64)) ++ [Value.int .i64 ((k : Nat) : Int)]), Res.box blk2 [Value.slice (some ⟨b, off, none⟩) a0n a0c] 32])) [(6, Value.int .i64 (((k : Nat) : Int) + (1 : Int))), (14, Value.int .i64 (((k : Nat) : Int) + (1 : Int))), (13, Value.int .i64 ((k : Nat) : Int))] [.no, .no, .no] ((InK .i64 (((k : Nat) : Int) + (1 : Int)))) (by kernel_rfl) (in64 (by omega) (by omega)) hS11 ?_
      refine l_nil rfl ?_
      refine then_n ?_
      have hcs := cia_t (con_get (p := true) hyk) hb8p
      have hS11s1 : St w w11 [Res.row (Value.slice Av12 ((List.length (ciaK (ys.map (con true)) e k)) + 1) cv12) 3 1 ((List.length (ciaK (ys.map (con true)) e k)) + 1) (((ciaK (ys.map (con true)) e k).map (Value.int .i64)) ++ [Value.int .i64 ((k : Nat) : Int)]), Res.box blk2 [Value.slice (some ⟨b, off, none⟩) a0n a0c] 32] := (hS11.sub (List.Sublist.cons _ (List.Sublist.cons_cons _ (List.Sublist.cons_cons _ List.Sublist.slnil))))
      refine round_end ((k + 1, Av12, cv12)) ?_ ?_ ?_
      · exact (agree_cons (by kernel_rfl) (agree_cons (by kernel_rfl) (agree_eq (v0 := Value.slice Av12 ((List.length (ciaK (ys.map (con true)) e k)) + 1) cv12) (by kernel_rfl) (congrArg (fun m => Value.slice Av12 m cv12) (by rw [hcs]; simp)) (agree_cons (by kernel_rfl) agree_nil))))
      · exact ⟨(by omega), (hS11s1.eqv (by rw [hcs]; simp))⟩
      · exact (by first | omega | (dsimp only; omega))
    · skip
      have hb8p := of_decide_eq_false hb8
      refine c_false (b := (decide (y.s = e))) (by kernel_rfl) hb8 ?_
      refine wp_skip ?_
      refine blk_n ?_
      refine then_n ?_
      refine c_reg ?_
      refine q_seg (S := (fun x_ => St w x_ [Res.row (Value.slice A2 (List.length (ciaK (ys.map (con true)) e k)) c2) 3 1 (List.length (ciaK (ys.map (con true)) e k)) ((ciaK (ys.map (con true)) e k).map (Value.int .i64)), Res.box blk2 [Value.slice (some ⟨b, off, none⟩) a0n a0c] 32])) [(6, Value.int .i64 (((k : Nat) : Int) + (1 : Int))), (14, Value.int .i64 (((k : Nat) : Int) + (1 : Int))), (13, Value.int .i64 ((k : Nat) : Int))] [.no, .no, .no] ((InK .i64 (((k : Nat) : Int) + (1 : Int)))) (by kernel_rfl) (in64 (by omega) (by omega)) hS5 ?_
      refine l_nil rfl ?_
      refine then_n ?_
      have hcs := cia_f (con_get (p := true) hyk) hb8p
      refine round_end ((k + 1, A2, c2)) ?_ ?_ ?_
      · exact (agree_cons (by kernel_rfl) (agree_cons (by kernel_rfl) (agree_eq (v0 := Value.slice A2 (List.length (ciaK (ys.map (con true)) e k)) c2) (by kernel_rfl) (congrArg (fun m => Value.slice A2 m c2) (by rw [hcs])) (agree_cons (by kernel_rfl) agree_nil))))
      · exact ⟨(by omega), (hS5.eqv (by rw [hcs]))⟩
      · exact (by first | omega | (dsimp only; omega))
  · skip
    have hb7p := of_decide_eq_false hb7
    refine c_false (b := (decide (((k : Nat) : Int) < ((a0n : Nat) : Int)))) (by kernel_rfl) hb7 ?_
    refine wp_exit ?_
    refine then_x ?_
    refine then_x ?_
    refine blk_hit ?_
    refine then_n ?_
    refine wp_seq ?_
    refine c_reg ?_
    refine q_seg (S := (fun x_ => St w x_ [Res.row (Value.slice A2 (List.length (ciaK (ys.map (con true)) e k)) c2) 3 1 (List.length (ciaK (ys.map (con true)) e k)) ((ciaK (ys.map (con true)) e k).map (Value.int .i64)), Res.box blk2 [Value.slice a0A a0n a0c] 32])) [(4, Value.slice A2 (List.length (ciaK (ys.map (con true)) e k)) c2), (27, Value.slice A2 (List.length (ciaK (ys.map (con true)) e k)) c2)] [.no, .no] True (by kernel_rfl) trivial hS5 ?_
    refine l_nil rfl ?_
    refine then_n ?_
    refine wp_ret ?_
    have hS5s2 : St w w5 [Res.row (Value.slice A2 (List.length (ciaK (ys.map (con true)) e k)) c2) 3 1 (List.length (ciaK (ys.map (con true)) e k)) ((ciaK (ys.map (con true)) e k).map (Value.int .i64))] := (hS5.sub (List.Sublist.cons_cons _ (List.Sublist.cons _ List.Sublist.slnil)))
    have hkn2 : k = a0n := by omega
    have hce : ciaK (ys.map (con true)) e k = cia (ys.map (con true)) e := by rw [cia, hLn, hkn2]
    exact c_end (S := (fun x_ => St w x_ [Res.row (Value.slice A2 (List.length (ciaK (ys.map (con true)) e k)) c2) 3 1 (List.length (ciaK (ys.map (con true)) e k)) ((ciaK (ys.map (con true)) e k).map (Value.int .i64)), Res.box blk2 [Value.slice a0A a0n a0c] 32])) (rs := [.tmp 4]) rfl [] (v := Value.slice A2 (List.length (ciaK (ys.map (con true)) e k)) c2) (C := True) (by kernel_rfl) trivial hS5 ((hS5s2.eqv (by rw [hce])).rt ⟨_, _, by rw [hce], rfl⟩)
theorem PagingCells_i_c (a0A : Option Addr) (a0n a0c : Nat) (a0L : List (Int × List Int)) (e t : Int) (w : World) (a0h : RdL .i64 true w w.heap.size a0A a0n a0L) (a0w : wt a0L ≤ 1099511627776) : Calls Try.prog 16 #[Value.agg #[Value.slice a0A a0n a0c], .int .i64 e, .int .i64 t] w (Ret w (fun v new => ∃ (A_ : Option Addr) (c_ : Nat), v = .slice A_ ((pcells a0L e t)).length c_ ∧ new = [.row (.slice A_ ((pcells a0L e t)).length c_) 3 1 ((pcells a0L e t)).length (((pcells a0L e t)).map (.int .i64))])) := by
  have a0l := a0h.len
  have a0v := wt_len a0L
  have hcil := cia_len a0L e a0L.length
  refine calls_FA Try.func16 rfl (n := 38) rfl (l := [(0, Value.agg #[Value.slice a0A a0n a0c]), (1, Value.int .i64 e), (2, Value.int .i64 t)]) rfl (by simp) (fun g => ?_)
  have hS := St.init w
  refine wp_seq ?_
  refine c_reg ?_
  refine l_op rfl rfl (fun K hK => op_box (d := some 3) rfl rfl [Value.slice a0A a0n a0c] (by kernel_rfl) hS (fun blk2 w1 hS1 => hK _ _ ?_))
  clear hK K
  refine q_seg (S := (fun x_ => St w x_ [Res.box blk2 [Value.slice a0A a0n a0c] 32])) [(6, Value.slice none 0 0)] [.no] True (by kernel_rfl) trivial hS1 ?_
  refine l_nil rfl ?_
  refine then_n ?_
  refine wp_seq ?_
  refine wp_seq ?_
  refine c_reg ?_
  refine q_seg (S := (fun x_ => St w x_ [Res.box blk2 [Value.slice a0A a0n a0c] 32])) [(10, Value.int .i64 t)] [.no] True (by kernel_rfl) trivial hS1 ?_
  refine l_op rfl rfl (fun K hK => op_callv (d := some 11) rfl rfl ⟨_, Try.func33, by kernel_rfl, by kernel_rfl⟩ (vs := [Value.int .i64 t, Value.int .i64 1, Value.int .i64 4]) (by kernel_rfl) (v := Value.bool (inR t 1 4)) (InRange_c t 1 4 _) hS1 (fun w3 hS3 => hK _ _ ?_))
  clear hK K
  refine q_seg (S := (fun x_ => St w x_ [Res.box blk2 [Value.slice a0A a0n a0c] 32])) [(12, Value.bool (!(inR t 1 4)))] [.no] True (by kernel_rfl) trivial hS3 ?_
  refine l_nil rfl ?_
  refine then_n ?_
  rcases Bool.eq_false_or_eq_true (inR t 1 4) with hb4 | hb4
  · skip
    obtain ⟨hb4p, hb4q⟩ := inR_iff.1 hb4
    refine c_false (b := (!(inR t 1 4))) (by kernel_rfl) (nb (v := true) hb4) ?_
    refine wp_skip ?_
    refine then_n ?_
    refine wp_seq ?_
    refine wp_seq ?_
    refine c_reg ?_
    refine q_seg (S := (fun x_ => St w x_ [Res.box blk2 [Value.slice a0A a0n a0c] 32])) [(15, Value.bool (decide (t = (1 : Int)))), (14, Value.int .i64 t)] [.no, .no] True (by kernel_rfl) trivial hS3 ?_
    refine l_nil rfl ?_
    refine then_n ?_
    rcases Bool.eq_false_or_eq_true (decide (t = (1 : Int))) with hb5 | hb5
    · skip
      have hb5p := of_decide_eq_true hb5
      refine c_true (b := (decide (t = (1 : Int)))) (by kernel_rfl) hb5 ?_
      refine wp_seq ?_
      refine c_reg ?_
      refine q_seg (S := (fun x_ => St w x_ [Res.box blk2 [Value.slice a0A a0n a0c] 32])) [(17, Value.int .i64 e), (16, Value.agg #[Value.slice a0A a0n a0c])] [.v (Value.agg #[Value.slice a0A a0n a0c]), .no] ((LoadsAt Try.prog (fun x_ => St w x_ [Res.box blk2 [Value.slice a0A a0n a0c] 32]) 32 ⟨blk2, 0, none⟩ (Value.agg #[Value.slice a0A a0n a0c]))) (by kernel_rfl) (ld_boxN (i := 0) (k := 1) rfl rfl rfl (by kernel_rfl)) hS3 ?_
      refine l_op rfl rfl (fun K hK => op_call (d := some 18) rfl rfl ⟨_, Try.func37, by kernel_rfl, by kernel_rfl⟩ (vs := [Value.agg #[Value.slice a0A a0n a0c], Value.int .i64 e]) (by kernel_rfl) (CellsInArea_i_c a0A a0n a0c a0L e w3 (hS3.rdllow a0h) (by omega)) hS3 (fun v7 new8 w6 Rw6 hS6 => hK _ _ ?_))
      clear hK K
      obtain ⟨Aq9, cq10, rfl, rfl⟩ := Rw6
      refine q_seg (S := (fun x_ => St w x_ [Res.row (Value.slice Aq9 (List.length (cia a0L e)) cq10) 3 1 (List.length (cia a0L e)) ((cia a0L e).map (Value.int .i64)), Res.box blk2 [Value.slice a0A a0n a0c] 32])) [(7, Value.slice Aq9 (List.length (cia a0L e)) cq10)] [.no] True (by kernel_rfl) trivial hS6 ?_
      refine l_nil rfl ?_
      refine then_n ?_
      refine wp_seq ?_
      refine c_reg ?_
      refine q_seg (S := (fun x_ => St w x_ [Res.row (Value.slice Aq9 (List.length (cia a0L e)) cq10) 3 1 (List.length (cia a0L e)) ((cia a0L e).map (Value.int .i64)), Res.box blk2 [Value.slice a0A a0n a0c] 32])) [(21, Value.bool (decide ((0 : Int) < (((List.length (cia a0L e)) : Nat) : Int)))), (20, Value.int .i64 (((List.length (cia a0L e)) : Nat) : Int)), (19, Value.slice Aq9 (List.length (cia a0L e)) cq10)] [.no, .no, .no] True (by kernel_rfl) trivial hS6 ?_
      refine l_nil rfl ?_
      refine then_n ?_
      rcases Bool.eq_false_or_eq_true (decide ((0 : Int) < (((List.length (cia a0L e)) : Nat) : Int))) with hb11 | hb11
      · skip
        have hb11p := of_decide_eq_true hb11
        refine c_true (b := (decide ((0 : Int) < (((List.length (cia a0L e)) : Nat) : Int)))) (by kernel_rfl) hb11 ?_
        refine wp_seq ?_
        refine c_reg ?_
        refine q_seg (S := (fun x_ => St w x_ [Res.row (Value.slice Aq9 (List.length (cia a0L e)) cq10) 3 1 (List.length (cia a0L e)) ((cia a0L e).map (Value.int .i64)), Res.box blk2 [Value.slice a0A a0n a0c] 32])) [(6, Value.slice Aq9 (List.length (cia a0L e)) cq10), (22, Value.slice Aq9 (List.length (cia a0L e)) cq10)] [.no, .no] True (by kernel_rfl) trivial hS6 ?_
        refine l_nil rfl ?_
        refine then_n ?_
        refine wp_ret ?_
        refine then_r ?_
        have hS6s1 : St w w6 [Res.row (Value.slice Aq9 (List.length (cia a0L e)) cq10) 3 1 (List.length (cia a0L e)) ((cia a0L e).map (Value.int .i64))] := (hS6.sub (List.Sublist.cons_cons _ (List.Sublist.cons _ List.Sublist.slnil)))
        have hpc : pcells a0L e t = (cia a0L e) := by rw [pcells, hb4, cond_true, decide_eq_true hb5p, decide_eq_true (show 0 < (cia a0L e).length by omega)]; rfl
        exact c_end (S := (fun x_ => St w x_ [Res.row (Value.slice Aq9 (List.length (cia a0L e)) cq10) 3 1 (List.length (cia a0L e)) ((cia a0L e).map (Value.int .i64)), Res.box blk2 [Value.slice a0A a0n a0c] 32])) (rs := [.tmp 6]) rfl [] (v := Value.slice Aq9 (List.length (cia a0L e)) cq10) (C := True) (by kernel_rfl) trivial hS6 ((hS6s1.eqv (by simp [hpc, upto_length])).rt ⟨Aq9, cq10, by simp [hpc, upto_length], rfl⟩)
      · skip
        have hb11p := of_decide_eq_false hb11
        refine c_false (b := (decide ((0 : Int) < (((List.length (cia a0L e)) : Nat) : Int)))) (by kernel_rfl) hb11 ?_
        refine wp_skip ?_
        refine then_n ?_
        refine wp_seq ?_
        refine c_reg ?_
        refine q_seg (S := (fun x_ => St w x_ [Res.row (Value.slice Aq9 (List.length (cia a0L e)) cq10) 3 1 (List.length (cia a0L e)) ((cia a0L e).map (Value.int .i64)), Res.box blk2 [Value.slice a0A a0n a0c] 32])) [(25, Value.int .i64 ((a0n : Nat) : Int)), (24, Value.slice a0A a0n a0c), (23, Value.pointer (some ⟨blk2, 0 + 0, none⟩))] [.no, .v (Value.slice a0A a0n a0c), .no] ((LoadsAt Try.prog (fun x_ => St w x_ [Res.row (Value.slice Aq9 (List.length (cia a0L e)) cq10) 3 1 (List.length (cia a0L e)) ((cia a0L e).map (Value.int .i64)), Res.box blk2 [Value.slice a0A a0n a0c] 32]) 30 ⟨blk2, 0 + 0, none⟩ (Value.slice a0A a0n a0c))) (by kernel_rfl) (ld_box (i := 1) rfl rfl (by kernel_rfl)) hS6 ?_
        refine l_op rfl rfl (fun K hK => op_make (d := some 26) rfl rfl (e := 3) (by kernel_rfl) [Value.int .i64 0] (by kernel_rfl) 1 (by kernel_rfl) 8 (by kernel_rfl) a0n a0n (kl := .i64) (kc := .i64) (by kernel_rfl) (by kernel_rfl) (by omega) (by omega) (by unfold maxLen; omega) hS6 (fun blk13 w12 hS12 => hK _ _ ?_))
        clear hK K
        refine q_seg (S := (fun x_ => St w x_ [Res.row (Value.slice (some ⟨blk13, 0, none⟩) a0n a0n) 3 1 a0n (zrow [Value.int .i64 0] (a0n * 1)), Res.row (Value.slice Aq9 (List.length (cia a0L e)) cq10) 3 1 (List.length (cia a0L e)) ((cia a0L e).map (Value.int .i64)), Res.box blk2 [Value.slice a0A a0n a0c] 32])) [(8, Value.slice (some ⟨blk13, 0, none⟩) a0n a0n)] [.no] True (by kernel_rfl) trivial hS12 ?_
        refine l_nil rfl ?_
        refine then_n ?_
        refine wp_seq ?_
        refine wp_seq ?_
        refine c_reg ?_
        refine q_seg (S := (fun x_ => St w x_ [Res.row (Value.slice (some ⟨blk13, 0, none⟩) a0n a0n) 3 1 a0n (zrow [Value.int .i64 0] (a0n * 1)), Res.row (Value.slice Aq9 (List.length (cia a0L e)) cq10) 3 1 (List.length (cia a0L e)) ((cia a0L e).map (Value.int .i64)), Res.box blk2 [Value.slice a0A a0n a0c] 32])) [(29, Value.int .i64 0), (28, Value.int .i64 ((a0n : Nat) : Int)), (27, Value.slice (some ⟨blk13, 0, none⟩) a0n a0n)] [.no, .no, .no] True (by kernel_rfl) trivial hS12 ?_
        refine l_nil rfl ?_
        refine then_n ?_
        refine wp_block ?_
        refine c_loop (X := Nat) (fun (k : Nat) => [(8, Value.slice (some ⟨blk13, 0, none⟩) a0n a0n), (28, Value.int .i64 ((a0n : Nat) : Int)), (29, Value.int .i64 ((k : Nat) : Int))]) (fun (k : Nat) (wr : World) => (k ≤ a0n) ∧ St w wr [Res.row (Value.slice (some ⟨blk13, 0, none⟩) a0n a0n) 3 1 a0n (((upto a0n).take k).map (Value.int .i64) ++ List.replicate (a0n - k) (Value.int .i64 0)), Res.row (Value.slice Aq9 (List.length (cia a0L e)) cq10) 3 1 (List.length (cia a0L e)) ((cia a0L e).map (Value.int .i64)), Res.box blk2 [Value.slice a0A a0n a0c] 32]) (fun (k : Nat) => a0n - k) 0 ?_ ?_ ?_
        · exact (agree_cons (by kernel_rfl) (agree_cons (by kernel_rfl) (agree_cons (by kernel_rfl) agree_nil)))
        · exact ⟨Nat.zero_le _, (hS12.eqv (by simp [zrow_one]))⟩
        rintro k g15 w14 ⟨hkn, hS14⟩
        refine wp_seq ?_
        refine c_reg ?_
        refine q_seg (S := (fun x_ => St w x_ [Res.row (Value.slice (some ⟨blk13, 0, none⟩) a0n a0n) 3 1 a0n (((upto a0n).take k).map (Value.int .i64) ++ List.replicate (a0n - k) (Value.int .i64 0)), Res.row (Value.slice Aq9 (List.length (cia a0L e)) cq10) 3 1 (List.length (cia a0L e)) ((cia a0L e).map (Value.int .i64)), Res.box blk2 [Value.slice a0A a0n a0c] 32])) [(30, Value.bool (decide (((k : Nat) : Int) < ((a0n : Nat) : Int))))] [.no] True (by kernel_rfl) trivial hS14 ?_
        refine l_nil rfl ?_
        refine then_n ?_
        refine wp_seq ?_
        rcases Bool.eq_false_or_eq_true (decide (((k : Nat) : Int) < ((a0n : Nat) : Int))) with hb16 | hb16
        · skip
          have hb16p := of_decide_eq_true hb16
          have hb_lt : k < a0n := by omega
          refine c_true (b := (decide (((k : Nat) : Int) < ((a0n : Nat) : Int)))) (by kernel_rfl) hb16 ?_
          refine wp_skip ?_
          refine then_n ?_
          refine wp_seq ?_
          refine wp_block ?_
          refine wp_seq ?_
          refine c_reg ?_
          refine q_seg (S := (fun x_ => St w x_ [Res.row (Value.slice (some ⟨blk13, 0, none⟩) a0n a0n) 3 1 a0n (((upto a0n).take k).map (Value.int .i64) ++ List.replicate (a0n - k) (Value.int .i64 0)), Res.row (Value.slice Aq9 (List.length (cia a0L e)) cq10) 3 1 (List.length (cia a0L e)) ((cia a0L e).map (Value.int .i64)), Res.box blk2 [Value.slice a0A a0n a0c] 32])) [(9, Value.int .i64 ((k : Nat) : Int)), (31, Value.int .i64 ((k : Nat) : Int))] [.no, .no] True (by kernel_rfl) trivial hS14 ?_
          refine l_nil rfl ?_
          refine then_n ?_
          refine c_reg ?_
          refine q_seg (S := (fun x_ => St w x_ [Res.row (Value.slice (some ⟨blk13, 0, none⟩) a0n a0n) 3 1 a0n (((upto a0n).take k).map (Value.int .i64) ++ List.replicate (a0n - k) (Value.int .i64 0)), Res.row (Value.slice Aq9 (List.length (cia a0L e)) cq10) 3 1 (List.length (cia a0L e)) ((cia a0L e).map (Value.int .i64)), Res.box blk2 [Value.slice a0A a0n a0c] 32])) [(35, Value.pointer (some ⟨blk13, 0 + Int.toNat ((k : Nat) : Int) * 1, none⟩)), (34, Value.int .i64 ((k : Nat) : Int)), (33, Value.int .i64 ((k : Nat) : Int)), (32, Value.slice (some ⟨blk13, 0, none⟩) a0n a0n)] [.no, .no, .no, .no] (((0 : Int) ≤ ((k : Nat) : Int)) ∧ (((k : Nat) : Int) < ((a0n : Nat) : Int))) (by kernel_rfl) ⟨(by omega), (by omega)⟩ hS14 ?_
          have hlnw17 := hS14.row_len (List.mem_of_getElem? (i := 0) rfl)
          refine l_op rfl rfl (fun K hK => op_storeRow (d := none) rfl rfl (i := 0) (b := blk13) (off := 0 + Int.toNat ((k : Nat) : Int) * 1) (m := a0n) (cap := a0n) (e := 3) (sz := 1) (xs := (((upto a0n).take k).map (Value.int .i64) ++ List.replicate (a0n - k) (Value.int .i64 0))) (by kernel_rfl) (by kernel_rfl) [Value.int .i64 ((k : Nat) : Int)] (by kernel_rfl) (by kernel_rfl) (by rw [hlnw17]; simp only [List.length_cons, List.length_nil]; omega) (by rfl) [Res.row (Value.slice (some ⟨blk13, 0, none⟩) a0n a0n) 3 1 a0n (List.take (0 + Int.toNat ((k : Nat) : Int) * 1) (((upto a0n).take k).map (Value.int .i64) ++ List.replicate (a0n - k) (Value.int .i64 0)) ++ [Value.int .i64 ((k : Nat) : Int)] ++ List.drop (0 + Int.toNat ((k : Nat) : Int) * 1 + List.length [Value.int .i64 ((k : Nat) : Int)]) (((upto a0n).take k).map (Value.int .i64) ++ List.replicate (a0n - k) (Value.int .i64 0))), Res.row (Value.slice Aq9 (List.length (cia a0L e)) cq10) 3 1 (List.length (cia a0L e)) ((cia a0L e).map (Value.int .i64)), Res.box blk2 [Value.slice a0A a0n a0c] 32] (by kernel_rfl) hS14 (fun w17 hS17 => hK _ _ ?_))
          clear hK K
          replace hS17 := hS17.eqv (own' := [Res.row (Value.slice (some ⟨blk13, 0, none⟩) a0n a0n) 3 1 a0n (((upto a0n).take (k + 1)).map (Value.int .i64) ++ List.replicate (a0n - (k + 1)) (Value.int .i64 0)), Res.row (Value.slice Aq9 (List.length (cia a0L e)) cq10) 3 1 (List.length (cia a0L e)) ((cia a0L e).map (Value.int .i64)), Res.box blk2 [Value.slice a0A a0n a0c] 32]) (by rw [fill_step (upto_get hb_lt) hb_lt])
          refine l_nil rfl ?_
          refine blk_n ?_
          refine then_n ?_
          refine c_reg ?_
          refine q_seg (S := (fun x_ => St w x_ [Res.row (Value.slice (some ⟨blk13, 0, none⟩) a0n a0n) 3 1 a0n (((upto a0n).take (k + 1)).map (Value.int .i64) ++ List.replicate (a0n - (k + 1)) (Value.int .i64 0)), Res.row (Value.slice Aq9 (List.length (cia a0L e)) cq10) 3 1 (List.length (cia a0L e)) ((cia a0L e).map (Value.int .i64)), Res.box blk2 [Value.slice a0A a0n a0c] 32])) [(29, Value.int .i64 (((k : Nat) : Int) + (1 : Int))), (36, Value.int .i64 (((k : Nat) : Int) + (1 : Int)))] [.no, .no] ((InK .i64 (((k : Nat) : Int) + (1 : Int)))) (by kernel_rfl) (in64 (by omega) (by omega)) hS17 ?_
          refine l_nil rfl ?_
          refine then_n ?_
          refine round_end (k + 1) ?_ ?_ ?_
          · exact (agree_cons (by kernel_rfl) (agree_cons (by kernel_rfl) (agree_cons (by kernel_rfl) agree_nil)))
          · exact ⟨(by omega), hS17⟩
          · exact (by first | omega | (dsimp only; omega))
        · skip
          have hb16p := of_decide_eq_false hb16
          refine c_false (b := (decide (((k : Nat) : Int) < ((a0n : Nat) : Int)))) (by kernel_rfl) hb16 ?_
          refine wp_exit ?_
          refine then_x ?_
          refine then_x ?_
          refine blk_hit ?_
          refine then_n ?_
          refine wp_seq ?_
          refine c_reg ?_
          refine q_seg (S := (fun x_ => St w x_ [Res.row (Value.slice (some ⟨blk13, 0, none⟩) a0n a0n) 3 1 a0n (((upto a0n).take k).map (Value.int .i64) ++ List.replicate (a0n - k) (Value.int .i64 0)), Res.row (Value.slice Aq9 (List.length (cia a0L e)) cq10) 3 1 (List.length (cia a0L e)) ((cia a0L e).map (Value.int .i64)), Res.box blk2 [Value.slice a0A a0n a0c] 32])) [(6, Value.slice (some ⟨blk13, 0, none⟩) a0n a0n), (37, Value.slice (some ⟨blk13, 0, none⟩) a0n a0n)] [.no, .no] True (by kernel_rfl) trivial hS14 ?_
          refine l_nil rfl ?_
          refine then_n ?_
          refine wp_ret ?_
          have hS14s2 : St w w14 [Res.row (Value.slice (some ⟨blk13, 0, none⟩) a0n a0n) 3 1 a0n (((upto a0n).take k).map (Value.int .i64) ++ List.replicate (a0n - k) (Value.int .i64 0))] := (hS14.sub (List.Sublist.cons_cons _ (List.Sublist.cons _ (List.Sublist.cons _ List.Sublist.slnil))))
          have hkn2 : k = a0n := by omega
          have hpc : pcells a0L e t = (upto a0n) := by rw [pcells, hb4, cond_true, decide_eq_true hb5p, decide_eq_false (show ¬ 0 < (cia a0L e).length by omega)]; show upto a0L.length = _; rw [a0l]
          exact c_end (S := (fun x_ => St w x_ [Res.row (Value.slice (some ⟨blk13, 0, none⟩) a0n a0n) 3 1 a0n (((upto a0n).take k).map (Value.int .i64) ++ List.replicate (a0n - k) (Value.int .i64 0)), Res.row (Value.slice Aq9 (List.length (cia a0L e)) cq10) 3 1 (List.length (cia a0L e)) ((cia a0L e).map (Value.int .i64)), Res.box blk2 [Value.slice a0A a0n a0c] 32])) (rs := [.tmp 6]) rfl [] (v := Value.slice (some ⟨blk13, 0, none⟩) a0n a0n) (C := True) (by kernel_rfl) trivial hS14 ((hS14s2.eqv (by simp [hpc, hkn2, upto_length, List.take_of_length_le])).rt ⟨(some ⟨blk13, 0, none⟩), a0n, by simp [hpc, hkn2, upto_length, List.take_of_length_le], rfl⟩)
    · skip
      have hb5p := of_decide_eq_false hb5
      refine c_false (b := (decide (t = (1 : Int)))) (by kernel_rfl) hb5 ?_
      refine wp_skip ?_
      refine then_n ?_
      refine wp_seq ?_
      refine c_reg ?_
      refine q_seg (S := (fun x_ => St w x_ [Res.box blk2 [Value.slice a0A a0n a0c] 32])) [(25, Value.int .i64 ((a0n : Nat) : Int)), (24, Value.slice a0A a0n a0c), (23, Value.pointer (some ⟨blk2, 0 + 0, none⟩))] [.no, .v (Value.slice a0A a0n a0c), .no] ((LoadsAt Try.prog (fun x_ => St w x_ [Res.box blk2 [Value.slice a0A a0n a0c] 32]) 30 ⟨blk2, 0 + 0, none⟩ (Value.slice a0A a0n a0c))) (by kernel_rfl) (ld_box (i := 0) rfl rfl (by kernel_rfl)) hS3 ?_
      refine l_op rfl rfl (fun K hK => op_make (d := some 26) rfl rfl (e := 3) (by kernel_rfl) [Value.int .i64 0] (by kernel_rfl) 1 (by kernel_rfl) 8 (by kernel_rfl) a0n a0n (kl := .i64) (kc := .i64) (by kernel_rfl) (by kernel_rfl) (by omega) (by omega) (by unfold maxLen; omega) hS3 (fun blk19 w18 hS18 => hK _ _ ?_))
      clear hK K
      refine q_seg (S := (fun x_ => St w x_ [Res.row (Value.slice (some ⟨blk19, 0, none⟩) a0n a0n) 3 1 a0n (zrow [Value.int .i64 0] (a0n * 1)), Res.box blk2 [Value.slice a0A a0n a0c] 32])) [(8, Value.slice (some ⟨blk19, 0, none⟩) a0n a0n)] [.no] True (by kernel_rfl) trivial hS18 ?_
      refine l_nil rfl ?_
      refine then_n ?_
      refine wp_seq ?_
      refine wp_seq ?_
      refine c_reg ?_
      refine q_seg (S := (fun x_ => St w x_ [Res.row (Value.slice (some ⟨blk19, 0, none⟩) a0n a0n) 3 1 a0n (zrow [Value.int .i64 0] (a0n * 1)), Res.box blk2 [Value.slice a0A a0n a0c] 32])) [(29, Value.int .i64 0), (28, Value.int .i64 ((a0n : Nat) : Int)), (27, Value.slice (some ⟨blk19, 0, none⟩) a0n a0n)] [.no, .no, .no] True (by kernel_rfl) trivial hS18 ?_
      refine l_nil rfl ?_
      refine then_n ?_
      refine wp_block ?_
      refine c_loop (X := Nat) (fun (k : Nat) => [(8, Value.slice (some ⟨blk19, 0, none⟩) a0n a0n), (28, Value.int .i64 ((a0n : Nat) : Int)), (29, Value.int .i64 ((k : Nat) : Int))]) (fun (k : Nat) (wr : World) => (k ≤ a0n) ∧ St w wr [Res.row (Value.slice (some ⟨blk19, 0, none⟩) a0n a0n) 3 1 a0n (((upto a0n).take k).map (Value.int .i64) ++ List.replicate (a0n - k) (Value.int .i64 0)), Res.box blk2 [Value.slice a0A a0n a0c] 32]) (fun (k : Nat) => a0n - k) 0 ?_ ?_ ?_
      · exact (agree_cons (by kernel_rfl) (agree_cons (by kernel_rfl) (agree_cons (by kernel_rfl) agree_nil)))
      · exact ⟨Nat.zero_le _, (hS18.eqv (by simp [zrow_one]))⟩
      rintro k g21 w20 ⟨hkn, hS20⟩
      refine wp_seq ?_
      refine c_reg ?_
      refine q_seg (S := (fun x_ => St w x_ [Res.row (Value.slice (some ⟨blk19, 0, none⟩) a0n a0n) 3 1 a0n (((upto a0n).take k).map (Value.int .i64) ++ List.replicate (a0n - k) (Value.int .i64 0)), Res.box blk2 [Value.slice a0A a0n a0c] 32])) [(30, Value.bool (decide (((k : Nat) : Int) < ((a0n : Nat) : Int))))] [.no] True (by kernel_rfl) trivial hS20 ?_
      refine l_nil rfl ?_
      refine then_n ?_
      refine wp_seq ?_
      rcases Bool.eq_false_or_eq_true (decide (((k : Nat) : Int) < ((a0n : Nat) : Int))) with hb22 | hb22
      · skip
        have hb22p := of_decide_eq_true hb22
        have hb_lt : k < a0n := by omega
        refine c_true (b := (decide (((k : Nat) : Int) < ((a0n : Nat) : Int)))) (by kernel_rfl) hb22 ?_
        refine wp_skip ?_
        refine then_n ?_
        refine wp_seq ?_
        refine wp_block ?_
        refine wp_seq ?_
        refine c_reg ?_
        refine q_seg (S := (fun x_ => St w x_ [Res.row (Value.slice (some ⟨blk19, 0, none⟩) a0n a0n) 3 1 a0n (((upto a0n).take k).map (Value.int .i64) ++ List.replicate (a0n - k) (Value.int .i64 0)), Res.box blk2 [Value.slice a0A a0n a0c] 32])) [(9, Value.int .i64 ((k : Nat) : Int)), (31, Value.int .i64 ((k : Nat) : Int))] [.no, .no] True (by kernel_rfl) trivial hS20 ?_
        refine l_nil rfl ?_
        refine then_n ?_
        refine c_reg ?_
        refine q_seg (S := (fun x_ => St w x_ [Res.row (Value.slice (some ⟨blk19, 0, none⟩) a0n a0n) 3 1 a0n (((upto a0n).take k).map (Value.int .i64) ++ List.replicate (a0n - k) (Value.int .i64 0)), Res.box blk2 [Value.slice a0A a0n a0c] 32])) [(35, Value.pointer (some ⟨blk19, 0 + Int.toNat ((k : Nat) : Int) * 1, none⟩)), (34, Value.int .i64 ((k : Nat) : Int)), (33, Value.int .i64 ((k : Nat) : Int)), (32, Value.slice (some ⟨blk19, 0, none⟩) a0n a0n)] [.no, .no, .no, .no] (((0 : Int) ≤ ((k : Nat) : Int)) ∧ (((k : Nat) : Int) < ((a0n : Nat) : Int))) (by kernel_rfl) ⟨(by omega), (by omega)⟩ hS20 ?_
        have hlnw23 := hS20.row_len (List.mem_of_getElem? (i := 0) rfl)
        refine l_op rfl rfl (fun K hK => op_storeRow (d := none) rfl rfl (i := 0) (b := blk19) (off := 0 + Int.toNat ((k : Nat) : Int) * 1) (m := a0n) (cap := a0n) (e := 3) (sz := 1) (xs := (((upto a0n).take k).map (Value.int .i64) ++ List.replicate (a0n - k) (Value.int .i64 0))) (by kernel_rfl) (by kernel_rfl) [Value.int .i64 ((k : Nat) : Int)] (by kernel_rfl) (by kernel_rfl) (by rw [hlnw23]; simp only [List.length_cons, List.length_nil]; omega) (by rfl) [Res.row (Value.slice (some ⟨blk19, 0, none⟩) a0n a0n) 3 1 a0n (List.take (0 + Int.toNat ((k : Nat) : Int) * 1) (((upto a0n).take k).map (Value.int .i64) ++ List.replicate (a0n - k) (Value.int .i64 0)) ++ [Value.int .i64 ((k : Nat) : Int)] ++ List.drop (0 + Int.toNat ((k : Nat) : Int) * 1 + List.length [Value.int .i64 ((k : Nat) : Int)]) (((upto a0n).take k).map (Value.int .i64) ++ List.replicate (a0n - k) (Value.int .i64 0))), Res.box blk2 [Value.slice a0A a0n a0c] 32] (by kernel_rfl) hS20 (fun w23 hS23 => hK _ _ ?_))
        clear hK K
        replace hS23 := hS23.eqv (own' := [Res.row (Value.slice (some ⟨blk19, 0, none⟩) a0n a0n) 3 1 a0n (((upto a0n).take (k + 1)).map (Value.int .i64) ++ List.replicate (a0n - (k + 1)) (Value.int .i64 0)), Res.box blk2 [Value.slice a0A a0n a0c] 32]) (by rw [fill_step (upto_get hb_lt) hb_lt])
        refine l_nil rfl ?_
        refine blk_n ?_
        refine then_n ?_
        refine c_reg ?_
        refine q_seg (S := (fun x_ => St w x_ [Res.row (Value.slice (some ⟨blk19, 0, none⟩) a0n a0n) 3 1 a0n (((upto a0n).take (k + 1)).map (Value.int .i64) ++ List.replicate (a0n - (k + 1)) (Value.int .i64 0)), Res.box blk2 [Value.slice a0A a0n a0c] 32])) [(29, Value.int .i64 (((k : Nat) : Int) + (1 : Int))), (36, Value.int .i64 (((k : Nat) : Int) + (1 : Int)))] [.no, .no] ((InK .i64 (((k : Nat) : Int) + (1 : Int)))) (by kernel_rfl) (in64 (by omega) (by omega)) hS23 ?_
        refine l_nil rfl ?_
        refine then_n ?_
        refine round_end (k + 1) ?_ ?_ ?_
        · exact (agree_cons (by kernel_rfl) (agree_cons (by kernel_rfl) (agree_cons (by kernel_rfl) agree_nil)))
        · exact ⟨(by omega), hS23⟩
        · exact (by first | omega | (dsimp only; omega))
      · skip
        have hb22p := of_decide_eq_false hb22
        refine c_false (b := (decide (((k : Nat) : Int) < ((a0n : Nat) : Int)))) (by kernel_rfl) hb22 ?_
        refine wp_exit ?_
        refine then_x ?_
        refine then_x ?_
        refine blk_hit ?_
        refine then_n ?_
        refine wp_seq ?_
        refine c_reg ?_
        refine q_seg (S := (fun x_ => St w x_ [Res.row (Value.slice (some ⟨blk19, 0, none⟩) a0n a0n) 3 1 a0n (((upto a0n).take k).map (Value.int .i64) ++ List.replicate (a0n - k) (Value.int .i64 0)), Res.box blk2 [Value.slice a0A a0n a0c] 32])) [(6, Value.slice (some ⟨blk19, 0, none⟩) a0n a0n), (37, Value.slice (some ⟨blk19, 0, none⟩) a0n a0n)] [.no, .no] True (by kernel_rfl) trivial hS20 ?_
        refine l_nil rfl ?_
        refine then_n ?_
        refine wp_ret ?_
        have hS20s3 : St w w20 [Res.row (Value.slice (some ⟨blk19, 0, none⟩) a0n a0n) 3 1 a0n (((upto a0n).take k).map (Value.int .i64) ++ List.replicate (a0n - k) (Value.int .i64 0))] := (hS20.sub (List.Sublist.cons_cons _ (List.Sublist.cons _ List.Sublist.slnil)))
        have hkn2 : k = a0n := by omega
        have hpc : pcells a0L e t = (upto a0n) := by rw [pcells, hb4, cond_true, decide_eq_false hb5p]; show upto a0L.length = _; rw [a0l]
        exact c_end (S := (fun x_ => St w x_ [Res.row (Value.slice (some ⟨blk19, 0, none⟩) a0n a0n) 3 1 a0n (((upto a0n).take k).map (Value.int .i64) ++ List.replicate (a0n - k) (Value.int .i64 0)), Res.box blk2 [Value.slice a0A a0n a0c] 32])) (rs := [.tmp 6]) rfl [] (v := Value.slice (some ⟨blk19, 0, none⟩) a0n a0n) (C := True) (by kernel_rfl) trivial hS20 ((hS20s3.eqv (by simp [hpc, hkn2, upto_length, List.take_of_length_le])).rt ⟨(some ⟨blk19, 0, none⟩), a0n, by simp [hpc, hkn2, upto_length, List.take_of_length_le], rfl⟩)
  · skip
    have hb4p := inR_neg hb4
    refine c_true (b := (!(inR t 1 4))) (by kernel_rfl) (nb (v := false) hb4) ?_
    refine wp_seq ?_
    refine c_reg ?_
    refine l_op rfl rfl (fun K hK => op_buildSlice (d := some 13) rfl rfl (e := 3) (by kernel_rfl) 1 (by kernel_rfl) (by decide) (by decide) [] (by kernel_rfl) rfl hS3 (fun blk25 w24 hS24 => hK _ _ ?_))
    clear hK K
    refine q_seg (S := (fun x_ => St w x_ [Res.row (Value.slice (some ⟨blk25, 0, none⟩) 0 0) 3 1 0 ([]), Res.box blk2 [Value.slice a0A a0n a0c] 32])) [(6, Value.slice (some ⟨blk25, 0, none⟩) 0 0)] [.no] True (by kernel_rfl) trivial hS24 ?_
    refine l_nil rfl ?_
    refine then_n ?_
    refine wp_ret ?_
    refine then_r ?_
    have hS24s4 : St w w24 [Res.row (Value.slice (some ⟨blk25, 0, none⟩) 0 0) 3 1 0 ([])] := (hS24.sub (List.Sublist.cons_cons _ (List.Sublist.cons _ List.Sublist.slnil)))
    have hpc : pcells a0L e t = [] := by rw [pcells, hb4]; rfl
    exact c_end (S := (fun x_ => St w x_ [Res.row (Value.slice (some ⟨blk25, 0, none⟩) 0 0) 3 1 0 ([]), Res.box blk2 [Value.slice a0A a0n a0c] 32])) (rs := [.tmp 6]) rfl [] (v := Value.slice (some ⟨blk25, 0, none⟩) 0 0) (C := True) (by kernel_rfl) trivial hS24 ((hS24s4.eqv (by simp [hpc, upto_length])).rt ⟨(some ⟨blk25, 0, none⟩), 0, by simp [hpc, upto_length], rfl⟩)
theorem PagingCells_s_in (a0A : Option Addr) (a0n a0c : Nat) (a0L : List (Int × List Int)) (e t : Int) (w : World) (a0h : RdL .i64 true w w.heap.size a0A a0n a0L) (a0w : wt a0L ≤ 1099511627776) (hI : inR t 1 4 = true) : Calls Try.prog 22 #[Value.agg #[Value.slice a0A a0n a0c], .int .i64 e, .int .i64 t] w (Ret w (fun v new => ∃ (A_ : Option Addr) (c_ : Nat), v = .slice A_ ((pcells a0L e t)).length c_ ∧ new = [.row (.slice A_ ((pcells a0L e t)).length c_) 3 1 ((pcells a0L e t)).length (((pcells a0L e t)).map (.int .i64))])) := by
  have a0l := a0h.len
  have a0v := wt_len a0L
  have hcil := cia_len a0L e a0L.length
  refine calls_FA Try.func22 rfl (n := 38) rfl (l := [(0, Value.agg #[Value.slice a0A a0n a0c]), (1, Value.int .i64 e), (2, Value.int .i64 t)]) rfl (by simp) (fun g => ?_)
  have hS := St.init w
  refine wp_seq ?_
  refine c_reg ?_
  refine l_op rfl rfl (fun K hK => op_box (d := some 3) rfl rfl [Value.slice a0A a0n a0c] (by kernel_rfl) hS (fun blk2 w1 hS1 => hK _ _ ?_))
  clear hK K
  refine q_seg (S := (fun x_ => St w x_ [Res.box blk2 [Value.slice a0A a0n a0c] 32])) [(6, Value.slice none 0 0)] [.no] True (by kernel_rfl) trivial hS1 ?_
  refine l_nil rfl ?_
  refine then_n ?_
  refine wp_seq ?_
  refine c_reg ?_
  refine q_seg (S := (fun x_ => St w x_ [Res.box blk2 [Value.slice a0A a0n a0c] 32])) [(11, Value.int .i64 e), (10, Value.agg #[Value.slice a0A a0n a0c])] [.v (Value.agg #[Value.slice a0A a0n a0c]), .no] ((LoadsAt Try.prog (fun x_ => St w x_ [Res.box blk2 [Value.slice a0A a0n a0c] 32]) 32 ⟨blk2, 0, none⟩ (Value.agg #[Value.slice a0A a0n a0c]))) (by kernel_rfl) (ld_boxN (i := 0) (k := 1) rfl rfl rfl (by kernel_rfl)) hS1 ?_
  refine l_op rfl rfl (fun K hK => op_call (d := some 12) rfl rfl ⟨_, Try.func19, by kernel_rfl, by kernel_rfl⟩ (vs := [Value.agg #[Value.slice a0A a0n a0c], Value.int .i64 e]) (by kernel_rfl) (CellsInArea_s_c a0A a0n a0c a0L e w1 (hS1.rdllow a0h) (by omega)) hS1 (fun v4 new5 w3 Rw3 hS3 => hK _ _ ?_))
  clear hK K
  obtain ⟨Aq6, cq7, rfl, rfl⟩ := Rw3
  refine q_seg (S := (fun x_ => St w x_ [Res.row (Value.slice Aq6 (List.length (cia a0L e)) cq7) 3 1 (List.length (cia a0L e)) ((cia a0L e).map (Value.int .i64)), Res.box blk2 [Value.slice a0A a0n a0c] 32])) [(7, Value.slice Aq6 (List.length (cia a0L e)) cq7)] [.no] True (by kernel_rfl) trivial hS3 ?_
  refine l_nil rfl ?_
  refine then_n ?_
  refine wp_seq ?_
  refine wp_seq ?_
  refine c_reg ?_
  refine q_seg (S := (fun x_ => St w x_ [Res.row (Value.slice Aq6 (List.length (cia a0L e)) cq7) 3 1 (List.length (cia a0L e)) ((cia a0L e).map (Value.int .i64)), Res.box blk2 [Value.slice a0A a0n a0c] 32])) [(15, Value.bool (decide (t = (1 : Int)))), (14, Value.bool (decide (t = (1 : Int)))), (13, Value.int .i64 t)] [.no, .no, .no] True (by kernel_rfl) trivial hS3 ?_
  rcases Bool.eq_false_or_eq_true (decide (t = (1 : Int))) with hb8 | hb8
  · skip
    have hb8p := of_decide_eq_true hb8
    refine q_seg (S := (fun x_ => St w x_ [Res.row (Value.slice Aq6 (List.length (cia a0L e)) cq7) 3 1 (List.length (cia a0L e)) ((cia a0L e).map (Value.int .i64)), Res.box blk2 [Value.slice a0A a0n a0c] 32])) [(19, Value.bool (decide ((0 : Int) < (((List.length (cia a0L e)) : Nat) : Int)))), (18, Value.bool (decide ((0 : Int) < (((List.length (cia a0L e)) : Nat) : Int)))), (17, Value.int .i64 (((List.length (cia a0L e)) : Nat) : Int)), (16, Value.slice Aq6 (List.length (cia a0L e)) cq7)] [.no, .no, .no, .v (.bool true)] (((decide (t = (1 : Int))) = true) ∧ ((decide (t = (1 : Int))) = true) ∧ ((decide (t = (1 : Int))) = true) ∧ ((decide (t = (1 : Int))) = true)) (by kernel_rfl) ⟨hb8, hb8, hb8, hb8⟩ hS3 ?_
    refine l_nil rfl ?_
    refine then_n ?_
    rcases Bool.eq_false_or_eq_true (decide ((0 : Int) < (((List.length (cia a0L e)) : Nat) : Int))) with hb9 | hb9
    · skip
      have hb9p := of_decide_eq_true hb9
      refine c_true (b := (decide ((0 : Int) < (((List.length (cia a0L e)) : Nat) : Int)))) (by kernel_rfl) hb9 ?_
      refine wp_seq ?_
      refine c_reg ?_
      refine q_seg (S := (fun x_ => St w x_ [Res.row (Value.slice Aq6 (List.length (cia a0L e)) cq7) 3 1 (List.length (cia a0L e)) ((cia a0L e).map (Value.int .i64)), Res.box blk2 [Value.slice a0A a0n a0c] 32])) [(6, Value.slice Aq6 (List.length (cia a0L e)) cq7), (20, Value.slice Aq6 (List.length (cia a0L e)) cq7)] [.no, .no] True (by kernel_rfl) trivial hS3 ?_
      refine l_nil rfl ?_
      refine then_n ?_
      refine wp_ret ?_
      refine then_r ?_
      have hS3s1 : St w w3 [Res.row (Value.slice Aq6 (List.length (cia a0L e)) cq7) 3 1 (List.length (cia a0L e)) ((cia a0L e).map (Value.int .i64))] := (hS3.sub (List.Sublist.cons_cons _ (List.Sublist.cons _ List.Sublist.slnil)))
      have hpc : pcells a0L e t = (cia a0L e) := by rw [pcells, hI, cond_true, decide_eq_true hb8p, decide_eq_true (show 0 < (cia a0L e).length by omega)]; rfl
      exact c_end (S := (fun x_ => St w x_ [Res.row (Value.slice Aq6 (List.length (cia a0L e)) cq7) 3 1 (List.length (cia a0L e)) ((cia a0L e).map (Value.int .i64)), Res.box blk2 [Value.slice a0A a0n a0c] 32])) (rs := [.tmp 6]) rfl [] (v := Value.slice Aq6 (List.length (cia a0L e)) cq7) (C := True) (by kernel_rfl) trivial hS3 ((hS3s1.eqv (by simp [hpc, upto_length])).rt ⟨Aq6, cq7, by simp [hpc, upto_length], rfl⟩)
    · skip
      have hb9p := of_decide_eq_false hb9
      refine c_false (b := (decide ((0 : Int) < (((List.length (cia a0L e)) : Nat) : Int)))) (by kernel_rfl) hb9 ?_
      refine wp_skip ?_
      refine then_n ?_
      refine wp_seq ?_
      refine c_reg ?_
      refine l_op rfl rfl (fun K hK => op_buildSlice (d := some 21) rfl rfl (e := 3) (by kernel_rfl) 1 (by kernel_rfl) (by decide) (by decide) [] (by kernel_rfl) rfl hS3 (fun blk11 w10 hS10 => hK _ _ ?_))
      clear hK K
      refine q_seg (S := (fun x_ => St w x_ [Res.row (Value.slice (some ⟨blk11, 0, none⟩) 0 0) 3 1 0 ([]), Res.row (Value.slice Aq6 (List.length (cia a0L e)) cq7) 3 1 (List.length (cia a0L e)) ((cia a0L e).map (Value.int .i64)), Res.box blk2 [Value.slice a0A a0n a0c] 32])) [(8, Value.slice (some ⟨blk11, 0, none⟩) 0 0)] [.no] True (by kernel_rfl) trivial hS10 ?_
      refine l_nil rfl ?_
      refine then_n ?_
      refine wp_seq ?_
      refine wp_seq ?_
      refine c_reg ?_
      refine q_seg (S := (fun x_ => St w x_ [Res.row (Value.slice (some ⟨blk11, 0, none⟩) 0 0) 3 1 0 ([]), Res.row (Value.slice Aq6 (List.length (cia a0L e)) cq7) 3 1 (List.length (cia a0L e)) ((cia a0L e).map (Value.int .i64)), Res.box blk2 [Value.slice a0A a0n a0c] 32])) [(9, Value.int .i64 0)] [.no] True (by kernel_rfl) trivial hS10 ?_
      refine l_nil rfl ?_
      refine then_n ?_
      refine wp_block ?_
      refine c_loop (X := Nat × Option Addr × Nat) (fun (x_ : Nat × Option Addr × Nat) => match x_ with | (k, A2, c2) => [(2, Value.int .i64 t), (3, Value.pointer (some ⟨blk2, 0, none⟩)), (8, Value.slice A2 (List.length (upto k)) c2), (9, Value.int .i64 ((k : Nat) : Int))]) (fun (x_ : Nat × Option Addr × Nat) (wr : World) => match x_ with | (k, A2, c2) => (k ≤ a0n) ∧ St w wr [Res.row (Value.slice A2 (List.length (upto k)) c2) 3 1 (List.length (upto k)) ((upto k).map (Value.int .i64)), Res.row (Value.slice Aq6 (List.length (cia a0L e)) cq7) 3 1 (List.length (cia a0L e)) ((cia a0L e).map (Value.int .i64)), Res.box blk2 [Value.slice a0A a0n a0c] 32]) (fun (x_ : Nat × Option Addr × Nat) => match x_ with | (k, A2, c2) => a0n - k) ((0, (some ⟨blk11, 0, none⟩), 0)) ?_ ?_ ?_
      · exact (agree_cons (by kernel_rfl) (agree_cons (by kernel_rfl) (agree_cons (by kernel_rfl) (agree_cons (by kernel_rfl) agree_nil))))
      · exact ⟨Nat.zero_le _, hS10⟩
      rintro ⟨k, A2, c2⟩ g13 w12 ⟨hkn, hS12⟩
      have hul := upto_length k
      refine wp_seq ?_
      refine wp_seq ?_
      refine c_reg ?_
      refine q_seg (S := (fun x_ => St w x_ [Res.row (Value.slice A2 (List.length (upto k)) c2) 3 1 (List.length (upto k)) ((upto k).map (Value.int .i64)), Res.row (Value.slice Aq6 (List.length (cia a0L e)) cq7) 3 1 (List.length (cia a0L e)) ((cia a0L e).map (Value.int .i64)), Res.box blk2 [Value.slice a0A a0n a0c] 32])) [(27, Value.bool (decide (((k : Nat) : Int) < ((a0n : Nat) : Int)))), (26, Value.bool (decide (((k : Nat) : Int) < ((a0n : Nat) : Int)))), (25, Value.int .i64 ((a0n : Nat) : Int)), (24, Value.slice a0A a0n a0c), (23, Value.pointer (some ⟨blk2, 0 + 0, none⟩)), (22, Value.int .i64 ((k : Nat) : Int))] [.no, .no, .v (Value.slice a0A a0n a0c), .no, .no, .no] ((LoadsAt Try.prog (fun x_ => St w x_ [Res.row (Value.slice A2 (List.length (upto k)) c2) 3 1 (List.length (upto k)) ((upto k).map (Value.int .i64)), Res.row (Value.slice Aq6 (List.length (cia a0L e)) cq7) 3 1 (List.length (cia a0L e)) ((cia a0L e).map (Value.int .i64)), Res.box blk2 [Value.slice a0A a0n a0c] 32]) 30 ⟨blk2, 0 + 0, none⟩ (Value.slice a0A a0n a0c))) (by kernel_rfl) (ld_box (i := 2) rfl rfl (by kernel_rfl)) hS12 ?_
      rcases Bool.eq_false_or_eq_true (decide (((k : Nat) : Int) < ((a0n : Nat) : Int))) with hb14 | hb14
      · skip
        have hb14p := of_decide_eq_true hb14
        have hb_lt : k < a0n := by omega
        refine q_seg (S := (fun x_ => St w x_ [Res.row (Value.slice A2 (List.length (upto k)) c2) 3 1 (List.length (upto k)) ((upto k).map (Value.int .i64)), Res.row (Value.slice Aq6 (List.length (cia a0L e)) cq7) 3 1 (List.length (cia a0L e)) ((cia a0L e).map (Value.int .i64)), Res.box blk2 [Value.slice a0A a0n a0c] 32])) [(28, Value.int .i64 t)] [.no] (((decide (((k : Nat) : Int) < ((a0n : Nat) : Int))) = true)) (by kernel_rfl) hb14 hS12 ?_
        refine l_opg rfl (b := (decide (((k : Nat) : Int) < ((a0n : Nat) : Int)))) (want := true) (by kernel_rfl) hb14 (fun K hK => op_callv (d := some 29) rfl rfl ⟨_, Try.func32, by kernel_rfl, by kernel_rfl⟩ (vs := [Value.int .i64 t, Value.int .i64 1, Value.int .i64 4]) (by kernel_rfl) (v := Value.bool (inR t 1 4)) (l1In_c t 1 4 _) hS12 (fun w15 hS15 => hK _ _ ?_))
        clear hK K
        refine q_seg (S := (fun x_ => St w x_ [Res.row (Value.slice A2 (List.length (upto k)) c2) 3 1 (List.length (upto k)) ((upto k).map (Value.int .i64)), Res.row (Value.slice Aq6 (List.length (cia a0L e)) cq7) 3 1 (List.length (cia a0L e)) ((cia a0L e).map (Value.int .i64)), Res.box blk2 [Value.slice a0A a0n a0c] 32])) [(30, Value.bool (inR t 1 4))] [.v (.bool true)] (((decide (((k : Nat) : Int) < ((a0n : Nat) : Int))) = true)) (by kernel_rfl) hb14 hS15 ?_
        refine l_nil rfl ?_
        refine then_n ?_
        refine c_true (b := (inR t 1 4)) (by kernel_rfl) hI ?_
        refine wp_skip ?_
        refine then_n ?_
        refine wp_seq ?_
        refine wp_block ?_
        refine c_reg ?_
        refine q_seg (S := (fun x_ => St w x_ [Res.row (Value.slice A2 (List.length (upto k)) c2) 3 1 (List.length (upto k)) ((upto k).map (Value.int .i64)), Res.row (Value.slice Aq6 (List.length (cia a0L e)) cq7) 3 1 (List.length (cia a0L e)) ((cia a0L e).map (Value.int .i64)), Res.box blk2 [Value.slice a0A a0n a0c] 32])) [(34, Value.int .i64 ((k : Nat) : Int)), (33, Value.slice A2 (List.length (upto k)) c2)] [.no, .no] True (by kernel_rfl) trivial hS15 ?_
        refine l_op rfl rfl (fun K hK => op_buildSlice (d := some 35) rfl rfl (e := 3) (by kernel_rfl) 1 (by kernel_rfl) (by decide) (by decide) [Value.int .i64 ((k : Nat) : Int)] (by kernel_rfl) rfl hS15 (fun blk17 w16 hS16 => hK _ _ ?_))
        clear hK K
        refine l_op rfl rfl (fun K hK => op_append (d := some 36) rfl rfl elInt hS16 (i := 1) rfl rfl rfl (news := [Value.int .i64 ((k : Nat) : Int)]) (hS16.rd (List.mem_of_getElem? (i := 0) rfl)) (all_one (by rfl)) (by omega) (by omega) (fun v19 w18 hS18 => hK _ _ ?_))
        clear hK K
        obtain ⟨hlv19, Av19, cv19, hvv19, hnv19, hmv19⟩ := hS18.row_slice (List.mem_of_getElem? (i := 1) rfl)
        subst hvv19
        refine q_seg (S := (fun x_ => St w x_ [Res.row (Value.slice (some ⟨blk17, 0, none⟩) 1 1) 3 1 1 ([Value.int .i64 ((k : Nat) : Int)]), Res.row (Value.slice Av19 ((List.length (upto k)) + 1) cv19) 3 1 ((List.length (upto k)) + 1) (((upto k).map (Value.int .i64)) ++ [Value.int .i64 ((k : Nat) : Int)]), Res.row (Value.slice Aq6 (List.length (cia a0L e)) cq7) 3 1 (List.length (cia a0L e)) ((cia a0L e).map (Value.int .i64)), Res.box blk2 [Value.slice a0A a0n a0c] 32])) [(8, Value.slice Av19 ((List.length (upto k)) + 1) cv19)] [.no] True (by kernel_rfl) trivial hS18 ?_
        refine l_nil rfl ?_
        refine blk_n ?_
        refine then_n ?_
        refine c_reg ?_
        refine q_seg (S := (fun x_ => St w x_ [Res.row (Value.slice (some ⟨blk17, 0, none⟩) 1 1) 3 1 1 ([Value.int .i64 ((k : Nat) : Int)]), Res.row (Value.slice Av19 ((List.length (upto k)) + 1) cv19) 3 1 ((List.length (upto k)) + 1) (((upto k).map (Value.int .i64)) ++ [Value.int .i64 ((k : Nat) : Int)]), Res.row (Value.slice Aq6 (List.length (cia a0L e)) cq7) 3 1 (List.length (cia a0L e)) ((cia a0L e).map (Value.int .i64)), Res.box blk2 [Value.slice a0A a0n a0c] 32])) [(9, Value.int .i64 (((k : Nat) : Int) + (1 : Int))), (32, Value.int .i64 (((k : Nat) : Int) + (1 : Int))), (31, Value.int .i64 ((k : Nat) : Int))] [.no, .no, .no] ((InK .i64 (((k : Nat) : Int) + (1 : Int)))) (by kernel_rfl) (in64 (by omega) (by omega)) hS18 ?_
        refine l_nil rfl ?_
        refine then_n ?_
        have hS18s2 : St w w18 [Res.row (Value.slice Av19 ((List.length (upto k)) + 1) cv19) 3 1 ((List.length (upto k)) + 1) (((upto k).map (Value.int .i64)) ++ [Value.int .i64 ((k : Nat) : Int)]), Res.row (Value.slice Aq6 (List.length (cia a0L e)) cq7) 3 1 (List.length (cia a0L e)) ((cia a0L e).map (Value.int .i64)), Res.box blk2 [Value.slice a0A a0n a0c] 32] := (hS18.sub (List.Sublist.cons _ (List.Sublist.cons_cons _ (List.Sublist.cons_cons _ (List.Sublist.cons_cons _ List.Sublist.slnil)))))
        refine round_end ((k + 1, Av19, cv19)) ?_ ?_ ?_
        · exact (agree_cons (by kernel_rfl) (agree_cons (by kernel_rfl) (agree_eq (v0 := Value.slice Av19 ((List.length (upto k)) + 1) cv19) (by kernel_rfl) (congrArg (fun m => Value.slice Av19 m cv19) (by rw [upto_succ]; simp)) (agree_cons (by kernel_rfl) agree_nil))))
        · exact ⟨(by omega), (hS18s2.eqv (by rw [upto_succ]; simp))⟩
        · exact (by first | omega | (dsimp only; omega))
      · skip
        have hb14p := of_decide_eq_false hb14
        refine q_seg (S := (fun x_ => St w x_ [Res.row (Value.slice A2 (List.length (upto k)) c2) 3 1 (List.length (upto k)) ((upto k).map (Value.int .i64)), Res.row (Value.slice Aq6 (List.length (cia a0L e)) cq7) 3 1 (List.length (cia a0L e)) ((cia a0L e).map (Value.int .i64)), Res.box blk2 [Value.slice a0A a0n a0c] 32])) [(30, Value.bool false), (29, undef), (28, undef)] [.skip, .skip, .v (.bool false)] (((decide (((k : Nat) : Int) < ((a0n : Nat) : Int))) = !true) ∧ ((decide (((k : Nat) : Int) < ((a0n : Nat) : Int))) = !true) ∧ ((decide (((k : Nat) : Int) < ((a0n : Nat) : Int))) = false)) (by kernel_rfl) ⟨hb14, hb14, hb14⟩ hS12 ?_
        refine l_nil rfl ?_
        refine then_n ?_
        refine c_false (b := false) (by kernel_rfl) rfl ?_
        refine wp_exit ?_
        refine then_x ?_
        refine then_x ?_
        refine blk_hit ?_
        refine then_n ?_
        refine wp_seq ?_
        refine c_reg ?_
        refine q_seg (S := (fun x_ => St w x_ [Res.row (Value.slice A2 (List.length (upto k)) c2) 3 1 (List.length (upto k)) ((upto k).map (Value.int .i64)), Res.row (Value.slice Aq6 (List.length (cia a0L e)) cq7) 3 1 (List.length (cia a0L e)) ((cia a0L e).map (Value.int .i64)), Res.box blk2 [Value.slice a0A a0n a0c] 32])) [(6, Value.slice A2 (List.length (upto k)) c2), (37, Value.slice A2 (List.length (upto k)) c2)] [.no, .no] True (by kernel_rfl) trivial hS12 ?_
        refine l_nil rfl ?_
        refine then_n ?_
        refine wp_ret ?_
        have hS12s3 : St w w12 [Res.row (Value.slice A2 (List.length (upto k)) c2) 3 1 (List.length (upto k)) ((upto k).map (Value.int .i64))] := (hS12.sub (List.Sublist.cons_cons _ (List.Sublist.cons _ (List.Sublist.cons _ List.Sublist.slnil))))
        have hkn2 : k = a0n := by omega
        have hpc : pcells a0L e t = (upto a0n) := by rw [pcells, hI, cond_true, decide_eq_true hb8p, decide_eq_false (show ¬ 0 < (cia a0L e).length by omega)]; show upto a0L.length = _; rw [a0l]
        exact c_end (S := (fun x_ => St w x_ [Res.row (Value.slice A2 (List.length (upto k)) c2) 3 1 (List.length (upto k)) ((upto k).map (Value.int .i64)), Res.row (Value.slice Aq6 (List.length (cia a0L e)) cq7) 3 1 (List.length (cia a0L e)) ((cia a0L e).map (Value.int .i64)), Res.box blk2 [Value.slice a0A a0n a0c] 32])) (rs := [.tmp 6]) rfl [] (v := Value.slice A2 (List.length (upto k)) c2) (C := True) (by kernel_rfl) trivial hS12 ((hS12s3.eqv (by simp [hpc, hkn2, upto_length])).rt ⟨A2, c2, by simp [hpc, hkn2, upto_length], rfl⟩)
  · skip
    have hb8p := of_decide_eq_false hb8
    refine q_seg (S := (fun x_ => St w x_ [Res.row (Value.slice Aq6 (List.length (cia a0L e)) cq7) 3 1 (List.length (cia a0L e)) ((cia a0L e).map (Value.int .i64)), Res.box blk2 [Value.slice a0A a0n a0c] 32])) [(19, Value.bool false), (18, undef), (17, undef), (16, undef)] [.skip, .skip, .skip, .v (.bool false)] (((decide (t = (1 : Int))) = !true) ∧ ((decide (t = (1 : Int))) = !true) ∧ ((decide (t = (1 : Int))) = !true) ∧ ((decide (t = (1 : Int))) = false)) (by kernel_rfl) ⟨hb8, hb8, hb8, hb8⟩ hS3 ?_
    refine l_nil rfl ?_
    refine then_n ?_
    refine c_false (b := false) (by kernel_rfl) rfl ?_
    refine wp_skip ?_
    refine then_n ?_
    refine wp_seq ?_
    refine c_reg ?_
    refine l_op rfl rfl (fun K hK => op_buildSlice (d := some 21) rfl rfl (e := 3) (by kernel_rfl) 1 (by kernel_rfl) (by decide) (by decide) [] (by kernel_rfl) rfl hS3 (fun blk21 w20 hS20 => hK _ _ ?_))
    clear hK K
    refine q_seg (S := (fun x_ => St w x_ [Res.row (Value.slice (some ⟨blk21, 0, none⟩) 0 0) 3 1 0 ([]), Res.row (Value.slice Aq6 (List.length (cia a0L e)) cq7) 3 1 (List.length (cia a0L e)) ((cia a0L e).map (Value.int .i64)), Res.box blk2 [Value.slice a0A a0n a0c] 32])) [(8, Value.slice (some ⟨blk21, 0, none⟩) 0 0)] [.no] True (by kernel_rfl) trivial hS20 ?_
    refine l_nil rfl ?_
    refine then_n ?_
    refine wp_seq ?_
    refine wp_seq ?_
    refine c_reg ?_
    refine q_seg (S := (fun x_ => St w x_ [Res.row (Value.slice (some ⟨blk21, 0, none⟩) 0 0) 3 1 0 ([]), Res.row (Value.slice Aq6 (List.length (cia a0L e)) cq7) 3 1 (List.length (cia a0L e)) ((cia a0L e).map (Value.int .i64)), Res.box blk2 [Value.slice a0A a0n a0c] 32])) [(9, Value.int .i64 0)] [.no] True (by kernel_rfl) trivial hS20 ?_
    refine l_nil rfl ?_
    refine then_n ?_
    refine wp_block ?_
    refine c_loop (X := Nat × Option Addr × Nat) (fun (x_ : Nat × Option Addr × Nat) => match x_ with | (k, A2, c2) => [(2, Value.int .i64 t), (3, Value.pointer (some ⟨blk2, 0, none⟩)), (8, Value.slice A2 (List.length (upto k)) c2), (9, Value.int .i64 ((k : Nat) : Int))]) (fun (x_ : Nat × Option Addr × Nat) (wr : World) => match x_ with | (k, A2, c2) => (k ≤ a0n) ∧ St w wr [Res.row (Value.slice A2 (List.length (upto k)) c2) 3 1 (List.length (upto k)) ((upto k).map (Value.int .i64)), Res.row (Value.slice Aq6 (List.length (cia a0L e)) cq7) 3 1 (List.length (cia a0L e)) ((cia a0L e).map (Value.int .i64)), Res.box blk2 [Value.slice a0A a0n a0c] 32]) (fun (x_ : Nat × Option Addr × Nat) => match x_ with | (k, A2, c2) => a0n - k) ((0, (some ⟨blk21, 0, none⟩), 0)) ?_ ?_ ?_
    · exact (agree_cons (by kernel_rfl) (agree_cons (by kernel_rfl) (agree_cons (by kernel_rfl) (agree_cons (by kernel_rfl) agree_nil))))
    · exact ⟨Nat.zero_le _, hS20⟩
    rintro ⟨k, A2, c2⟩ g23 w22 ⟨hkn, hS22⟩
    have hul := upto_length k
    refine wp_seq ?_
    refine wp_seq ?_
    refine c_reg ?_
    refine q_seg (S := (fun x_ => St w x_ [Res.row (Value.slice A2 (List.length (upto k)) c2) 3 1 (List.length (upto k)) ((upto k).map (Value.int .i64)), Res.row (Value.slice Aq6 (List.length (cia a0L e)) cq7) 3 1 (List.length (cia a0L e)) ((cia a0L e).map (Value.int .i64)), Res.box blk2 [Value.slice a0A a0n a0c] 32])) [(27, Value.bool (decide (((k : Nat) : Int) < ((a0n : Nat) : Int)))), (26, Value.bool (decide (((k : Nat) : Int) < ((a0n : Nat) : Int)))), (25, Value.int .i64 ((a0n : Nat) : Int)), (24, Value.slice a0A a0n a0c), (23, Value.pointer (some ⟨blk2, 0 + 0, none⟩)), (22, Value.int .i64 ((k : Nat) : Int))] [.no, .no, .v (Value.slice a0A a0n a0c), .no, .no, .no] ((LoadsAt Try.prog (fun x_ => St w x_ [Res.row (Value.slice A2 (List.length (upto k)) c2) 3 1 (List.length (upto k)) ((upto k).map (Value.int .i64)), Res.row (Value.slice Aq6 (List.length (cia a0L e)) cq7) 3 1 (List.length (cia a0L e)) ((cia a0L e).map (Value.int .i64)), Res.box blk2 [Value.slice a0A a0n a0c] 32]) 30 ⟨blk2, 0 + 0, none⟩ (Value.slice a0A a0n a0c))) (by kernel_rfl) (ld_box (i := 2) rfl rfl (by kernel_rfl)) hS22 ?_
    rcases Bool.eq_false_or_eq_true (decide (((k : Nat) : Int) < ((a0n : Nat) : Int))) with hb24 | hb24
    · skip
      have hb24p := of_decide_eq_true hb24
      have hb_lt : k < a0n := by omega
      refine q_seg (S := (fun x_ => St w x_ [Res.row (Value.slice A2 (List.length (upto k)) c2) 3 1 (List.length (upto k)) ((upto k).map (Value.int .i64)), Res.row (Value.slice Aq6 (List.length (cia a0L e)) cq7) 3 1 (List.length (cia a0L e)) ((cia a0L e).map (Value.int .i64)), Res.box blk2 [Value.slice a0A a0n a0c] 32])) [(28, Value.int .i64 t)] [.no] (((decide (((k : Nat) : Int) < ((a0n : Nat) : Int))) = true)) (by kernel_rfl) hb24 hS22 ?_
      refine l_opg rfl (b := (decide (((k : Nat) : Int) < ((a0n : Nat) : Int)))) (want := true) (by kernel_rfl) hb24 (fun K hK => op_callv (d := some 29) rfl rfl ⟨_, Try.func32, by kernel_rfl, by kernel_rfl⟩ (vs := [Value.int .i64 t, Value.int .i64 1, Value.int .i64 4]) (by kernel_rfl) (v := Value.bool (inR t 1 4)) (l1In_c t 1 4 _) hS22 (fun w25 hS25 => hK _ _ ?_))
      clear hK K
      refine q_seg (S := (fun x_ => St w x_ [Res.row (Value.slice A2 (List.length (upto k)) c2) 3 1 (List.length (upto k)) ((upto k).map (Value.int .i64)), Res.row (Value.slice Aq6 (List.length (cia a0L e)) cq7) 3 1 (List.length (cia a0L e)) ((cia a0L e).map (Value.int .i64)), Res.box blk2 [Value.slice a0A a0n a0c] 32])) [(30, Value.bool (inR t 1 4))] [.v (.bool true)] (((decide (((k : Nat) : Int) < ((a0n : Nat) : Int))) = true)) (by kernel_rfl) hb24 hS25 ?_
      refine l_nil rfl ?_
      refine then_n ?_
      refine c_true (b := (inR t 1 4)) (by kernel_rfl) hI ?_
      refine wp_skip ?_
      refine then_n ?_
      refine wp_seq ?_
      refine wp_block ?_
      refine c_reg ?_
      refine q_seg (S := (fun x_ => St w x_ [Res.row (Value.slice A2 (List.length (upto k)) c2) 3 1 (List.length (upto k)) ((upto k).map (Value.int .i64)), Res.row (Value.slice Aq6 (List.length (cia a0L e)) cq7) 3 1 (List.length (cia a0L e)) ((cia a0L e).map (Value.int .i64)), Res.box blk2 [Value.slice a0A a0n a0c] 32])) [(34, Value.int .i64 ((k : Nat) : Int)), (33, Value.slice A2 (List.length (upto k)) c2)] [.no, .no] True (by kernel_rfl) trivial hS25 ?_
      refine l_op rfl rfl (fun K hK => op_buildSlice (d := some 35) rfl rfl (e := 3) (by kernel_rfl) 1 (by kernel_rfl) (by decide) (by decide) [Value.int .i64 ((k : Nat) : Int)] (by kernel_rfl) rfl hS25 (fun blk27 w26 hS26 => hK _ _ ?_))
      clear hK K
      refine l_op rfl rfl (fun K hK => op_append (d := some 36) rfl rfl elInt hS26 (i := 1) rfl rfl rfl (news := [Value.int .i64 ((k : Nat) : Int)]) (hS26.rd (List.mem_of_getElem? (i := 0) rfl)) (all_one (by rfl)) (by omega) (by omega) (fun v29 w28 hS28 => hK _ _ ?_))
      clear hK K
      obtain ⟨hlv29, Av29, cv29, hvv29, hnv29, hmv29⟩ := hS28.row_slice (List.mem_of_getElem? (i := 1) rfl)
      subst hvv29
      refine q_seg (S := (fun x_ => St w x_ [Res.row (Value.slice (some ⟨blk27, 0, none⟩) 1 1) 3 1 1 ([Value.int .i64 ((k : Nat) : Int)]), Res.row (Value.slice Av29 ((List.length (upto k)) + 1) cv29) 3 1 ((List.length (upto k)) + 1) (((upto k).map (Value.int .i64)) ++ [Value.int .i64 ((k : Nat) : Int)]), Res.row (Value.slice Aq6 (List.length (cia a0L e)) cq7) 3 1 (List.length (cia a0L e)) ((cia a0L e).map (Value.int .i64)), Res.box blk2 [Value.slice a0A a0n a0c] 32])) [(8, Value.slice Av29 ((List.length (upto k)) + 1) cv29)] [.no] True (by kernel_rfl) trivial hS28 ?_
      refine l_nil rfl ?_
      refine blk_n ?_
      refine then_n ?_
      refine c_reg ?_
      refine q_seg (S := (fun x_ => St w x_ [Res.row (Value.slice (some ⟨blk27, 0, none⟩) 1 1) 3 1 1 ([Value.int .i64 ((k : Nat) : Int)]), Res.row (Value.slice Av29 ((List.length (upto k)) + 1) cv29) 3 1 ((List.length (upto k)) + 1) (((upto k).map (Value.int .i64)) ++ [Value.int .i64 ((k : Nat) : Int)]), Res.row (Value.slice Aq6 (List.length (cia a0L e)) cq7) 3 1 (List.length (cia a0L e)) ((cia a0L e).map (Value.int .i64)), Res.box blk2 [Value.slice a0A a0n a0c] 32])) [(9, Value.int .i64 (((k : Nat) : Int) + (1 : Int))), (32, Value.int .i64 (((k : Nat) : Int) + (1 : Int))), (31, Value.int .i64 ((k : Nat) : Int))] [.no, .no, .no] ((InK .i64 (((k : Nat) : Int) + (1 : Int)))) (by kernel_rfl) (in64 (by omega) (by omega)) hS28 ?_
      refine l_nil rfl ?_
      refine then_n ?_
      have hS28s4 : St w w28 [Res.row (Value.slice Av29 ((List.length (upto k)) + 1) cv29) 3 1 ((List.length (upto k)) + 1) (((upto k).map (Value.int .i64)) ++ [Value.int .i64 ((k : Nat) : Int)]), Res.row (Value.slice Aq6 (List.length (cia a0L e)) cq7) 3 1 (List.length (cia a0L e)) ((cia a0L e).map (Value.int .i64)), Res.box blk2 [Value.slice a0A a0n a0c] 32] := (hS28.sub (List.Sublist.cons _ (List.Sublist.cons_cons _ (List.Sublist.cons_cons _ (List.Sublist.cons_cons _ List.Sublist.slnil)))))
      refine round_end ((k + 1, Av29, cv29)) ?_ ?_ ?_
      · exact (agree_cons (by kernel_rfl) (agree_cons (by kernel_rfl) (agree_eq (v0 := Value.slice Av29 ((List.length (upto k)) + 1) cv29) (by kernel_rfl) (congrArg (fun m => Value.slice Av29 m cv29) (by rw [upto_succ]; simp)) (agree_cons (by kernel_rfl) agree_nil))))
      · exact ⟨(by omega), (hS28s4.eqv (by rw [upto_succ]; simp))⟩
      · exact (by first | omega | (dsimp only; omega))
    · skip
      have hb24p := of_decide_eq_false hb24
      refine q_seg (S := (fun x_ => St w x_ [Res.row (Value.slice A2 (List.length (upto k)) c2) 3 1 (List.length (upto k)) ((upto k).map (Value.int .i64)), Res.row (Value.slice Aq6 (List.length (cia a0L e)) cq7) 3 1 (List.length (cia a0L e)) ((cia a0L e).map (Value.int .i64)), Res.box blk2 [Value.slice a0A a0n a0c] 32])) [(30, Value.bool false), (29, undef), (28, undef)] [.skip, .skip, .v (.bool false)] (((decide (((k : Nat) : Int) < ((a0n : Nat) : Int))) = !true) ∧ ((decide (((k : Nat) : Int) < ((a0n : Nat) : Int))) = !true) ∧ ((decide (((k : Nat) : Int) < ((a0n : Nat) : Int))) = false)) (by kernel_rfl) ⟨hb24, hb24, hb24⟩ hS22 ?_
      refine l_nil rfl ?_
      refine then_n ?_
      refine c_false (b := false) (by kernel_rfl) rfl ?_
      refine wp_exit ?_
      refine then_x ?_
      refine then_x ?_
      refine blk_hit ?_
      refine then_n ?_
      refine wp_seq ?_
      refine c_reg ?_
      refine q_seg (S := (fun x_ => St w x_ [Res.row (Value.slice A2 (List.length (upto k)) c2) 3 1 (List.length (upto k)) ((upto k).map (Value.int .i64)), Res.row (Value.slice Aq6 (List.length (cia a0L e)) cq7) 3 1 (List.length (cia a0L e)) ((cia a0L e).map (Value.int .i64)), Res.box blk2 [Value.slice a0A a0n a0c] 32])) [(6, Value.slice A2 (List.length (upto k)) c2), (37, Value.slice A2 (List.length (upto k)) c2)] [.no, .no] True (by kernel_rfl) trivial hS22 ?_
      refine l_nil rfl ?_
      refine then_n ?_
      refine wp_ret ?_
      have hS22s5 : St w w22 [Res.row (Value.slice A2 (List.length (upto k)) c2) 3 1 (List.length (upto k)) ((upto k).map (Value.int .i64))] := (hS22.sub (List.Sublist.cons_cons _ (List.Sublist.cons _ (List.Sublist.cons _ List.Sublist.slnil))))
      have hkn2 : k = a0n := by omega
      have hpc : pcells a0L e t = (upto a0n) := by rw [pcells, hI, cond_true, decide_eq_false hb8p]; show upto a0L.length = _; rw [a0l]
      exact c_end (S := (fun x_ => St w x_ [Res.row (Value.slice A2 (List.length (upto k)) c2) 3 1 (List.length (upto k)) ((upto k).map (Value.int .i64)), Res.row (Value.slice Aq6 (List.length (cia a0L e)) cq7) 3 1 (List.length (cia a0L e)) ((cia a0L e).map (Value.int .i64)), Res.box blk2 [Value.slice a0A a0n a0c] 32])) (rs := [.tmp 6]) rfl [] (v := Value.slice A2 (List.length (upto k)) c2) (C := True) (by kernel_rfl) trivial hS22 ((hS22s5.eqv (by simp [hpc, hkn2, upto_length])).rt ⟨A2, c2, by simp [hpc, hkn2, upto_length], rfl⟩)
theorem PagingCells_s_out (a0A : Option Addr) (a0n a0c : Nat) (a0L : List (Int × List Int)) (e t : Int) (w : World) (a0h : RdL .i64 true w w.heap.size a0A a0n a0L) (a0w : wt a0L ≤ 1099511627776) (hI : inR t 1 4 = false) : Calls Try.prog 22 #[Value.agg #[Value.slice a0A a0n a0c], .int .i64 e, .int .i64 t] w (Ret w (fun v new => ∃ (A_ : Option Addr) (c_ : Nat), v = .slice A_ ((pcells a0L e t)).length c_ ∧ new = [.row (.slice A_ ((pcells a0L e t)).length c_) 3 1 ((pcells a0L e t)).length (((pcells a0L e t)).map (.int .i64))])) := by
  have a0l := a0h.len
  have a0v := wt_len a0L
  have hcil := cia_len a0L e a0L.length
  refine calls_FA Try.func22 rfl (n := 38) rfl (l := [(0, Value.agg #[Value.slice a0A a0n a0c]), (1, Value.int .i64 e), (2, Value.int .i64 t)]) rfl (by simp) (fun g => ?_)
  have hS := St.init w
  refine wp_seq ?_
  refine c_reg ?_
  refine l_op rfl rfl (fun K hK => op_box (d := some 3) rfl rfl [Value.slice a0A a0n a0c] (by kernel_rfl) hS (fun blk2 w1 hS1 => hK _ _ ?_))
  clear hK K
  refine q_seg (S := (fun x_ => St w x_ [Res.box blk2 [Value.slice a0A a0n a0c] 32])) [(6, Value.slice none 0 0)] [.no] True (by kernel_rfl) trivial hS1 ?_
  refine l_nil rfl ?_
  refine then_n ?_
  refine wp_seq ?_
  refine c_reg ?_
  refine q_seg (S := (fun x_ => St w x_ [Res.box blk2 [Value.slice a0A a0n a0c] 32])) [(11, Value.int .i64 e), (10, Value.agg #[Value.slice a0A a0n a0c])] [.v (Value.agg #[Value.slice a0A a0n a0c]), .no] ((LoadsAt Try.prog (fun x_ => St w x_ [Res.box blk2 [Value.slice a0A a0n a0c] 32]) 32 ⟨blk2, 0, none⟩ (Value.agg #[Value.slice a0A a0n a0c]))) (by kernel_rfl) (ld_boxN (i := 0) (k := 1) rfl rfl rfl (by kernel_rfl)) hS1 ?_
  refine l_op rfl rfl (fun K hK => op_call (d := some 12) rfl rfl ⟨_, Try.func19, by kernel_rfl, by kernel_rfl⟩ (vs := [Value.agg #[Value.slice a0A a0n a0c], Value.int .i64 e]) (by kernel_rfl) (CellsInArea_s_c a0A a0n a0c a0L e w1 (hS1.rdllow a0h) (by omega)) hS1 (fun v4 new5 w3 Rw3 hS3 => hK _ _ ?_))
  clear hK K
  obtain ⟨Aq6, cq7, rfl, rfl⟩ := Rw3
  refine q_seg (S := (fun x_ => St w x_ [Res.row (Value.slice Aq6 (List.length (cia a0L e)) cq7) 3 1 (List.length (cia a0L e)) ((cia a0L e).map (Value.int .i64)), Res.box blk2 [Value.slice a0A a0n a0c] 32])) [(7, Value.slice Aq6 (List.length (cia a0L e)) cq7)] [.no] True (by kernel_rfl) trivial hS3 ?_
  refine l_nil rfl ?_
  refine then_n ?_
  refine wp_seq ?_
  refine wp_seq ?_
  refine c_reg ?_
  refine q_seg (S := (fun x_ => St w x_ [Res.row (Value.slice Aq6 (List.length (cia a0L e)) cq7) 3 1 (List.length (cia a0L e)) ((cia a0L e).map (Value.int .i64)), Res.box blk2 [Value.slice a0A a0n a0c] 32])) [(15, Value.bool (decide (t = (1 : Int)))), (14, Value.bool (decide (t = (1 : Int)))), (13, Value.int .i64 t)] [.no, .no, .no] True (by kernel_rfl) trivial hS3 ?_
  rcases Bool.eq_false_or_eq_true (decide (t = (1 : Int))) with hb8 | hb8
  · skip
    have hb8p := of_decide_eq_true hb8
    refine q_seg (S := (fun x_ => St w x_ [Res.row (Value.slice Aq6 (List.length (cia a0L e)) cq7) 3 1 (List.length (cia a0L e)) ((cia a0L e).map (Value.int .i64)), Res.box blk2 [Value.slice a0A a0n a0c] 32])) [(19, Value.bool (decide ((0 : Int) < (((List.length (cia a0L e)) : Nat) : Int)))), (18, Value.bool (decide ((0 : Int) < (((List.length (cia a0L e)) : Nat) : Int)))), (17, Value.int .i64 (((List.length (cia a0L e)) : Nat) : Int)), (16, Value.slice Aq6 (List.length (cia a0L e)) cq7)] [.no, .no, .no, .v (.bool true)] (((decide (t = (1 : Int))) = true) ∧ ((decide (t = (1 : Int))) = true) ∧ ((decide (t = (1 : Int))) = true) ∧ ((decide (t = (1 : Int))) = true)) (by kernel_rfl) ⟨hb8, hb8, hb8, hb8⟩ hS3 ?_
    refine l_nil rfl ?_
    refine then_n ?_
    rcases Bool.eq_false_or_eq_true (decide ((0 : Int) < (((List.length (cia a0L e)) : Nat) : Int))) with hb9 | hb9
    · skip
      have hb9p := of_decide_eq_true hb9
      refine c_true (b := (decide ((0 : Int) < (((List.length (cia a0L e)) : Nat) : Int)))) (by kernel_rfl) hb9 ?_
      refine wp_seq ?_
      refine c_reg ?_
      refine q_seg (S := (fun x_ => St w x_ [Res.row (Value.slice Aq6 (List.length (cia a0L e)) cq7) 3 1 (List.length (cia a0L e)) ((cia a0L e).map (Value.int .i64)), Res.box blk2 [Value.slice a0A a0n a0c] 32])) [(6, Value.slice Aq6 (List.length (cia a0L e)) cq7), (20, Value.slice Aq6 (List.length (cia a0L e)) cq7)] [.no, .no] True (by kernel_rfl) trivial hS3 ?_
      refine l_nil rfl ?_
      refine then_n ?_
      refine wp_ret ?_
      refine then_r ?_
      have hS3s1 : St w w3 [Res.row (Value.slice Aq6 (List.length (cia a0L e)) cq7) 3 1 (List.length (cia a0L e)) ((cia a0L e).map (Value.int .i64))] := (hS3.sub (List.Sublist.cons_cons _ (List.Sublist.cons _ List.Sublist.slnil)))
      have hpc : pcells a0L e t = (cia a0L e) := absurd hI (by rw [hb8p]; decide)
      exact c_end (S := (fun x_ => St w x_ [Res.row (Value.slice Aq6 (List.length (cia a0L e)) cq7) 3 1 (List.length (cia a0L e)) ((cia a0L e).map (Value.int .i64)), Res.box blk2 [Value.slice a0A a0n a0c] 32])) (rs := [.tmp 6]) rfl [] (v := Value.slice Aq6 (List.length (cia a0L e)) cq7) (C := True) (by kernel_rfl) trivial hS3 ((hS3s1.eqv (by simp [hpc, upto_length])).rt ⟨Aq6, cq7, by simp [hpc, upto_length], rfl⟩)
    · skip
      have hb9p := of_decide_eq_false hb9
      refine c_false (b := (decide ((0 : Int) < (((List.length (cia a0L e)) : Nat) : Int)))) (by kernel_rfl) hb9 ?_
      refine wp_skip ?_
      refine then_n ?_
      refine wp_seq ?_
      refine c_reg ?_
      refine l_op rfl rfl (fun K hK => op_buildSlice (d := some 21) rfl rfl (e := 3) (by kernel_rfl) 1 (by kernel_rfl) (by decide) (by decide) [] (by kernel_rfl) rfl hS3 (fun blk11 w10 hS10 => hK _ _ ?_))
      clear hK K
      refine q_seg (S := (fun x_ => St w x_ [Res.row (Value.slice (some ⟨blk11, 0, none⟩) 0 0) 3 1 0 ([]), Res.row (Value.slice Aq6 (List.length (cia a0L e)) cq7) 3 1 (List.length (cia a0L e)) ((cia a0L e).map (Value.int .i64)), Res.box blk2 [Value.slice a0A a0n a0c] 32])) [(8, Value.slice (some ⟨blk11, 0, none⟩) 0 0)] [.no] True (by kernel_rfl) trivial hS10 ?_
      refine l_nil rfl ?_
      refine then_n ?_
      refine wp_seq ?_
      refine wp_seq ?_
      refine c_reg ?_
      refine q_seg (S := (fun x_ => St w x_ [Res.row (Value.slice (some ⟨blk11, 0, none⟩) 0 0) 3 1 0 ([]), Res.row (Value.slice Aq6 (List.length (cia a0L e)) cq7) 3 1 (List.length (cia a0L e)) ((cia a0L e).map (Value.int .i64)), Res.box blk2 [Value.slice a0A a0n a0c] 32])) [(9, Value.int .i64 0)] [.no] True (by kernel_rfl) trivial hS10 ?_
      refine l_nil rfl ?_
      refine then_n ?_
      refine wp_block ?_
      refine c_loop (X := Nat × Option Addr × Nat) (fun (x_ : Nat × Option Addr × Nat) => match x_ with | (k, A2, c2) => [(2, Value.int .i64 t), (3, Value.pointer (some ⟨blk2, 0, none⟩)), (8, Value.slice A2 (List.length (upto k)) c2), (9, Value.int .i64 ((k : Nat) : Int))]) (fun (x_ : Nat × Option Addr × Nat) (wr : World) => match x_ with | (k, A2, c2) => (k = 0) ∧ St w wr [Res.row (Value.slice A2 (List.length (upto k)) c2) 3 1 (List.length (upto k)) ((upto k).map (Value.int .i64)), Res.row (Value.slice Aq6 (List.length (cia a0L e)) cq7) 3 1 (List.length (cia a0L e)) ((cia a0L e).map (Value.int .i64)), Res.box blk2 [Value.slice a0A a0n a0c] 32]) (fun (x_ : Nat × Option Addr × Nat) => match x_ with | (k, A2, c2) => a0n - k) ((0, (some ⟨blk11, 0, none⟩), 0)) ?_ ?_ ?_
      · exact (agree_cons (by kernel_rfl) (agree_cons (by kernel_rfl) (agree_cons (by kernel_rfl) (agree_cons (by kernel_rfl) agree_nil))))
      · exact ⟨rfl, hS10⟩
      rintro ⟨k, A2, c2⟩ g13 w12 ⟨hk0, hS12⟩
      have hul := upto_length k
      refine wp_seq ?_
      refine wp_seq ?_
      refine c_reg ?_
      refine q_seg (S := (fun x_ => St w x_ [Res.row (Value.slice A2 (List.length (upto k)) c2) 3 1 (List.length (upto k)) ((upto k).map (Value.int .i64)), Res.row (Value.slice Aq6 (List.length (cia a0L e)) cq7) 3 1 (List.length (cia a0L e)) ((cia a0L e).map (Value.int .i64)), Res.box blk2 [Value.slice a0A a0n a0c] 32])) [(27, Value.bool (decide (((k : Nat) : Int) < ((a0n : Nat) : Int)))), (26, Value.bool (decide (((k : Nat) : Int) < ((a0n : Nat) : Int)))), (25, Value.int .i64 ((a0n : Nat) : Int)), (24, Value.slice a0A a0n a0c), (23, Value.pointer (some ⟨blk2, 0 + 0, none⟩)), (22, Value.int .i64 ((k : Nat) : Int))] [.no, .no, .v (Value.slice a0A a0n a0c), .no, .no, .no] ((LoadsAt Try.prog (fun x_ => St w x_ [Res.row (Value.slice A2 (List.length (upto k)) c2) 3 1 (List.length (upto k)) ((upto k).map (Value.int .i64)), Res.row (Value.slice Aq6 (List.length (cia a0L e)) cq7) 3 1 (List.length (cia a0L e)) ((cia a0L e).map (Value.int .i64)), Res.box blk2 [Value.slice a0A a0n a0c] 32]) 30 ⟨blk2, 0 + 0, none⟩ (Value.slice a0A a0n a0c))) (by kernel_rfl) (ld_box (i := 2) rfl rfl (by kernel_rfl)) hS12 ?_
      rcases Bool.eq_false_or_eq_true (decide (((k : Nat) : Int) < ((a0n : Nat) : Int))) with hb14 | hb14
      · skip
        have hb14p := of_decide_eq_true hb14
        have hb_lt : k < a0n := by omega
        refine q_seg (S := (fun x_ => St w x_ [Res.row (Value.slice A2 (List.length (upto k)) c2) 3 1 (List.length (upto k)) ((upto k).map (Value.int .i64)), Res.row (Value.slice Aq6 (List.length (cia a0L e)) cq7) 3 1 (List.length (cia a0L e)) ((cia a0L e).map (Value.int .i64)), Res.box blk2 [Value.slice a0A a0n a0c] 32])) [(28, Value.int .i64 t)] [.no] (((decide (((k : Nat) : Int) < ((a0n : Nat) : Int))) = true)) (by kernel_rfl) hb14 hS12 ?_
        refine l_opg rfl (b := (decide (((k : Nat) : Int) < ((a0n : Nat) : Int)))) (want := true) (by kernel_rfl) hb14 (fun K hK => op_callv (d := some 29) rfl rfl ⟨_, Try.func32, by kernel_rfl, by kernel_rfl⟩ (vs := [Value.int .i64 t, Value.int .i64 1, Value.int .i64 4]) (by kernel_rfl) (v := Value.bool (inR t 1 4)) (l1In_c t 1 4 _) hS12 (fun w15 hS15 => hK _ _ ?_))
        clear hK K
        refine q_seg (S := (fun x_ => St w x_ [Res.row (Value.slice A2 (List.length (upto k)) c2) 3 1 (List.length (upto k)) ((upto k).map (Value.int .i64)), Res.row (Value.slice Aq6 (List.length (cia a0L e)) cq7) 3 1 (List.length (cia a0L e)) ((cia a0L e).map (Value.int .i64)), Res.box blk2 [Value.slice a0A a0n a0c] 32])) [(30, Value.bool (inR t 1 4))] [.v (.bool true)] (((decide (((k : Nat) : Int) < ((a0n : Nat) : Int))) = true)) (by kernel_rfl) hb14 hS15 ?_
        refine l_nil rfl ?_
        refine then_n ?_
        refine c_false (b := (inR t 1 4)) (by kernel_rfl) hI ?_
        refine wp_exit ?_
        refine then_x ?_
        refine then_x ?_
        refine blk_hit ?_
        refine then_n ?_
        refine wp_seq ?_
        refine c_reg ?_
        refine q_seg (S := (fun x_ => St w x_ [Res.row (Value.slice A2 (List.length (upto k)) c2) 3 1 (List.length (upto k)) ((upto k).map (Value.int .i64)), Res.row (Value.slice Aq6 (List.length (cia a0L e)) cq7) 3 1 (List.length (cia a0L e)) ((cia a0L e).map (Value.int .i64)), Res.box blk2 [Value.slice a0A a0n a0c] 32])) [(6, Value.slice A2 (List.length (upto k)) c2), (37, Value.slice A2 (List.length (upto k)) c2)] [.no, .no] True (by kernel_rfl) trivial hS15 ?_
        refine l_nil rfl ?_
        refine then_n ?_
        refine wp_ret ?_
        have hS15s2 : St w w15 [Res.row (Value.slice A2 (List.length (upto k)) c2) 3 1 (List.length (upto k)) ((upto k).map (Value.int .i64))] := (hS15.sub (List.Sublist.cons_cons _ (List.Sublist.cons _ (List.Sublist.cons _ List.Sublist.slnil))))
        have hpc : pcells a0L e t = [] := by rw [pcells, hI]; rfl
        exact c_end (S := (fun x_ => St w x_ [Res.row (Value.slice A2 (List.length (upto k)) c2) 3 1 (List.length (upto k)) ((upto k).map (Value.int .i64)), Res.row (Value.slice Aq6 (List.length (cia a0L e)) cq7) 3 1 (List.length (cia a0L e)) ((cia a0L e).map (Value.int .i64)), Res.box blk2 [Value.slice a0A a0n a0c] 32])) (rs := [.tmp 6]) rfl [] (v := Value.slice A2 (List.length (upto k)) c2) (C := True) (by kernel_rfl) trivial hS15 ((hS15s2.eqv (by simp [hpc, hk0, upto])).rt ⟨A2, c2, by simp [hpc, hk0, upto], rfl⟩)
      · skip
        have hb14p := of_decide_eq_false hb14
        refine q_seg (S := (fun x_ => St w x_ [Res.row (Value.slice A2 (List.length (upto k)) c2) 3 1 (List.length (upto k)) ((upto k).map (Value.int .i64)), Res.row (Value.slice Aq6 (List.length (cia a0L e)) cq7) 3 1 (List.length (cia a0L e)) ((cia a0L e).map (Value.int .i64)), Res.box blk2 [Value.slice a0A a0n a0c] 32])) [(30, Value.bool false), (29, undef), (28, undef)] [.skip, .skip, .v (.bool false)] (((decide (((k : Nat) : Int) < ((a0n : Nat) : Int))) = !true) ∧ ((decide (((k : Nat) : Int) < ((a0n : Nat) : Int))) = !true) ∧ ((decide (((k : Nat) : Int) < ((a0n : Nat) : Int))) = false)) (by kernel_rfl) ⟨hb14, hb14, hb14⟩ hS12 ?_
        refine l_nil rfl ?_
        refine then_n ?_
        refine c_false (b := false) (by kernel_rfl) rfl ?_
        refine wp_exit ?_
        refine then_x ?_
        refine then_x ?_
        refine blk_hit ?_
        refine then_n ?_
        refine wp_seq ?_
        refine c_reg ?_
        refine q_seg (S := (fun x_ => St w x_ [Res.row (Value.slice A2 (List.length (upto k)) c2) 3 1 (List.length (upto k)) ((upto k).map (Value.int .i64)), Res.row (Value.slice Aq6 (List.length (cia a0L e)) cq7) 3 1 (List.length (cia a0L e)) ((cia a0L e).map (Value.int .i64)), Res.box blk2 [Value.slice a0A a0n a0c] 32])) [(6, Value.slice A2 (List.length (upto k)) c2), (37, Value.slice A2 (List.length (upto k)) c2)] [.no, .no] True (by kernel_rfl) trivial hS12 ?_
        refine l_nil rfl ?_
        refine then_n ?_
        refine wp_ret ?_
        have hS12s3 : St w w12 [Res.row (Value.slice A2 (List.length (upto k)) c2) 3 1 (List.length (upto k)) ((upto k).map (Value.int .i64))] := (hS12.sub (List.Sublist.cons_cons _ (List.Sublist.cons _ (List.Sublist.cons _ List.Sublist.slnil))))
        have hpc : pcells a0L e t = [] := by rw [pcells, hI]; rfl
        exact c_end (S := (fun x_ => St w x_ [Res.row (Value.slice A2 (List.length (upto k)) c2) 3 1 (List.length (upto k)) ((upto k).map (Value.int .i64)), Res.row (Value.slice Aq6 (List.length (cia a0L e)) cq7) 3 1 (List.length (cia a0L e)) ((cia a0L e).map (Value.int .i64)), Res.box blk2 [Value.slice a0A a0n a0c] 32])) (rs := [.tmp 6]) rfl [] (v := Value.slice A2 (List.length (upto k)) c2) (C := True) (by kernel_rfl) trivial hS12 ((hS12s3.eqv (by simp [hpc, hk0, upto])).rt ⟨A2, c2, by simp [hpc, hk0, upto], rfl⟩)
  · skip
    have hb8p := of_decide_eq_false hb8
    refine q_seg (S := (fun x_ => St w x_ [Res.row (Value.slice Aq6 (List.length (cia a0L e)) cq7) 3 1 (List.length (cia a0L e)) ((cia a0L e).map (Value.int .i64)), Res.box blk2 [Value.slice a0A a0n a0c] 32])) [(19, Value.bool false), (18, undef), (17, undef), (16, undef)] [.skip, .skip, .skip, .v (.bool false)] (((decide (t = (1 : Int))) = !true) ∧ ((decide (t = (1 : Int))) = !true) ∧ ((decide (t = (1 : Int))) = !true) ∧ ((decide (t = (1 : Int))) = false)) (by kernel_rfl) ⟨hb8, hb8, hb8, hb8⟩ hS3 ?_
    refine l_nil rfl ?_
    refine then_n ?_
    refine c_false (b := false) (by kernel_rfl) rfl ?_
    refine wp_skip ?_
    refine then_n ?_
    refine wp_seq ?_
    refine c_reg ?_
    refine l_op rfl rfl (fun K hK => op_buildSlice (d := some 21) rfl rfl (e := 3) (by kernel_rfl) 1 (by kernel_rfl) (by decide) (by decide) [] (by kernel_rfl) rfl hS3 (fun blk17 w16 hS16 => hK _ _ ?_))
    clear hK K
    refine q_seg (S := (fun x_ => St w x_ [Res.row (Value.slice (some ⟨blk17, 0, none⟩) 0 0) 3 1 0 ([]), Res.row (Value.slice Aq6 (List.length (cia a0L e)) cq7) 3 1 (List.length (cia a0L e)) ((cia a0L e).map (Value.int .i64)), Res.box blk2 [Value.slice a0A a0n a0c] 32])) [(8, Value.slice (some ⟨blk17, 0, none⟩) 0 0)] [.no] True (by kernel_rfl) trivial hS16 ?_
    refine l_nil rfl ?_
    refine then_n ?_
    refine wp_seq ?_
    refine wp_seq ?_
    refine c_reg ?_
    refine q_seg (S := (fun x_ => St w x_ [Res.row (Value.slice (some ⟨blk17, 0, none⟩) 0 0) 3 1 0 ([]), Res.row (Value.slice Aq6 (List.length (cia a0L e)) cq7) 3 1 (List.length (cia a0L e)) ((cia a0L e).map (Value.int .i64)), Res.box blk2 [Value.slice a0A a0n a0c] 32])) [(9, Value.int .i64 0)] [.no] True (by kernel_rfl) trivial hS16 ?_
    refine l_nil rfl ?_
    refine then_n ?_
    refine wp_block ?_
    refine c_loop (X := Nat × Option Addr × Nat) (fun (x_ : Nat × Option Addr × Nat) => match x_ with | (k, A2, c2) => [(2, Value.int .i64 t), (3, Value.pointer (some ⟨blk2, 0, none⟩)), (8, Value.slice A2 (List.length (upto k)) c2), (9, Value.int .i64 ((k : Nat) : Int))]) (fun (x_ : Nat × Option Addr × Nat) (wr : World) => match x_ with | (k, A2, c2) => (k = 0) ∧ St w wr [Res.row (Value.slice A2 (List.length (upto k)) c2) 3 1 (List.length (upto k)) ((upto k).map (Value.int .i64)), Res.row (Value.slice Aq6 (List.length (cia a0L e)) cq7) 3 1 (List.length (cia a0L e)) ((cia a0L e).map (Value.int .i64)), Res.box blk2 [Value.slice a0A a0n a0c] 32]) (fun (x_ : Nat × Option Addr × Nat) => match x_ with | (k, A2, c2) => a0n - k) ((0, (some ⟨blk17, 0, none⟩), 0)) ?_ ?_ ?_
    · exact (agree_cons (by kernel_rfl) (agree_cons (by kernel_rfl) (agree_cons (by kernel_rfl) (agree_cons (by kernel_rfl) agree_nil))))
    · exact ⟨rfl, hS16⟩
    rintro ⟨k, A2, c2⟩ g19 w18 ⟨hk0, hS18⟩
    have hul := upto_length k
    refine wp_seq ?_
    refine wp_seq ?_
    refine c_reg ?_
    refine q_seg (S := (fun x_ => St w x_ [Res.row (Value.slice A2 (List.length (upto k)) c2) 3 1 (List.length (upto k)) ((upto k).map (Value.int .i64)), Res.row (Value.slice Aq6 (List.length (cia a0L e)) cq7) 3 1 (List.length (cia a0L e)) ((cia a0L e).map (Value.int .i64)), Res.box blk2 [Value.slice a0A a0n a0c] 32])) [(27, Value.bool (decide (((k : Nat) : Int) < ((a0n : Nat) : Int)))), (26, Value.bool (decide (((k : Nat) : Int) < ((a0n : Nat) : Int)))), (25, Value.int .i64 ((a0n : Nat) : Int)), (24, Value.slice a0A a0n a0c), (23, Value.pointer (some ⟨blk2, 0 + 0, none⟩)), (22, Value.int .i64 ((k : Nat) : Int))] [.no, .no, .v (Value.slice a0A a0n a0c), .no, .no, .no] ((LoadsAt Try.prog (fun x_ => St w x_ [Res.row (Value.slice A2 (List.length (upto k)) c2) 3 1 (List.length (upto k)) ((upto k).map (Value.int .i64)), Res.row (Value.slice Aq6 (List.length (cia a0L e)) cq7) 3 1 (List.length (cia a0L e)) ((cia a0L e).map (Value.int .i64)), Res.box blk2 [Value.slice a0A a0n a0c] 32]) 30 ⟨blk2, 0 + 0, none⟩ (Value.slice a0A a0n a0c))) (by kernel_rfl) (ld_box (i := 2) rfl rfl (by kernel_rfl)) hS18 ?_
    rcases Bool.eq_false_or_eq_true (decide (((k : Nat) : Int) < ((a0n : Nat) : Int))) with hb20 | hb20
    · skip
      have hb20p := of_decide_eq_true hb20
      have hb_lt : k < a0n := by omega
      refine q_seg (S := (fun x_ => St w x_ [Res.row (Value.slice A2 (List.length (upto k)) c2) 3 1 (List.length (upto k)) ((upto k).map (Value.int .i64)), Res.row (Value.slice Aq6 (List.length (cia a0L e)) cq7) 3 1 (List.length (cia a0L e)) ((cia a0L e).map (Value.int .i64)), Res.box blk2 [Value.slice a0A a0n a0c] 32])) [(28, Value.int .i64 t)] [.no] (((decide (((k : Nat) : Int) < ((a0n : Nat) : Int))) = true)) (by kernel_rfl) hb20 hS18 ?_
      refine l_opg rfl (b := (decide (((k : Nat) : Int) < ((a0n : Nat) : Int)))) (want := true) (by kernel_rfl) hb20 (fun K hK => op_callv (d := some 29) rfl rfl ⟨_, Try.func32, by kernel_rfl, by kernel_rfl⟩ (vs := [Value.int .i64 t, Value.int .i64 1, Value.int .i64 4]) (by kernel_rfl) (v := Value.bool (inR t 1 4)) (l1In_c t 1 4 _) hS18 (fun w21 hS21 => hK _ _ ?_))
      clear hK K
      refine q_seg (S := (fun x_ => St w x_ [Res.row (Value.slice A2 (List.length (upto k)) c2) 3 1 (List.length (upto k)) ((upto k).map (Value.int .i64)), Res.row (Value.slice Aq6 (List.length (cia a0L e)) cq7) 3 1 (List.length (cia a0L e)) ((cia a0L e).map (Value.int .i64)), Res.box blk2 [Value.slice a0A a0n a0c] 32])) [(30, Value.bool (inR t 1 4))] [.v (.bool true)] (((decide (((k : Nat) : Int) < ((a0n : Nat) : Int))) = true)) (by kernel_rfl) hb20 hS21 ?_
      refine l_nil rfl ?_
      refine then_n ?_
      refine c_false (b := (inR t 1 4)) (by kernel_rfl) hI ?_
      refine wp_exit ?_
      refine then_x ?_
      refine then_x ?_
      refine blk_hit ?_
      refine then_n ?_
      refine wp_seq ?_
      refine c_reg ?_
      refine q_seg (S := (fun x_ => St w x_ [Res.row (Value.slice A2 (List.length (upto k)) c2) 3 1 (List.length (upto k)) ((upto k).map (Value.int .i64)), Res.row (Value.slice Aq6 (List.length (cia a0L e)) cq7) 3 1 (List.length (cia a0L e)) ((cia a0L e).map (Value.int .i64)), Res.box blk2 [Value.slice a0A a0n a0c] 32])) [(6, Value.slice A2 (List.length (upto k)) c2), (37, Value.slice A2 (List.length (upto k)) c2)] [.no, .no] True (by kernel_rfl) trivial hS21 ?_
      refine l_nil rfl ?_
      refine then_n ?_
      refine wp_ret ?_
      have hS21s4 : St w w21 [Res.row (Value.slice A2 (List.length (upto k)) c2) 3 1 (List.length (upto k)) ((upto k).map (Value.int .i64))] := (hS21.sub (List.Sublist.cons_cons _ (List.Sublist.cons _ (List.Sublist.cons _ List.Sublist.slnil))))
      have hpc : pcells a0L e t = [] := by rw [pcells, hI]; rfl
      exact c_end (S := (fun x_ => St w x_ [Res.row (Value.slice A2 (List.length (upto k)) c2) 3 1 (List.length (upto k)) ((upto k).map (Value.int .i64)), Res.row (Value.slice Aq6 (List.length (cia a0L e)) cq7) 3 1 (List.length (cia a0L e)) ((cia a0L e).map (Value.int .i64)), Res.box blk2 [Value.slice a0A a0n a0c] 32])) (rs := [.tmp 6]) rfl [] (v := Value.slice A2 (List.length (upto k)) c2) (C := True) (by kernel_rfl) trivial hS21 ((hS21s4.eqv (by simp [hpc, hk0, upto])).rt ⟨A2, c2, by simp [hpc, hk0, upto], rfl⟩)
    · skip
      have hb20p := of_decide_eq_false hb20
      refine q_seg (S := (fun x_ => St w x_ [Res.row (Value.slice A2 (List.length (upto k)) c2) 3 1 (List.length (upto k)) ((upto k).map (Value.int .i64)), Res.row (Value.slice Aq6 (List.length (cia a0L e)) cq7) 3 1 (List.length (cia a0L e)) ((cia a0L e).map (Value.int .i64)), Res.box blk2 [Value.slice a0A a0n a0c] 32])) [(30, Value.bool false), (29, undef), (28, undef)] [.skip, .skip, .v (.bool false)] (((decide (((k : Nat) : Int) < ((a0n : Nat) : Int))) = !true) ∧ ((decide (((k : Nat) : Int) < ((a0n : Nat) : Int))) = !true) ∧ ((decide (((k : Nat) : Int) < ((a0n : Nat) : Int))) = false)) (by kernel_rfl) ⟨hb20, hb20, hb20⟩ hS18 ?_
      refine l_nil rfl ?_
      refine then_n ?_
      refine c_false (b := false) (by kernel_rfl) rfl ?_
      refine wp_exit ?_
      refine then_x ?_
      refine then_x ?_
      refine blk_hit ?_
      refine then_n ?_
      refine wp_seq ?_
      refine c_reg ?_
      refine q_seg (S := (fun x_ => St w x_ [Res.row (Value.slice A2 (List.length (upto k)) c2) 3 1 (List.length (upto k)) ((upto k).map (Value.int .i64)), Res.row (Value.slice Aq6 (List.length (cia a0L e)) cq7) 3 1 (List.length (cia a0L e)) ((cia a0L e).map (Value.int .i64)), Res.box blk2 [Value.slice a0A a0n a0c] 32])) [(6, Value.slice A2 (List.length (upto k)) c2), (37, Value.slice A2 (List.length (upto k)) c2)] [.no, .no] True (by kernel_rfl) trivial hS18 ?_
      refine l_nil rfl ?_
      refine then_n ?_
      refine wp_ret ?_
      have hS18s5 : St w w18 [Res.row (Value.slice A2 (List.length (upto k)) c2) 3 1 (List.length (upto k)) ((upto k).map (Value.int .i64))] := (hS18.sub (List.Sublist.cons_cons _ (List.Sublist.cons _ (List.Sublist.cons _ List.Sublist.slnil))))
      have hpc : pcells a0L e t = [] := by rw [pcells, hI]; rfl
      exact c_end (S := (fun x_ => St w x_ [Res.row (Value.slice A2 (List.length (upto k)) c2) 3 1 (List.length (upto k)) ((upto k).map (Value.int .i64)), Res.row (Value.slice Aq6 (List.length (cia a0L e)) cq7) 3 1 (List.length (cia a0L e)) ((cia a0L e).map (Value.int .i64)), Res.box blk2 [Value.slice a0A a0n a0c] 32])) (rs := [.tmp 6]) rfl [] (v := Value.slice A2 (List.length (upto k)) c2) (C := True) (by kernel_rfl) trivial hS18 ((hS18s5.eqv (by simp [hpc, hk0, upto])).rt ⟨A2, c2, by simp [hpc, hk0, upto], rfl⟩)
theorem PagingCells_s_c (a0A : Option Addr) (a0n a0c : Nat) (a0L : List (Int × List Int)) (e t : Int) (w : World) (a0h : RdL .i64 true w w.heap.size a0A a0n a0L) (a0w : wt a0L ≤ 1099511627776) : Calls Try.prog 22 #[Value.agg #[Value.slice a0A a0n a0c], .int .i64 e, .int .i64 t] w (Ret w (fun v new => ∃ (A_ : Option Addr) (c_ : Nat), v = .slice A_ ((pcells a0L e t)).length c_ ∧ new = [.row (.slice A_ ((pcells a0L e t)).length c_) 3 1 ((pcells a0L e t)).length (((pcells a0L e t)).map (.int .i64))])) := by
  rcases Bool.eq_false_or_eq_true (inR t 1 4) with h | h
  · exact PagingCells_s_in a0A a0n a0c a0L e t w a0h a0w h
  · exact PagingCells_s_out a0A a0n a0c a0L e t w a0h a0w h
end Go.Proofs.Ytkcedoehehjceaa
