/-
  Contracts of the draws of the overload seat, and of the waiting time.
-/
import Derived.Test.YtdbbaiflhofkaaaGDr
import Derived.Test.YtdbbaiflhofkaaaDoorL
import Derived.Test.YtdbbaiflhofkaaaGOv
namespace Go.Proofs.Ytdbbaiflhofkaaa
open Go.RowKit
set_option maxRecDepth 100000

theorem big_c (A : Option Addr) (n c : Nat) (w : World) : Calls Try.prog 19 #[.slice A n c] w (RetV w (.bool (decide ((1048576 : Int) < ((n : Nat) : Int))))) := by
  refine calls_FA Try.func19 rfl (n := 6) rfl (l := [(0, Value.slice A n c)]) rfl (by simp) (fun g => ?_)
  have hS := St.init w
  refine wp_seq ?_
  refine c_reg ?_
  refine q_seg (S := (fun x_ => St w x_ [])) [(2, Value.bool false)] [.no] True (by kernel_rfl) trivial hS ?_
  refine l_nil rfl ?_
  refine then_n ?_
  refine wp_seq ?_
  refine c_reg ?_
  refine q_seg (S := (fun x_ => St w x_ [])) [(2, Value.bool (decide ((1048576 : Int) < ((n : Nat) : Int)))), (5, Value.bool (decide ((1048576 : Int) < ((n : Nat) : Int)))), (4, Value.int .i64 ((n : Nat) : Int)), (3, Value.slice A n c)] [.no, .no, .no, .no] True (by kernel_rfl) trivial hS ?_
  refine l_nil rfl ?_
  refine then_n ?_
  refine wp_ret ?_
  exact c_end (S := (fun x_ => St w x_ [])) (rs := [.tmp 2]) rfl [] (v := Value.bool (decide ((1048576 : Int) < ((n : Nat) : Int)))) (C := True) (by kernel_rfl) trivial hS ((hS.rv rfl))
theorem at_c (A : Option Addr) (n c : Nat) (zs : List Int) (i : Int) (w : World) (hn : n ≤ 1048576) (hi0 : 0 ≤ i) (hi1 : i ≤ 1048576) (hz : okz .u8 zs) (hr : Rd w w.heap.size A n (zs.map (Value.int .u8))) : Calls Try.prog 26 #[.slice A n c, .int .i64 i] w (Ret w (fun v new => ∃ x : Int, v = .int .i64 x ∧ new = [] ∧ 0 ≤ x ∧ x ≤ 255)) := by
  have hzl := hr.len
  refine calls_FA Try.func26 rfl (n := 21) rfl (l := [(0, Value.slice A n c), (1, Value.int .i64 i)]) rfl (by simp) (fun g => ?_)
  have hS := St.init w
  refine wp_seq ?_
  refine c_reg ?_
  refine q_seg (S := (fun x_ => St w x_ [])) [(4, Value.int .i64 0)] [.no] True (by kernel_rfl) trivial hS ?_
  refine l_nil rfl ?_
  refine then_n ?_
  refine wp_seq ?_
  refine wp_seq ?_
  refine c_reg ?_
  refine q_seg (S := (fun x_ => St w x_ [])) [(8, Value.bool (decide (i < ((n : Nat) : Int)))), (7, Value.int .i64 ((n : Nat) : Int)), (6, Value.slice A n c), (5, Value.int .i64 i)] [.no, .no, .no, .no] True (by kernel_rfl) trivial hS ?_
  refine l_nil rfl ?_
  refine then_n ?_
  rcases Bool.eq_false_or_eq_true (decide (i < ((n : Nat) : Int))) with hb1 | hb1
  · skip
    have hb1p := of_decide_eq_true hb1
    obtain ⟨bq, off, rfl, hbB, hcl⟩ := hr.2 (by omega)
    obtain ⟨z, hzk, hzm⟩ := get_int (zs := zs) hr.len (x := i) hi0 (by omega)
    obtain ⟨hz1, hz2⟩ := okz8 hz z hzm
    refine c_true (b := (decide (i < ((n : Nat) : Int)))) (by kernel_rfl) hb1 ?_
    refine wp_seq ?_
    refine c_reg ?_
    refine q_seg (S := (fun x_ => St w x_ [])) [(4, Value.int .i64 z), (13, Value.int .i64 z), (12, Value.int .u8 z), (11, Value.pointer (some ⟨bq, off + Int.toNat i * 1, none⟩)), (10, Value.int .i64 i), (9, Value.slice (some ⟨bq, off, none⟩) n c)] [.no, .no, .no, .v (Value.int .u8 z), .no, .no] (((0 : Int) ≤ i) ∧ (i < ((n : Nat) : Int)) ∧ (LoadsAt Try.prog (fun x_ => St w x_ []) 5 ⟨bq, off + Int.toNat i * 1, none⟩ (Value.int .u8 z)) ∧ (InK .i64 z)) (by kernel_rfl) ⟨(by omega), (by omega), (ld_low (hcl _ _ (by simp [hzk])) (by kernel_rfl)), (in64 (by omega) (by omega))⟩ hS ?_
    refine l_nil rfl ?_
    refine then_n ?_
    refine wp_ret ?_
    refine then_r ?_
    exact c_end (S := (fun x_ => St w x_ [])) (rs := [.tmp 4]) rfl [] (v := Value.int .i64 z) (C := True) (by kernel_rfl) trivial hS ((hS.sub List.Sublist.slnil).rt ⟨_, rfl, rfl, by omega, by omega⟩)
  · skip
    have hb1p := of_decide_eq_false hb1
    refine c_false (b := (decide (i < ((n : Nat) : Int)))) (by kernel_rfl) hb1 ?_
    refine wp_skip ?_
    refine then_n ?_
    refine wp_seq ?_
    refine c_reg ?_
    refine q_seg (S := (fun x_ => St w x_ [])) [(4, Value.int .i64 (((i * (31 : Int)) + (((n : Nat) : Int) * (7 : Int))) % (256 : Int))), (20, Value.int .i64 (((i * (31 : Int)) + (((n : Nat) : Int) * (7 : Int))) % (256 : Int))), (19, Value.int .i64 ((i * (31 : Int)) + (((n : Nat) : Int) * (7 : Int)))), (18, Value.int .i64 (((n : Nat) : Int) * (7 : Int))), (17, Value.int .i64 ((n : Nat) : Int)), (16, Value.slice A n c), (15, Value.int .i64 (i * (31 : Int))), (14, Value.int .i64 i)] [.no, .no, .no, .no, .no, .no, .no, .no] ((InK .i64 (i * (31 : Int))) ∧ (InK .i64 (((n : Nat) : Int) * (7 : Int))) ∧ (InK .i64 ((i * (31 : Int)) + (((n : Nat) : Int) * (7 : Int)))) ∧ ((0 : Int) ≤ ((i * (31 : Int)) + (((n : Nat) : Int) * (7 : Int)))) ∧ ((0 : Int) < (256 : Int))) (by kernel_rfl) ⟨(in64 (by omega) (by omega)), (in64 (by omega) (by omega)), (in64 (by omega) (by omega)), (by omega), (by omega)⟩ hS ?_
    refine l_nil rfl ?_
    refine then_n ?_
    refine wp_ret ?_
    exact c_end (S := (fun x_ => St w x_ [])) (rs := [.tmp 4]) rfl [] (v := Value.int .i64 (((i * (31 : Int)) + (((n : Nat) : Int) * (7 : Int))) % (256 : Int))) (C := True) (by kernel_rfl) trivial hS ((hS.sub List.Sublist.slnil).rt ⟨_, rfl, rfl, by omega, by omega⟩)
theorem l23Draw_s_c (b : Nat) (A : Option Addr) (n c : Nat) (i h : Int)  (tl : List Res) (w0 w : World) (hS : St w0 w (Res.box b [Value.slice A n c, Value.int .i64 i, Value.int .i64 h] 62 :: tl)) (hC : CurI w0 A n i)  : Calls Try.prog 46 #[.pointer (some ⟨b, 0, none⟩)] w (fun e w' => ∃ v own', e = .returned v ∧ St w0 w' own' ∧ (∃ (i' h' : Int) (n_ : Int) (a_ : Int) (t_ : Int), v = Value.agg #[Value.int .i64 n_, Value.int .i64 a_, Value.int .i64 t_] ∧ own' = (Res.box b [Value.slice A n c, Value.int .i64 i', Value.int .i64 h'] 62 :: tl) ∧ CurI w0 A n i' ∧ (1 ≤ n_) ∧ (n_ ≤ 9) ∧ (0 ≤ a_) ∧ (a_ ≤ n_) ∧ (0 ≤ t_) ∧ (t_ ≤ 19))) := by
  obtain ⟨hClo, hChi, hCn, _⟩ := id hC
  refine calls_FA Try.func46 rfl (n := 15) rfl (l := [(0, Value.pointer (some ⟨b, 0, none⟩))]) rfl (by simp) (fun g => ?_)
  refine wp_seq ?_
  refine c_reg ?_
  refine l_op rfl rfl (fun K hK => op_alloc (d := some 2) rfl rfl [Value.int .i64 0, Value.int .i64 0, Value.int .i64 0] (by kernel_rfl) hS (fun blk2 w1 hS1 => hK _ _ ?_))
  clear hK K
  refine l_nil rfl ?_
  refine then_n ?_
  refine wp_seq ?_
  refine c_reg ?_
  refine q_seg (S := (fun x_ => St w0 x_ (Res.box blk2 [Value.int .i64 0, Value.int .i64 0, Value.int .i64 0] 25 :: Res.box b [Value.slice A n c, Value.int .i64 i, Value.int .i64 h] 62 :: tl))) [(4, Value.pointer (some ⟨b, 0, none⟩))] [.no] True (by kernel_rfl) trivial hS1 ?_
  refine l_op rfl rfl (fun K hK => op_callm (d := some 5) rfl rfl ⟨_, Try.func43, by kernel_rfl, by kernel_rfl⟩ (vs := [Value.pointer (some ⟨b, 0, none⟩), Value.int .i64 9]) (by kernel_rfl) (l1Below_s_c b A n c i h (9 : Int) _ w0 w1 (hS1.front 1 rfl) hC (by omega)) (fun v4 new5 w3 Rw3 hS3 => ?_))
  obtain ⟨ix7, hx8, xd6, rfl, rfl, hC9, hf10, hf11⟩ := Rw3
  refine hK _ _ ?_
  clear hK K
  refine q_seg (S := (fun x_ => St w0 x_ (Res.box b [Value.slice A n c, Value.int .i64 ix7, Value.int .i64 hx8] 62 :: Res.box blk2 [Value.int .i64 0, Value.int .i64 0, Value.int .i64 0] 25 :: tl))) [(3, Value.int .i64 ((1 : Int) + xd6)), (6, Value.int .i64 ((1 : Int) + xd6))] [.no, .no] ((InK .i64 ((1 : Int) + xd6))) (by kernel_rfl) (in64 (by omega) (by omega)) hS3 ?_
  refine l_nil rfl ?_
  refine then_n ?_
  refine wp_seq ?_
  refine c_reg ?_
  refine q_seg (S := (fun x_ => St w0 x_ (Res.box b [Value.slice A n c, Value.int .i64 ix7, Value.int .i64 hx8] 62 :: Res.box blk2 [Value.int .i64 0, Value.int .i64 0, Value.int .i64 0] 25 :: tl))) [(10, Value.int .i64 (((1 : Int) + xd6) + (1 : Int))), (9, Value.int .i64 ((1 : Int) + xd6)), (8, Value.pointer (some ⟨b, 0, none⟩)), (7, Value.int .i64 ((1 : Int) + xd6))] [.no, .no, .no, .no] ((InK .i64 (((1 : Int) + xd6) + (1 : Int)))) (by kernel_rfl) (in64 (by omega) (by omega)) hS3 ?_
  refine l_op rfl rfl (fun K hK => op_callm (d := some 11) rfl rfl ⟨_, Try.func43, by kernel_rfl, by kernel_rfl⟩ (vs := [Value.pointer (some ⟨b, 0, none⟩), Value.int .i64 (((1 : Int) + xd6) + (1 : Int))]) (by kernel_rfl) (l1Below_s_c b A n c ix7 hx8 (((1 : Int) + xd6) + (1 : Int)) _ w0 w3 hS3 hC9 (by omega)) (fun v13 new14 w12 Rw12 hS12 => ?_))
  obtain ⟨ix16, hx17, xd15, rfl, rfl, hC18, hf19, hf20⟩ := Rw12
  refine hK _ _ ?_
  clear hK K
  refine q_seg (S := (fun x_ => St w0 x_ (Res.box b [Value.slice A n c, Value.int .i64 ix16, Value.int .i64 hx17] 62 :: Res.box blk2 [Value.int .i64 0, Value.int .i64 0, Value.int .i64 0] 25 :: tl))) [(12, Value.pointer (some ⟨b, 0, none⟩))] [.no] True (by kernel_rfl) trivial hS12 ?_
  refine l_op rfl rfl (fun K hK => op_callm (d := some 13) rfl rfl ⟨_, Try.func43, by kernel_rfl, by kernel_rfl⟩ (vs := [Value.pointer (some ⟨b, 0, none⟩), Value.int .i64 20]) (by kernel_rfl) (l1Below_s_c b A n c ix16 hx17 (20 : Int) _ w0 w12 hS12 hC18 (by omega)) (fun v22 new23 w21 Rw21 hS21 => ?_))
  obtain ⟨ix25, hx26, xd24, rfl, rfl, hC27, hf28, hf29⟩ := Rw21
  refine hK _ _ ?_
  clear hK K
  refine q_seg (S := (fun x_ => St w0 x_ (Res.box b [Value.slice A n c, Value.int .i64 ix25, Value.int .i64 hx26] 62 :: Res.box blk2 [Value.int .i64 0, Value.int .i64 0, Value.int .i64 0] 25 :: tl))) [(14, Value.agg #[Value.int .i64 ((1 : Int) + xd6), Value.int .i64 xd15, Value.int .i64 xd24])] [.no] True (by kernel_rfl) trivial hS21 ?_
  refine l_op rfl rfl (fun K hK => op_store (d := none) rfl rfl (i := 1) (b := blk2) (off := 0) (cs := [Value.int .i64 0, Value.int .i64 0, Value.int .i64 0]) (bt := 25) (by kernel_rfl) (by kernel_rfl) [Value.int .i64 ((1 : Int) + xd6), Value.int .i64 xd15, Value.int .i64 xd24] (by kernel_rfl) (by kernel_rfl) (Nat.le_of_ble_eq_true (by kernel_rfl)) (by kernel_rfl) (Res.box b [Value.slice A n c, Value.int .i64 ix25, Value.int .i64 hx26] 62 :: Res.box blk2 [Value.int .i64 ((1 : Int) + xd6), Value.int .i64 xd15, Value.int .i64 xd24] 25 :: tl) (by kernel_rfl) hS21 (fun w30 hS30 => hK _ _ ?_))
  clear hK K
  refine l_nil rfl ?_
  refine then_n ?_
  refine wp_ret ?_
  have hS30s1 : St w0 w30 (Res.box b [Value.slice A n c, Value.int .i64 ix25, Value.int .i64 hx26] 62 :: tl) := (hS30.sub (List.Sublist.cons_cons _ (List.Sublist.cons _ (List.Sublist.refl _))))
  exact c_end (S := (fun x_ => St w0 x_ (Res.box b [Value.slice A n c, Value.int .i64 ix25, Value.int .i64 hx26] 62 :: Res.box blk2 [Value.int .i64 ((1 : Int) + xd6), Value.int .i64 xd15, Value.int .i64 xd24] 25 :: tl))) (rs := [.cell 2 25]) rfl [Value.agg #[Value.int .i64 ((1 : Int) + xd6), Value.int .i64 xd15, Value.int .i64 xd24]] (v := Value.agg #[Value.int .i64 ((1 : Int) + xd6), Value.int .i64 xd15, Value.int .i64 xd24]) (C := ((LoadsAt Try.prog (fun x_ => St w0 x_ (Res.box b [Value.slice A n c, Value.int .i64 ix25, Value.int .i64 hx26] 62 :: Res.box blk2 [Value.int .i64 ((1 : Int) + xd6), Value.int .i64 xd15, Value.int .i64 xd24] 25 :: tl)) 25 ⟨blk2, 0, none⟩ (Value.agg #[Value.int .i64 ((1 : Int) + xd6), Value.int .i64 xd15, Value.int .i64 xd24])))) (by kernel_rfl) (ld_boxN (i := 1) (k := 3) rfl rfl rfl (by kernel_rfl)) hS30 (⟨_, _, rfl, hS30s1, ix25, hx26, ((1 : Int) + xd6), xd15, xd24, rfl, rfl, hC27, (by omega), (by omega), (by omega), (by omega), (by omega), (by omega)⟩)
theorem l23Any_s_c (b : Nat) (A : Option Addr) (n c : Nat) (i h : Int)  (tl : List Res) (w0 w : World) (hS : St w0 w (Res.box b [Value.slice A n c, Value.int .i64 i, Value.int .i64 h] 62 :: tl)) (hC : CurI w0 A n i)  : Calls Try.prog 44 #[.pointer (some ⟨b, 0, none⟩)] w (fun e w' => ∃ v own', e = .returned v ∧ St w0 w' own' ∧ (∃ (i' h' : Int) (n_ : Int) (a_ : Int) (t_ : Int), v = Value.agg #[Value.int .i64 n_, Value.int .i64 a_, Value.int .i64 t_] ∧ own' = (Res.box b [Value.slice A n c, Value.int .i64 i', Value.int .i64 h'] 62 :: tl) ∧ CurI w0 A n i' ∧ (0 ≤ n_) ∧ (n_ ≤ 65) ∧ (-1 ≤ a_) ∧ (a_ ≤ 66) ∧ (-1 ≤ t_) ∧ (t_ ≤ 1000000000000))) := by
  obtain ⟨hClo, hChi, hCn, _⟩ := id hC
  refine calls_FA Try.func44 rfl (n := 30) rfl (l := [(0, Value.pointer (some ⟨b, 0, none⟩))]) rfl (by simp) (fun g => ?_)
  refine wp_seq ?_
  refine c_reg ?_
  refine l_op rfl rfl (fun K hK => op_alloc (d := some 2) rfl rfl [Value.int .i64 0, Value.int .i64 0, Value.int .i64 0] (by kernel_rfl) hS (fun blk2 w1 hS1 => hK _ _ ?_))
  clear hK K
  refine l_nil rfl ?_
  refine then_n ?_
  refine wp_seq ?_
  refine c_reg ?_
  refine q_seg (S := (fun x_ => St w0 x_ (Res.box blk2 [Value.int .i64 0, Value.int .i64 0, Value.int .i64 0] 25 :: Res.box b [Value.slice A n c, Value.int .i64 i, Value.int .i64 h] 62 :: tl))) [(4, Value.pointer (some ⟨b, 0, none⟩))] [.no] True (by kernel_rfl) trivial hS1 ?_
  refine l_op rfl rfl (fun K hK => op_callm (d := some 5) rfl rfl ⟨_, Try.func46, by kernel_rfl, by kernel_rfl⟩ (vs := [Value.pointer (some ⟨b, 0, none⟩)]) (by kernel_rfl) (l23Draw_s_c b A n c i h  _ w0 w1 (hS1.front 1 rfl) hC ) (fun v4 new5 w3 Rw3 hS3 => ?_))
  obtain ⟨ix9, hx10, nd6, ad7, td8, rfl, rfl, hC11, hf12, hf13, hf14, hf15, hf16, hf17⟩ := Rw3
  refine hK _ _ ?_
  clear hK K
  refine l_op rfl rfl (fun K hK => op_alloc (d := some 3) rfl rfl [Value.int .i64 0, Value.int .i64 0, Value.int .i64 0] (by kernel_rfl) hS3 (fun blk19 w18 hS18 => hK _ _ ?_))
  clear hK K
  refine l_op rfl rfl (fun K hK => op_store (d := none) rfl rfl (i := 0) (b := blk19) (off := 0) (cs := [Value.int .i64 0, Value.int .i64 0, Value.int .i64 0]) (bt := 25) (by kernel_rfl) (by kernel_rfl) [Value.int .i64 nd6, Value.int .i64 ad7, Value.int .i64 td8] (by kernel_rfl) (by kernel_rfl) (Nat.le_of_ble_eq_true (by kernel_rfl)) (by kernel_rfl) (Res.box blk19 [Value.int .i64 nd6, Value.int .i64 ad7, Value.int .i64 td8] 25 :: Res.box b [Value.slice A n c, Value.int .i64 ix9, Value.int .i64 hx10] 62 :: Res.box blk2 [Value.int .i64 0, Value.int .i64 0, Value.int .i64 0] 25 :: tl) (by kernel_rfl) hS18 (fun w20 hS20 => hK _ _ ?_))
  clear hK K
  refine l_nil rfl ?_
  refine then_n ?_
  refine wp_seq ?_
  refine wp_seq ?_
  refine c_reg ?_
  refine q_seg (S := (fun x_ => St w0 x_ (Res.box blk19 [Value.int .i64 nd6, Value.int .i64 ad7, Value.int .i64 td8] 25 :: Res.box b [Value.slice A n c, Value.int .i64 ix9, Value.int .i64 hx10] 62 :: Res.box blk2 [Value.int .i64 0, Value.int .i64 0, Value.int .i64 0] 25 :: tl))) [(6, Value.pointer (some ⟨b, 0, none⟩))] [.no] True (by kernel_rfl) trivial hS20 ?_
  refine l_op rfl rfl (fun K hK => op_callm (d := some 7) rfl rfl ⟨_, Try.func43, by kernel_rfl, by kernel_rfl⟩ (vs := [Value.pointer (some ⟨b, 0, none⟩), Value.int .i64 8]) (by kernel_rfl) (l1Below_s_c b A n c ix9 hx10 (8 : Int) _ w0 w20 (hS20.front 1 rfl) hC11 (by omega)) (fun v22 new23 w21 Rw21 hS21 => ?_))
  obtain ⟨ix25, hx26, xd24, rfl, rfl, hC27, hf28, hf29⟩ := Rw21
  refine hK _ _ ?_
  clear hK K
  refine l_nil rfl ?_
  refine then_n ?_
  refine wp_block ?_
  refine wp_seq ?_
  refine c_reg ?_
  refine q_seg (S := (fun x_ => St w0 x_ (Res.box b [Value.slice A n c, Value.int .i64 ix25, Value.int .i64 hx26] 62 :: Res.box blk19 [Value.int .i64 nd6, Value.int .i64 ad7, Value.int .i64 td8] 25 :: Res.box blk2 [Value.int .i64 0, Value.int .i64 0, Value.int .i64 0] 25 :: tl))) [(8, Value.bool (decide (xd24 = (0 : Int)))), (9, Value.bool (decide (xd24 = (0 : Int))))] [.no, .no] True (by kernel_rfl) trivial hS21 ?_
  refine l_nil rfl ?_
  refine then_n ?_
  rcases Bool.eq_false_or_eq_true (decide (xd24 = (0 : Int))) with hb30 | hb30
  · skip
    have hb30p := of_decide_eq_true hb30
    refine c_true (b := (decide (xd24 = (0 : Int)))) (by kernel_rfl) hb30 ?_
    refine c_reg ?_
    refine q_seg (S := (fun x_ => St w0 x_ (Res.box b [Value.slice A n c, Value.int .i64 ix25, Value.int .i64 hx26] 62 :: Res.box blk19 [Value.int .i64 nd6, Value.int .i64 ad7, Value.int .i64 td8] 25 :: Res.box blk2 [Value.int .i64 0, Value.int .i64 0, Value.int .i64 0] 25 :: tl))) [(10, Value.pointer (some ⟨b, 0, none⟩))] [.no] True (by kernel_rfl) trivial hS21 ?_
    refine l_op rfl rfl (fun K hK => op_buildSlice (d := some 11) rfl rfl (e := 3) (by kernel_rfl) 1 (by kernel_rfl) (by decide) (by decide) [Value.int .i64 0, Value.int .i64 64, Value.int .i64 65] (by kernel_rfl) rfl hS21 (fun blk32 w31 hS31 => hK _ _ ?_))
    clear hK K
    refine l_op rfl rfl (fun K hK => op_callm (d := some 12) rfl rfl ⟨_, Try.func45, by kernel_rfl, by kernel_rfl⟩ (vs := [Value.pointer (some ⟨b, 0, none⟩), Value.slice (some ⟨blk32, 0, none⟩) 3 3]) (by kernel_rfl) (l1Int_s_c b A n c ix25 hx26 (some ⟨blk32, 0, none⟩) 3 ([0, 64, 65]) _ w0 w31 (hS31.front 1 rfl) hC27 (by first | omega | decide | simp)) (fun v34 new35 w33 Rw33 hS33 => ?_))
    obtain ⟨ix37, hx38, xd36, rfl, rfl, hC39, hf40⟩ := Rw33
    simp only [List.mem_cons, List.mem_nil_iff, or_false, List.not_mem_nil] at hf40
    have hf40b : 0 ≤ xd36 ∧ xd36 ≤ 65 := by omega
    refine hK _ _ ?_
    clear hK K
    refine q_seg (S := (fun x_ => St w0 x_ (Res.box b [Value.slice A n c, Value.int .i64 ix37, Value.int .i64 hx38] 62 :: Res.row (Value.slice (some ⟨blk32, 0, none⟩) 3 3) 3 1 3 ([Value.int .i64 0, Value.int .i64 64, Value.int .i64 65]) :: Res.box blk19 [Value.int .i64 nd6, Value.int .i64 ad7, Value.int .i64 td8] 25 :: Res.box blk2 [Value.int .i64 0, Value.int .i64 0, Value.int .i64 0] 25 :: tl))) [(13, Value.pointer (some ⟨blk19, 0 + 0, none⟩))] [.no] True (by kernel_rfl) trivial hS33 ?_
    refine l_op rfl rfl (fun K hK => op_store (d := none) rfl rfl (i := 2) (b := blk19) (off := 0 + 0) (cs := [Value.int .i64 nd6, Value.int .i64 ad7, Value.int .i64 td8]) (bt := 25) (by kernel_rfl) (by kernel_rfl) [Value.int .i64 xd36] (by kernel_rfl) (by kernel_rfl) (Nat.le_of_ble_eq_true (by kernel_rfl)) (by kernel_rfl) (Res.box b [Value.slice A n c, Value.int .i64 ix37, Value.int .i64 hx38] 62 :: Res.row (Value.slice (some ⟨blk32, 0, none⟩) 3 3) 3 1 3 ([Value.int .i64 0, Value.int .i64 64, Value.int .i64 65]) :: Res.box blk19 [Value.int .i64 xd36, Value.int .i64 ad7, Value.int .i64 td8] 25 :: Res.box blk2 [Value.int .i64 0, Value.int .i64 0, Value.int .i64 0] 25 :: tl) (by kernel_rfl) hS33 (fun w41 hS41 => hK _ _ ?_))
    clear hK K
    refine l_nil rfl ?_
    refine blk_n ?_
    refine then_n ?_
    refine wp_seq ?_
    refine c_reg ?_
    refine q_seg (S := (fun x_ => St w0 x_ (Res.box b [Value.slice A n c, Value.int .i64 ix37, Value.int .i64 hx38] 62 :: Res.row (Value.slice (some ⟨blk32, 0, none⟩) 3 3) 3 1 3 ([Value.int .i64 0, Value.int .i64 64, Value.int .i64 65]) :: Res.box blk19 [Value.int .i64 xd36, Value.int .i64 ad7, Value.int .i64 td8] 25 :: Res.box blk2 [Value.int .i64 0, Value.int .i64 0, Value.int .i64 0] 25 :: tl))) [(29, Value.agg #[Value.int .i64 xd36, Value.int .i64 ad7, Value.int .i64 td8])] [.v (Value.agg #[Value.int .i64 xd36, Value.int .i64 ad7, Value.int .i64 td8])] ((LoadsAt Try.prog (fun x_ => St w0 x_ (Res.box b [Value.slice A n c, Value.int .i64 ix37, Value.int .i64 hx38] 62 :: Res.row (Value.slice (some ⟨blk32, 0, none⟩) 3 3) 3 1 3 ([Value.int .i64 0, Value.int .i64 64, Value.int .i64 65]) :: Res.box blk19 [Value.int .i64 xd36, Value.int .i64 ad7, Value.int .i64 td8] 25 :: Res.box blk2 [Value.int .i64 0, Value.int .i64 0, Value.int .i64 0] 25 :: tl)) 25 ⟨blk19, 0, none⟩ (Value.agg #[Value.int .i64 xd36, Value.int .i64 ad7, Value.int .i64 td8]))) (by kernel_rfl) (ld_boxN (i := 2) (k := 3) rfl rfl rfl (by kernel_rfl)) hS41 ?_
    refine l_op rfl rfl (fun K hK => op_store (d := none) rfl rfl (i := 3) (b := blk2) (off := 0) (cs := [Value.int .i64 0, Value.int .i64 0, Value.int .i64 0]) (bt := 25) (by kernel_rfl) (by kernel_rfl) [Value.int .i64 xd36, Value.int .i64 ad7, Value.int .i64 td8] (by kernel_rfl) (by kernel_rfl) (Nat.le_of_ble_eq_true (by kernel_rfl)) (by kernel_rfl) (Res.box b [Value.slice A n c, Value.int .i64 ix37, Value.int .i64 hx38] 62 :: Res.row (Value.slice (some ⟨blk32, 0, none⟩) 3 3) 3 1 3 ([Value.int .i64 0, Value.int .i64 64, Value.int .i64 65]) :: Res.box blk19 [Value.int .i64 xd36, Value.int .i64 ad7, Value.int .i64 td8] 25 :: Res.box blk2 [Value.int .i64 xd36, Value.int .i64 ad7, Value.int .i64 td8] 25 :: tl) (by kernel_rfl) hS41 (fun w42 hS42 => hK _ _ ?_))
    clear hK K
    refine l_nil rfl ?_
    refine then_n ?_
    refine wp_ret ?_
    have hS42s1 : St w0 w42 (Res.box b [Value.slice A n c, Value.int .i64 ix37, Value.int .i64 hx38] 62 :: tl) := (hS42.sub (List.Sublist.cons_cons _ (List.Sublist.cons _ (List.Sublist.cons _ (List.Sublist.cons _ (List.Sublist.refl _))))))
    exact c_end (S := (fun x_ => St w0 x_ (Res.box b [Value.slice A n c, Value.int .i64 ix37, Value.int .i64 hx38] 62 :: Res.row (Value.slice (some ⟨blk32, 0, none⟩) 3 3) 3 1 3 ([Value.int .i64 0, Value.int .i64 64, Value.int .i64 65]) :: Res.box blk19 [Value.int .i64 xd36, Value.int .i64 ad7, Value.int .i64 td8] 25 :: Res.box blk2 [Value.int .i64 xd36, Value.int .i64 ad7, Value.int .i64 td8] 25 :: tl))) (rs := [.cell 2 25]) rfl [Value.agg #[Value.int .i64 xd36, Value.int .i64 ad7, Value.int .i64 td8]] (v := Value.agg #[Value.int .i64 xd36, Value.int .i64 ad7, Value.int .i64 td8]) (C := ((LoadsAt Try.prog (fun x_ => St w0 x_ (Res.box b [Value.slice A n c, Value.int .i64 ix37, Value.int .i64 hx38] 62 :: Res.row (Value.slice (some ⟨blk32, 0, none⟩) 3 3) 3 1 3 ([Value.int .i64 0, Value.int .i64 64, Value.int .i64 65]) :: Res.box blk19 [Value.int .i64 xd36, Value.int .i64 ad7, Value.int .i64 td8] 25 :: Res.box blk2 [Value.int .i64 xd36, Value.int .i64 ad7, Value.int .i64 td8] 25 :: tl)) 25 ⟨blk2, 0, none⟩ (Value.agg #[Value.int .i64 xd36, Value.int .i64 ad7, Value.int .i64 td8])))) (by kernel_rfl) (ld_boxN (i := 3) (k := 3) rfl rfl rfl (by kernel_rfl)) hS42 (⟨_, _, rfl, hS42s1, ix37, hx38, xd36, ad7, td8, rfl, rfl, hC39, (by omega), (by omega), (by omega), (by omega), (by omega), (by omega)⟩)
  · skip
    have hb30p := of_decide_eq_false hb30
    refine c_false (b := (decide (xd24 = (0 : Int)))) (by kernel_rfl) hb30 ?_
    refine wp_seq ?_
    refine c_reg ?_
    refine q_seg (S := (fun x_ => St w0 x_ (Res.box b [Value.slice A n c, Value.int .i64 ix25, Value.int .i64 hx26] 62 :: Res.box blk19 [Value.int .i64 nd6, Value.int .i64 ad7, Value.int .i64 td8] 25 :: Res.box blk2 [Value.int .i64 0, Value.int .i64 0, Value.int .i64 0] 25 :: tl))) [(14, Value.bool (decide (xd24 = (1 : Int)))), (15, Value.bool (decide (xd24 = (1 : Int))))] [.no, .no] True (by kernel_rfl) trivial hS21 ?_
    refine l_nil rfl ?_
    refine then_n ?_
    rcases Bool.eq_false_or_eq_true (decide (xd24 = (1 : Int))) with hb43 | hb43
    · skip
      have hb43p := of_decide_eq_true hb43
      refine c_true (b := (decide (xd24 = (1 : Int)))) (by kernel_rfl) hb43 ?_
      refine c_reg ?_
      refine q_seg (S := (fun x_ => St w0 x_ (Res.box b [Value.slice A n c, Value.int .i64 ix25, Value.int .i64 hx26] 62 :: Res.box blk19 [Value.int .i64 nd6, Value.int .i64 ad7, Value.int .i64 td8] 25 :: Res.box blk2 [Value.int .i64 0, Value.int .i64 0, Value.int .i64 0] 25 :: tl))) [(19, Value.int .i64 (nd6 + (1 : Int))), (18, Value.int .i64 nd6), (17, Value.pointer (some ⟨blk19, 0 + 0, none⟩)), (16, Value.pointer (some ⟨b, 0, none⟩))] [.no, .no, .v (Value.int .i64 nd6), .no] ((LoadsAt Try.prog (fun x_ => St w0 x_ (Res.box b [Value.slice A n c, Value.int .i64 ix25, Value.int .i64 hx26] 62 :: Res.box blk19 [Value.int .i64 nd6, Value.int .i64 ad7, Value.int .i64 td8] 25 :: Res.box blk2 [Value.int .i64 0, Value.int .i64 0, Value.int .i64 0] 25 :: tl)) 3 ⟨blk19, 0 + 0, none⟩ (Value.int .i64 nd6)) ∧ (InK .i64 (nd6 + (1 : Int)))) (by kernel_rfl) ⟨(ld_box (i := 1) rfl rfl (by kernel_rfl)), (in64 (by omega) (by omega))⟩ hS21 ?_
      refine l_op rfl rfl (fun K hK => op_buildSlice (d := some 20) rfl rfl (e := 3) (by kernel_rfl) 1 (by kernel_rfl) (by decide) (by decide) [Value.int .i64 (-1), Value.int .i64 (nd6 + (1 : Int))] (by kernel_rfl) rfl hS21 (fun blk45 w44 hS44 => hK _ _ ?_))
      clear hK K
      refine l_op rfl rfl (fun K hK => op_callm (d := some 21) rfl rfl ⟨_, Try.func45, by kernel_rfl, by kernel_rfl⟩ (vs := [Value.pointer (some ⟨b, 0, none⟩), Value.slice (some ⟨blk45, 0, none⟩) 2 2]) (by kernel_rfl) (l1Int_s_c b A n c ix25 hx26 (some ⟨blk45, 0, none⟩) 2 ([(-1), (nd6 + (1 : Int))]) _ w0 w44 (hS44.front 1 rfl) hC27 (by first | omega | decide | simp)) (fun v47 new48 w46 Rw46 hS46 => ?_))
      obtain ⟨ix50, hx51, xd49, rfl, rfl, hC52, hf53⟩ := Rw46
      simp only [List.mem_cons, List.mem_nil_iff, or_false, List.not_mem_nil] at hf53
      refine hK _ _ ?_
      clear hK K
      refine q_seg (S := (fun x_ => St w0 x_ (Res.box b [Value.slice A n c, Value.int .i64 ix50, Value.int .i64 hx51] 62 :: Res.row (Value.slice (some ⟨blk45, 0, none⟩) 2 2) 3 1 2 ([Value.int .i64 (-1), Value.int .i64 (nd6 + (1 : Int))]) :: Res.box blk19 [Value.int .i64 nd6, Value.int .i64 ad7, Value.int .i64 td8] 25 :: Res.box blk2 [Value.int .i64 0, Value.int .i64 0, Value.int .i64 0] 25 :: tl))) [(22, Value.pointer (some ⟨blk19, 0 + 1, none⟩))] [.no] True (by kernel_rfl) trivial hS46 ?_
      refine l_op rfl rfl (fun K hK => op_store (d := none) rfl rfl (i := 2) (b := blk19) (off := 0 + 1) (cs := [Value.int .i64 nd6, Value.int .i64 ad7, Value.int .i64 td8]) (bt := 25) (by kernel_rfl) (by kernel_rfl) [Value.int .i64 xd49] (by kernel_rfl) (by kernel_rfl) (Nat.le_of_ble_eq_true (by kernel_rfl)) (by kernel_rfl) (Res.box b [Value.slice A n c, Value.int .i64 ix50, Value.int .i64 hx51] 62 :: Res.row (Value.slice (some ⟨blk45, 0, none⟩) 2 2) 3 1 2 ([Value.int .i64 (-1), Value.int .i64 (nd6 + (1 : Int))]) :: Res.box blk19 [Value.int .i64 nd6, Value.int .i64 xd49, Value.int .i64 td8] 25 :: Res.box blk2 [Value.int .i64 0, Value.int .i64 0, Value.int .i64 0] 25 :: tl) (by kernel_rfl) hS46 (fun w54 hS54 => hK _ _ ?_))
      clear hK K
      refine l_nil rfl ?_
      refine blk_n ?_
      refine then_n ?_
      refine wp_seq ?_
      refine c_reg ?_
      refine q_seg (S := (fun x_ => St w0 x_ (Res.box b [Value.slice A n c, Value.int .i64 ix50, Value.int .i64 hx51] 62 :: Res.row (Value.slice (some ⟨blk45, 0, none⟩) 2 2) 3 1 2 ([Value.int .i64 (-1), Value.int .i64 (nd6 + (1 : Int))]) :: Res.box blk19 [Value.int .i64 nd6, Value.int .i64 xd49, Value.int .i64 td8] 25 :: Res.box blk2 [Value.int .i64 0, Value.int .i64 0, Value.int .i64 0] 25 :: tl))) [(29, Value.agg #[Value.int .i64 nd6, Value.int .i64 xd49, Value.int .i64 td8])] [.v (Value.agg #[Value.int .i64 nd6, Value.int .i64 xd49, Value.int .i64 td8])] ((LoadsAt Try.prog (fun x_ => St w0 x_ (Res.box b [Value.slice A n c, Value.int .i64 ix50, Value.int .i64 hx51] 62 :: Res.row (Value.slice (some ⟨blk45, 0, none⟩) 2 2) 3 1 2 ([Value.int .i64 (-1), Value.int .i64 (nd6 + (1 : Int))]) :: Res.box blk19 [Value.int .i64 nd6, Value.int .i64 xd49, Value.int .i64 td8] 25 :: Res.box blk2 [Value.int .i64 0, Value.int .i64 0, Value.int .i64 0] 25 :: tl)) 25 ⟨blk19, 0, none⟩ (Value.agg #[Value.int .i64 nd6, Value.int .i64 xd49, Value.int .i64 td8]))) (by kernel_rfl) (ld_boxN (i := 2) (k := 3) rfl rfl rfl (by kernel_rfl)) hS54 ?_
      refine l_op rfl rfl (fun K hK => op_store (d := none) rfl rfl (i := 3) (b := blk2) (off := 0) (cs := [Value.int .i64 0, Value.int .i64 0, Value.int .i64 0]) (bt := 25) (by kernel_rfl) (by kernel_rfl) [Value.int .i64 nd6, Value.int .i64 xd49, Value.int .i64 td8] (by kernel_rfl) (by kernel_rfl) (Nat.le_of_ble_eq_true (by kernel_rfl)) (by kernel_rfl) (Res.box b [Value.slice A n c, Value.int .i64 ix50, Value.int .i64 hx51] 62 :: Res.row (Value.slice (some ⟨blk45, 0, none⟩) 2 2) 3 1 2 ([Value.int .i64 (-1), Value.int .i64 (nd6 + (1 : Int))]) :: Res.box blk19 [Value.int .i64 nd6, Value.int .i64 xd49, Value.int .i64 td8] 25 :: Res.box blk2 [Value.int .i64 nd6, Value.int .i64 xd49, Value.int .i64 td8] 25 :: tl) (by kernel_rfl) hS54 (fun w55 hS55 => hK _ _ ?_))
      clear hK K
      refine l_nil rfl ?_
      refine then_n ?_
      refine wp_ret ?_
      have hS55s2 : St w0 w55 (Res.box b [Value.slice A n c, Value.int .i64 ix50, Value.int .i64 hx51] 62 :: tl) := (hS55.sub (List.Sublist.cons_cons _ (List.Sublist.cons _ (List.Sublist.cons _ (List.Sublist.cons _ (List.Sublist.refl _))))))
      exact c_end (S := (fun x_ => St w0 x_ (Res.box b [Value.slice A n c, Value.int .i64 ix50, Value.int .i64 hx51] 62 :: Res.row (Value.slice (some ⟨blk45, 0, none⟩) 2 2) 3 1 2 ([Value.int .i64 (-1), Value.int .i64 (nd6 + (1 : Int))]) :: Res.box blk19 [Value.int .i64 nd6, Value.int .i64 xd49, Value.int .i64 td8] 25 :: Res.box blk2 [Value.int .i64 nd6, Value.int .i64 xd49, Value.int .i64 td8] 25 :: tl))) (rs := [.cell 2 25]) rfl [Value.agg #[Value.int .i64 nd6, Value.int .i64 xd49, Value.int .i64 td8]] (v := Value.agg #[Value.int .i64 nd6, Value.int .i64 xd49, Value.int .i64 td8]) (C := ((LoadsAt Try.prog (fun x_ => St w0 x_ (Res.box b [Value.slice A n c, Value.int .i64 ix50, Value.int .i64 hx51] 62 :: Res.row (Value.slice (some ⟨blk45, 0, none⟩) 2 2) 3 1 2 ([Value.int .i64 (-1), Value.int .i64 (nd6 + (1 : Int))]) :: Res.box blk19 [Value.int .i64 nd6, Value.int .i64 xd49, Value.int .i64 td8] 25 :: Res.box blk2 [Value.int .i64 nd6, Value.int .i64 xd49, Value.int .i64 td8] 25 :: tl)) 25 ⟨blk2, 0, none⟩ (Value.agg #[Value.int .i64 nd6, Value.int .i64 xd49, Value.int .i64 td8])))) (by kernel_rfl) (ld_boxN (i := 3) (k := 3) rfl rfl rfl (by kernel_rfl)) hS55 (⟨_, _, rfl, hS55s2, ix50, hx51, nd6, xd49, td8, rfl, rfl, hC52, (by omega), (by omega), (by omega), (by omega), (by omega), (by omega)⟩)
    · skip
      have hb43p := of_decide_eq_false hb43
      refine c_false (b := (decide (xd24 = (1 : Int)))) (by kernel_rfl) hb43 ?_
      refine wp_seq ?_
      refine c_reg ?_
      refine q_seg (S := (fun x_ => St w0 x_ (Res.box b [Value.slice A n c, Value.int .i64 ix25, Value.int .i64 hx26] 62 :: Res.box blk19 [Value.int .i64 nd6, Value.int .i64 ad7, Value.int .i64 td8] 25 :: Res.box blk2 [Value.int .i64 0, Value.int .i64 0, Value.int .i64 0] 25 :: tl))) [(23, Value.bool (decide (xd24 = (2 : Int)))), (24, Value.bool (decide (xd24 = (2 : Int))))] [.no, .no] True (by kernel_rfl) trivial hS21 ?_
      refine l_nil rfl ?_
      refine then_n ?_
      rcases Bool.eq_false_or_eq_true (decide (xd24 = (2 : Int))) with hb56 | hb56
      · skip
        have hb56p := of_decide_eq_true hb56
        refine c_true (b := (decide (xd24 = (2 : Int)))) (by kernel_rfl) hb56 ?_
        refine c_reg ?_
        refine q_seg (S := (fun x_ => St w0 x_ (Res.box b [Value.slice A n c, Value.int .i64 ix25, Value.int .i64 hx26] 62 :: Res.box blk19 [Value.int .i64 nd6, Value.int .i64 ad7, Value.int .i64 td8] 25 :: Res.box blk2 [Value.int .i64 0, Value.int .i64 0, Value.int .i64 0] 25 :: tl))) [(25, Value.pointer (some ⟨b, 0, none⟩))] [.no] True (by kernel_rfl) trivial hS21 ?_
        refine l_op rfl rfl (fun K hK => op_buildSlice (d := some 26) rfl rfl (e := 3) (by kernel_rfl) 1 (by kernel_rfl) (by decide) (by decide) [Value.int .i64 (-1), Value.int .i64 1000000000000] (by kernel_rfl) rfl hS21 (fun blk58 w57 hS57 => hK _ _ ?_))
        clear hK K
        refine l_op rfl rfl (fun K hK => op_callm (d := some 27) rfl rfl ⟨_, Try.func45, by kernel_rfl, by kernel_rfl⟩ (vs := [Value.pointer (some ⟨b, 0, none⟩), Value.slice (some ⟨blk58, 0, none⟩) 2 2]) (by kernel_rfl) (l1Int_s_c b A n c ix25 hx26 (some ⟨blk58, 0, none⟩) 2 ([(-1), 1000000000000]) _ w0 w57 (hS57.front 1 rfl) hC27 (by first | omega | decide | simp)) (fun v60 new61 w59 Rw59 hS59 => ?_))
        obtain ⟨ix63, hx64, xd62, rfl, rfl, hC65, hf66⟩ := Rw59
        simp only [List.mem_cons, List.mem_nil_iff, or_false, List.not_mem_nil] at hf66
        have hf66b : -1 ≤ xd62 ∧ xd62 ≤ 1000000000000 := by omega
        refine hK _ _ ?_
        clear hK K
        refine q_seg (S := (fun x_ => St w0 x_ (Res.box b [Value.slice A n c, Value.int .i64 ix63, Value.int .i64 hx64] 62 :: Res.row (Value.slice (some ⟨blk58, 0, none⟩) 2 2) 3 1 2 ([Value.int .i64 (-1), Value.int .i64 1000000000000]) :: Res.box blk19 [Value.int .i64 nd6, Value.int .i64 ad7, Value.int .i64 td8] 25 :: Res.box blk2 [Value.int .i64 0, Value.int .i64 0, Value.int .i64 0] 25 :: tl))) [(28, Value.pointer (some ⟨blk19, 0 + 2, none⟩))] [.no] True (by kernel_rfl) trivial hS59 ?_
        refine l_op rfl rfl (fun K hK => op_store (d := none) rfl rfl (i := 2) (b := blk19) (off := 0 + 2) (cs := [Value.int .i64 nd6, Value.int .i64 ad7, Value.int .i64 td8]) (bt := 25) (by kernel_rfl) (by kernel_rfl) [Value.int .i64 xd62] (by kernel_rfl) (by kernel_rfl) (Nat.le_of_ble_eq_true (by kernel_rfl)) (by kernel_rfl) (Res.box b [Value.slice A n c, Value.int .i64 ix63, Value.int .i64 hx64] 62 :: Res.row (Value.slice (some ⟨blk58, 0, none⟩) 2 2) 3 1 2 ([Value.int .i64 (-1), Value.int .i64 1000000000000]) :: Res.box blk19 [Value.int .i64 nd6, Value.int .i64 ad7, Value.int .i64 xd62] 25 :: Res.box blk2 [Value.int .i64 0, Value.int .i64 0, Value.int .i64 0] 25 :: tl) (by kernel_rfl) hS59 (fun w67 hS67 => hK _ _ ?_))
        clear hK K
        refine l_nil rfl ?_
        refine blk_n ?_
        refine then_n ?_
        refine wp_seq ?_
        refine c_reg ?_
        refine q_seg (S := (fun x_ => St w0 x_ (Res.box b [Value.slice A n c, Value.int .i64 ix63, Value.int .i64 hx64] 62 :: Res.row (Value.slice (some ⟨blk58, 0, none⟩) 2 2) 3 1 2 ([Value.int .i64 (-1), Value.int .i64 1000000000000]) :: Res.box blk19 [Value.int .i64 nd6, Value.int .i64 ad7, Value.int .i64 xd62] 25 :: Res.box blk2 [Value.int .i64 0, Value.int .i64 0, Value.int .i64 0] 25 :: tl))) [(29, Value.agg #[Value.int .i64 nd6, Value.int .i64 ad7, Value.int .i64 xd62])] [.v (Value.agg #[Value.int .i64 nd6, Value.int .i64 ad7, Value.int .i64 xd62])] ((LoadsAt Try.prog (fun x_ => St w0 x_ (Res.box b [Value.slice A n c, Value.int .i64 ix63, Value.int .i64 hx64] 62 :: Res.row (Value.slice (some ⟨blk58, 0, none⟩) 2 2) 3 1 2 ([Value.int .i64 (-1), Value.int .i64 1000000000000]) :: Res.box blk19 [Value.int .i64 nd6, Value.int .i64 ad7, Value.int .i64 xd62] 25 :: Res.box blk2 [Value.int .i64 0, Value.int .i64 0, Value.int .i64 0] 25 :: tl)) 25 ⟨blk19, 0, none⟩ (Value.agg #[Value.int .i64 nd6, Value.int .i64 ad7, Value.int .i64 xd62]))) (by kernel_rfl) (ld_boxN (i := 2) (k := 3) rfl rfl rfl (by kernel_rfl)) hS67 ?_
        refine l_op rfl rfl (fun K hK => op_store (d := none) rfl rfl (i := 3) (b := blk2) (off := 0) (cs := [Value.int .i64 0, Value.int .i64 0, Value.int .i64 0]) (bt := 25) (by kernel_rfl) (by kernel_rfl) [Value.int .i64 nd6, Value.int .i64 ad7, Value.int .i64 xd62] (by kernel_rfl) (by kernel_rfl) (Nat.le_of_ble_eq_true (by kernel_rfl)) (by kernel_rfl) (Res.box b [Value.slice A n c, Value.int .i64 ix63, Value.int .i64 hx64] 62 :: Res.row (Value.slice (some ⟨blk58, 0, none⟩) 2 2) 3 1 2 ([Value.int .i64 (-1), Value.int .i64 1000000000000]) :: Res.box blk19 [Value.int .i64 nd6, Value.int .i64 ad7, Value.int .i64 xd62] 25 :: Res.box blk2 [Value.int .i64 nd6, Value.int .i64 ad7, Value.int .i64 xd62] 25 :: tl) (by kernel_rfl) hS67 (fun w68 hS68 => hK _ _ ?_))
        clear hK K
        refine l_nil rfl ?_
        refine then_n ?_
        refine wp_ret ?_
        have hS68s3 : St w0 w68 (Res.box b [Value.slice A n c, Value.int .i64 ix63, Value.int .i64 hx64] 62 :: tl) := (hS68.sub (List.Sublist.cons_cons _ (List.Sublist.cons _ (List.Sublist.cons _ (List.Sublist.cons _ (List.Sublist.refl _))))))
        exact c_end (S := (fun x_ => St w0 x_ (Res.box b [Value.slice A n c, Value.int .i64 ix63, Value.int .i64 hx64] 62 :: Res.row (Value.slice (some ⟨blk58, 0, none⟩) 2 2) 3 1 2 ([Value.int .i64 (-1), Value.int .i64 1000000000000]) :: Res.box blk19 [Value.int .i64 nd6, Value.int .i64 ad7, Value.int .i64 xd62] 25 :: Res.box blk2 [Value.int .i64 nd6, Value.int .i64 ad7, Value.int .i64 xd62] 25 :: tl))) (rs := [.cell 2 25]) rfl [Value.agg #[Value.int .i64 nd6, Value.int .i64 ad7, Value.int .i64 xd62]] (v := Value.agg #[Value.int .i64 nd6, Value.int .i64 ad7, Value.int .i64 xd62]) (C := ((LoadsAt Try.prog (fun x_ => St w0 x_ (Res.box b [Value.slice A n c, Value.int .i64 ix63, Value.int .i64 hx64] 62 :: Res.row (Value.slice (some ⟨blk58, 0, none⟩) 2 2) 3 1 2 ([Value.int .i64 (-1), Value.int .i64 1000000000000]) :: Res.box blk19 [Value.int .i64 nd6, Value.int .i64 ad7, Value.int .i64 xd62] 25 :: Res.box blk2 [Value.int .i64 nd6, Value.int .i64 ad7, Value.int .i64 xd62] 25 :: tl)) 25 ⟨blk2, 0, none⟩ (Value.agg #[Value.int .i64 nd6, Value.int .i64 ad7, Value.int .i64 xd62])))) (by kernel_rfl) (ld_boxN (i := 3) (k := 3) rfl rfl rfl (by kernel_rfl)) hS68 (⟨_, _, rfl, hS68s3, ix63, hx64, nd6, ad7, xd62, rfl, rfl, hC65, (by omega), (by omega), (by omega), (by omega), (by omega), (by omega)⟩)
      · skip
        have hb56p := of_decide_eq_false hb56
        refine c_false (b := (decide (xd24 = (2 : Int)))) (by kernel_rfl) hb56 ?_
        refine wp_skip ?_
        refine blk_n ?_
        refine then_n ?_
        refine wp_seq ?_
        refine c_reg ?_
        refine q_seg (S := (fun x_ => St w0 x_ (Res.box b [Value.slice A n c, Value.int .i64 ix25, Value.int .i64 hx26] 62 :: Res.box blk19 [Value.int .i64 nd6, Value.int .i64 ad7, Value.int .i64 td8] 25 :: Res.box blk2 [Value.int .i64 0, Value.int .i64 0, Value.int .i64 0] 25 :: tl))) [(29, Value.agg #[Value.int .i64 nd6, Value.int .i64 ad7, Value.int .i64 td8])] [.v (Value.agg #[Value.int .i64 nd6, Value.int .i64 ad7, Value.int .i64 td8])] ((LoadsAt Try.prog (fun x_ => St w0 x_ (Res.box b [Value.slice A n c, Value.int .i64 ix25, Value.int .i64 hx26] 62 :: Res.box blk19 [Value.int .i64 nd6, Value.int .i64 ad7, Value.int .i64 td8] 25 :: Res.box blk2 [Value.int .i64 0, Value.int .i64 0, Value.int .i64 0] 25 :: tl)) 25 ⟨blk19, 0, none⟩ (Value.agg #[Value.int .i64 nd6, Value.int .i64 ad7, Value.int .i64 td8]))) (by kernel_rfl) (ld_boxN (i := 1) (k := 3) rfl rfl rfl (by kernel_rfl)) hS21 ?_
        refine l_op rfl rfl (fun K hK => op_store (d := none) rfl rfl (i := 2) (b := blk2) (off := 0) (cs := [Value.int .i64 0, Value.int .i64 0, Value.int .i64 0]) (bt := 25) (by kernel_rfl) (by kernel_rfl) [Value.int .i64 nd6, Value.int .i64 ad7, Value.int .i64 td8] (by kernel_rfl) (by kernel_rfl) (Nat.le_of_ble_eq_true (by kernel_rfl)) (by kernel_rfl) (Res.box b [Value.slice A n c, Value.int .i64 ix25, Value.int .i64 hx26] 62 :: Res.box blk19 [Value.int .i64 nd6, Value.int .i64 ad7, Value.int .i64 td8] 25 :: Res.box blk2 [Value.int .i64 nd6, Value.int .i64 ad7, Value.int .i64 td8] 25 :: tl) (by kernel_rfl) hS21 (fun w69 hS69 => hK _ _ ?_))
        clear hK K
        refine l_nil rfl ?_
        refine then_n ?_
        refine wp_ret ?_
        have hS69s4 : St w0 w69 (Res.box b [Value.slice A n c, Value.int .i64 ix25, Value.int .i64 hx26] 62 :: tl) := (hS69.sub (List.Sublist.cons_cons _ (List.Sublist.cons _ (List.Sublist.cons _ (List.Sublist.refl _)))))
        exact c_end (S := (fun x_ => St w0 x_ (Res.box b [Value.slice A n c, Value.int .i64 ix25, Value.int .i64 hx26] 62 :: Res.box blk19 [Value.int .i64 nd6, Value.int .i64 ad7, Value.int .i64 td8] 25 :: Res.box blk2 [Value.int .i64 nd6, Value.int .i64 ad7, Value.int .i64 td8] 25 :: tl))) (rs := [.cell 2 25]) rfl [Value.agg #[Value.int .i64 nd6, Value.int .i64 ad7, Value.int .i64 td8]] (v := Value.agg #[Value.int .i64 nd6, Value.int .i64 ad7, Value.int .i64 td8]) (C := ((LoadsAt Try.prog (fun x_ => St w0 x_ (Res.box b [Value.slice A n c, Value.int .i64 ix25, Value.int .i64 hx26] 62 :: Res.box blk19 [Value.int .i64 nd6, Value.int .i64 ad7, Value.int .i64 td8] 25 :: Res.box blk2 [Value.int .i64 nd6, Value.int .i64 ad7, Value.int .i64 td8] 25 :: tl)) 25 ⟨blk2, 0, none⟩ (Value.agg #[Value.int .i64 nd6, Value.int .i64 ad7, Value.int .i64 td8])))) (by kernel_rfl) (ld_boxN (i := 2) (k := 3) rfl rfl rfl (by kernel_rfl)) hS69 (⟨_, _, rfl, hS69s4, ix25, hx26, nd6, ad7, td8, rfl, rfl, hC27, (by omega), (by omega), (by omega), (by omega), (by omega), (by omega)⟩)
theorem DrawBackoffTicks_s_c (A : Option Addr) (n c : Nat) (zs : List Int) (w : World) (hn : n ≤ 1048576) (hz : okz .u8 zs) (hr : Rd w w.heap.size A n (zs.map (Value.int .u8))) : Calls Try.prog 20 #[.slice A n c] w (Ret w (fun v new => ∃ (k_ : Int) (s_ : Int), v = Value.tuple #[Value.int .i64 k_, Value.int .i64 s_] ∧ new = ([]) ∧ (-1 ≤ k_) ∧ (k_ ≤ 7) ∧ (0 ≤ s_) ∧ (s_ ≤ 99))) := by
  have hzl := hr.len
  refine calls_FA Try.func20 rfl (n := 14) rfl (l := [(0, Value.slice A n c)]) rfl (by simp) (fun g => ?_)
  have hS := St.init w
  refine wp_seq ?_
  refine c_reg ?_
  refine q_seg (S := (fun x_ => St w x_ [])) [(3, Value.int .i64 0), (2, Value.int .i64 0)] [.no, .no] True (by kernel_rfl) trivial hS ?_
  refine l_nil rfl ?_
  refine then_n ?_
  refine wp_seq ?_
  refine c_reg ?_
  refine q_seg (S := (fun x_ => St w x_ [])) [(6, Value.slice A n c)] [.no] True (by kernel_rfl) trivial hS ?_
  refine l_op rfl rfl (fun K hK => op_call (d := some 7) rfl rfl ⟨_, Try.func42, by kernel_rfl, by kernel_rfl⟩ (vs := [Value.slice A n c]) (by kernel_rfl) (l1New_c A n c zs w (by omega) hz (hS.rdlow hr)) hS (fun v2 new3 w1 Rw1 hS1 => hK _ _ ?_))
  clear hK K
  obtain ⟨blk4, hx5, rfl, rfl⟩ := Rw1
  have hC6 : CurI w A n 0 := CurI.zero (by omega) hz hr
  refine q_seg (S := (fun x_ => St w x_ [Res.box blk4 [Value.slice A n c, Value.int .i64 0, Value.int .i64 hx5] 62])) [(4, Value.pointer (some ⟨blk4, 0, none⟩))] [.no] True (by kernel_rfl) trivial hS1 ?_
  refine l_nil rfl ?_
  refine then_n ?_
  refine wp_seq ?_
  refine c_reg ?_
  refine q_seg (S := (fun x_ => St w x_ [Res.box blk4 [Value.slice A n c, Value.int .i64 0, Value.int .i64 hx5] 62])) [(8, Value.pointer (some ⟨blk4, 0, none⟩))] [.no] True (by kernel_rfl) trivial hS1 ?_
  refine l_op rfl rfl (fun K hK => op_callm (d := some 9) rfl rfl ⟨_, Try.func43, by kernel_rfl, by kernel_rfl⟩ (vs := [Value.pointer (some ⟨blk4, 0, none⟩), Value.int .i64 9]) (by kernel_rfl) (l1Below_s_c blk4 A n c 0 hx5 (9 : Int) _ w w1 hS1 hC6 (by omega)) (fun v8 new9 w7 Rw7 hS7 => ?_))
  obtain ⟨ix11, hx12, xd10, rfl, rfl, hC13, hf14, hf15⟩ := Rw7
  refine hK _ _ ?_
  clear hK K
  refine q_seg (S := (fun x_ => St w x_ [Res.box blk4 [Value.slice A n c, Value.int .i64 ix11, Value.int .i64 hx12] 62])) [(5, Value.int .i64 (xd10 - (1 : Int))), (10, Value.int .i64 (xd10 - (1 : Int)))] [.no, .no] ((InK .i64 (xd10 - (1 : Int)))) (by kernel_rfl) (in64 (by omega) (by omega)) hS7 ?_
  refine l_nil rfl ?_
  refine then_n ?_
  refine wp_seq ?_
  refine c_reg ?_
  refine q_seg (S := (fun x_ => St w x_ [Res.box blk4 [Value.slice A n c, Value.int .i64 ix11, Value.int .i64 hx12] 62])) [(12, Value.pointer (some ⟨blk4, 0, none⟩)), (11, Value.int .i64 (xd10 - (1 : Int)))] [.no, .no] True (by kernel_rfl) trivial hS7 ?_
  refine l_op rfl rfl (fun K hK => op_callm (d := some 13) rfl rfl ⟨_, Try.func43, by kernel_rfl, by kernel_rfl⟩ (vs := [Value.pointer (some ⟨blk4, 0, none⟩), Value.int .i64 100]) (by kernel_rfl) (l1Below_s_c blk4 A n c ix11 hx12 (100 : Int) _ w w7 hS7 hC13 (by omega)) (fun v17 new18 w16 Rw16 hS16 => ?_))
  obtain ⟨ix20, hx21, xd19, rfl, rfl, hC22, hf23, hf24⟩ := Rw16
  refine hK _ _ ?_
  clear hK K
  refine q_seg (S := (fun x_ => St w x_ [Res.box blk4 [Value.slice A n c, Value.int .i64 ix20, Value.int .i64 hx21] 62])) [(3, Value.int .i64 xd19), (2, Value.int .i64 (xd10 - (1 : Int)))] [.no, .no] True (by kernel_rfl) trivial hS16 ?_
  refine l_nil rfl ?_
  refine then_n ?_
  refine wp_ret ?_
  have hS16s1 : St w w16 [] := (hS16.sub (List.Sublist.cons _ List.Sublist.slnil))
  exact c_end (S := (fun x_ => St w x_ [Res.box blk4 [Value.slice A n c, Value.int .i64 ix20, Value.int .i64 hx21] 62])) (rs := [.tmp 2, .tmp 3]) rfl [] (v := Value.tuple #[Value.int .i64 (xd10 - (1 : Int)), Value.int .i64 xd19]) (C := True) (by kernel_rfl) trivial hS16 (hS16s1.rt ⟨(xd10 - (1 : Int)), xd19, rfl, rfl, (by omega), (by omega), (by omega), (by omega)⟩)
theorem DrawAdmitRequest_s_c (A : Option Addr) (n c : Nat) (zs : List Int) (w : World) (hn : n ≤ 1048576) (hz : okz .u8 zs) (hr : Rd w w.heap.size A n (zs.map (Value.int .u8))) : Calls Try.prog 24 #[.slice A n c] w (Ret w (fun v new => ∃ (n_ : Int) (a_ : Int) (t_ : Int) (k_ : Int) (w_ : Int), v = Value.tuple #[Value.agg #[Value.int .i64 n_, Value.int .i64 a_, Value.int .i64 t_], Value.int .i64 k_, Value.int .i64 w_] ∧ new = ([]) ∧ (0 ≤ n_) ∧ (n_ ≤ 65) ∧ (-1 ≤ a_) ∧ (a_ ≤ 66) ∧ (-1 ≤ t_) ∧ (t_ ≤ 1000000000000) ∧ (0 ≤ k_) ∧ (k_ ≤ 5) ∧ (t_ - 1 ≤ w_) ∧ (w_ ≤ t_ + 1))) := by
  have hzl := hr.len
  refine calls_FA Try.func24 rfl (n := 22) rfl (l := [(0, Value.slice A n c)]) rfl (by simp) (fun g => ?_)
  have hS := St.init w
  refine wp_seq ?_
  refine c_reg ?_
  refine l_op rfl rfl (fun K hK => op_alloc (d := some 2) rfl rfl [Value.int .i64 0, Value.int .i64 0, Value.int .i64 0] (by kernel_rfl) hS (fun blk2 w1 hS1 => hK _ _ ?_))
  clear hK K
  refine q_seg (S := (fun x_ => St w x_ [Res.box blk2 [Value.int .i64 0, Value.int .i64 0, Value.int .i64 0] 25])) [(4, Value.int .i64 0), (3, Value.int .i64 0)] [.no, .no] True (by kernel_rfl) trivial hS1 ?_
  refine l_nil rfl ?_
  refine then_n ?_
  refine wp_seq ?_
  refine c_reg ?_
  refine q_seg (S := (fun x_ => St w x_ [Res.box blk2 [Value.int .i64 0, Value.int .i64 0, Value.int .i64 0] 25])) [(8, Value.slice A n c)] [.no] True (by kernel_rfl) trivial hS1 ?_
  refine l_op rfl rfl (fun K hK => op_call (d := some 9) rfl rfl ⟨_, Try.func42, by kernel_rfl, by kernel_rfl⟩ (vs := [Value.slice A n c]) (by kernel_rfl) (l1New_c A n c zs w1 (by omega) hz (hS1.rdlow hr)) hS1 (fun v4 new5 w3 Rw3 hS3 => hK _ _ ?_))
  clear hK K
  obtain ⟨blk6, hx7, rfl, rfl⟩ := Rw3
  have hC8 : CurI w A n 0 := CurI.zero (by omega) hz hr
  refine q_seg (S := (fun x_ => St w x_ [Res.box blk6 [Value.slice A n c, Value.int .i64 0, Value.int .i64 hx7] 62, Res.box blk2 [Value.int .i64 0, Value.int .i64 0, Value.int .i64 0] 25])) [(5, Value.pointer (some ⟨blk6, 0, none⟩))] [.no] True (by kernel_rfl) trivial hS3 ?_
  refine l_nil rfl ?_
  refine then_n ?_
  refine wp_seq ?_
  refine c_reg ?_
  refine q_seg (S := (fun x_ => St w x_ [Res.box blk6 [Value.slice A n c, Value.int .i64 0, Value.int .i64 hx7] 62, Res.box blk2 [Value.int .i64 0, Value.int .i64 0, Value.int .i64 0] 25])) [(10, Value.pointer (some ⟨blk6, 0, none⟩))] [.no] True (by kernel_rfl) trivial hS3 ?_
  refine l_op rfl rfl (fun K hK => op_callm (d := some 11) rfl rfl ⟨_, Try.func44, by kernel_rfl, by kernel_rfl⟩ (vs := [Value.pointer (some ⟨blk6, 0, none⟩)]) (by kernel_rfl) (l23Any_s_c blk6 A n c 0 hx7  _ w w3 hS3 hC8 ) (fun v10 new11 w9 Rw9 hS9 => ?_))
  obtain ⟨ix15, hx16, nd12, ad13, td14, rfl, rfl, hC17, hf18, hf19, hf20, hf21, hf22, hf23⟩ := Rw9
  refine hK _ _ ?_
  clear hK K
  refine l_op rfl rfl (fun K hK => op_alloc (d := some 6) rfl rfl [Value.int .i64 0, Value.int .i64 0, Value.int .i64 0] (by kernel_rfl) hS9 (fun blk25 w24 hS24 => hK _ _ ?_))
  clear hK K
  refine l_op rfl rfl (fun K hK => op_store (d := none) rfl rfl (i := 0) (b := blk25) (off := 0) (cs := [Value.int .i64 0, Value.int .i64 0, Value.int .i64 0]) (bt := 25) (by kernel_rfl) (by kernel_rfl) [Value.int .i64 nd12, Value.int .i64 ad13, Value.int .i64 td14] (by kernel_rfl) (by kernel_rfl) (Nat.le_of_ble_eq_true (by kernel_rfl)) (by kernel_rfl) [Res.box blk25 [Value.int .i64 nd12, Value.int .i64 ad13, Value.int .i64 td14] 25, Res.box blk6 [Value.slice A n c, Value.int .i64 ix15, Value.int .i64 hx16] 62, Res.box blk2 [Value.int .i64 0, Value.int .i64 0, Value.int .i64 0] 25] (by kernel_rfl) hS24 (fun w26 hS26 => hK _ _ ?_))
  clear hK K
  refine l_nil rfl ?_
  refine then_n ?_
  refine wp_seq ?_
  refine c_reg ?_
  refine q_seg (S := (fun x_ => St w x_ [Res.box blk25 [Value.int .i64 nd12, Value.int .i64 ad13, Value.int .i64 td14] 25, Res.box blk6 [Value.slice A n c, Value.int .i64 ix15, Value.int .i64 hx16] 62, Res.box blk2 [Value.int .i64 0, Value.int .i64 0, Value.int .i64 0] 25])) [(12, Value.pointer (some ⟨blk6, 0, none⟩))] [.no] True (by kernel_rfl) trivial hS26 ?_
  refine l_op rfl rfl (fun K hK => op_callm (d := some 13) rfl rfl ⟨_, Try.func43, by kernel_rfl, by kernel_rfl⟩ (vs := [Value.pointer (some ⟨blk6, 0, none⟩), Value.int .i64 6]) (by kernel_rfl) (l1Below_s_c blk6 A n c ix15 hx16 (6 : Int) _ w w26 (hS26.front 1 rfl) hC17 (by omega)) (fun v28 new29 w27 Rw27 hS27 => ?_))
  obtain ⟨ix31, hx32, xd30, rfl, rfl, hC33, hf34, hf35⟩ := Rw27
  refine hK _ _ ?_
  clear hK K
  refine q_seg (S := (fun x_ => St w x_ [Res.box blk6 [Value.slice A n c, Value.int .i64 ix31, Value.int .i64 hx32] 62, Res.box blk25 [Value.int .i64 nd12, Value.int .i64 ad13, Value.int .i64 td14] 25, Res.box blk2 [Value.int .i64 0, Value.int .i64 0, Value.int .i64 0] 25])) [(7, Value.int .i64 xd30)] [.no] True (by kernel_rfl) trivial hS27 ?_
  refine l_nil rfl ?_
  refine then_n ?_
  refine wp_seq ?_
  refine c_drawnS (S := (fun x_ => St w x_ [Res.box blk25 [Value.int .i64 nd12, Value.int .i64 ad13, Value.int .i64 td14] 25])) [] (by kernel_rfl) hS27 (fun w36 hS36 => ?_)
  refine t_seg (S := (fun x_ => St w x_ [Res.box blk25 [Value.int .i64 nd12, Value.int .i64 ad13, Value.int .i64 td14] 25])) [(0, .v (Value.agg #[Value.int .i64 nd12, Value.int .i64 ad13, Value.int .i64 td14])), (1, .no), (2, .no), (4, .no), (3, .v (Value.int .i64 td14))] 6 #[true, true, true, true, true, false, false, false, false, false, false] [(17, Value.int .i64 td14), (18, Value.pointer (some ⟨blk6, 0, none⟩)), (16, Value.pointer (some ⟨blk25, 0 + 2, none⟩)), (15, Value.int .i64 xd30), (14, Value.agg #[Value.int .i64 nd12, Value.int .i64 ad13, Value.int .i64 td14])] ((LoadsAt Try.prog (fun x_ => St w x_ [Res.box blk25 [Value.int .i64 nd12, Value.int .i64 ad13, Value.int .i64 td14] 25]) 25 ⟨blk25, 0, none⟩ (Value.agg #[Value.int .i64 nd12, Value.int .i64 ad13, Value.int .i64 td14])) ∧ (LoadsAt Try.prog (fun x_ => St w x_ [Res.box blk25 [Value.int .i64 nd12, Value.int .i64 ad13, Value.int .i64 td14] 25]) 3 ⟨blk25, 0 + 2, none⟩ (Value.int .i64 td14))) (by kernel_rfl) (Qpanic.then Qpanic.bp) rfl (by kernel_rfl) ⟨(ld_boxN (i := 0) (k := 3) rfl rfl rfl (by kernel_rfl)), (ld_box (i := 0) rfl rfl (by kernel_rfl))⟩ (hS36.sub (List.Sublist.cons _ (List.Sublist.cons_cons _ (List.Sublist.cons _ List.Sublist.slnil)))) ?_
  refine a_op (i := 5) (fuel := 5) (listed' := #[true, true, true, true, true, true, false, false, false, false, false]) rfl rfl (by kernel_rfl) (by kernel_rfl) rfl (fun K hK => op_buildSlice (d := some 19) rfl rfl (e := 3) (by kernel_rfl) 1 (by kernel_rfl) (by decide) (by decide) [Value.int .i64 0, Value.int .i64 0, Value.int .i64 1, Value.int .i64 (-1)] (by kernel_rfl) rfl hS36 (fun blk38 w37 hS37 => hK _ _ (fun _ => (hS37.sub (List.Sublist.cons _ (List.Sublist.cons _ (List.Sublist.cons_cons _ (List.Sublist.cons _ List.Sublist.slnil)))))) ?_))
  clear hK K
  refine a_op (i := 6) (fuel := 4) (listed' := #[true, true, true, true, true, true, true, false, false, false, false]) rfl rfl (by kernel_rfl) (by kernel_rfl) rfl (fun K hK => op_callm (d := some 20) rfl rfl ⟨_, Try.func45, by kernel_rfl, by kernel_rfl⟩ (vs := [Value.pointer (some ⟨blk6, 0, none⟩), Value.slice (some ⟨blk38, 0, none⟩) 4 4]) (by kernel_rfl) (l1Int_s_c blk6 A n c ix31 hx32 (some ⟨blk38, 0, none⟩) 4 ([0, 0, 1, (-1)]) _ w w37 (hS37.front 1 rfl) hC33 (by first | omega | decide | simp)) (fun v40 new41 w39 Rw39 hS39 => ?_))
  obtain ⟨ix43, hx44, xd42, rfl, rfl, hC45, hf46⟩ := Rw39
  simp only [List.mem_cons, List.mem_nil_iff, or_false, List.not_mem_nil] at hf46
  have hf46b : -1 ≤ xd42 ∧ xd42 ≤ 1 := by omega
  refine hK _ _ (fun _ => (hS39.sub (List.Sublist.cons _ (List.Sublist.cons _ (List.Sublist.cons_cons _ (List.Sublist.cons _ List.Sublist.slnil)))))) ?_
  clear hK K
  refine t_seg (S := (fun x_ => St w x_ [Res.box blk25 [Value.int .i64 nd12, Value.int .i64 ad13, Value.int .i64 td14] 25])) [(7, .no)] 3 #[true, true, true, true, true, true, true, true, false, false, false] [(21, Value.int .i64 (td14 + xd42))] ((InK .i64 (td14 + xd42))) (by kernel_rfl) (Qpanic.then Qpanic.bp) rfl (by kernel_rfl) (in64 (by omega) (by omega)) (hS39.sub (List.Sublist.cons _ (List.Sublist.cons _ (List.Sublist.cons_cons _ (List.Sublist.cons _ List.Sublist.slnil))))) ?_
  refine a_op (i := 8) (fuel := 2) (listed' := #[true, true, true, true, true, true, true, true, true, false, false]) rfl rfl (by kernel_rfl) (by kernel_rfl) rfl (fun K hK => op_store (d := none) rfl rfl (i := 3) (b := blk2) (off := 0) (cs := [Value.int .i64 0, Value.int .i64 0, Value.int .i64 0]) (bt := 25) (by kernel_rfl) (by kernel_rfl) [Value.int .i64 nd12, Value.int .i64 ad13, Value.int .i64 td14] (by kernel_rfl) (by kernel_rfl) (Nat.le_of_ble_eq_true (by kernel_rfl)) (by kernel_rfl) [Res.box blk6 [Value.slice A n c, Value.int .i64 ix43, Value.int .i64 hx44] 62, Res.row (Value.slice (some ⟨blk38, 0, none⟩) 4 4) 3 1 4 ([Value.int .i64 0, Value.int .i64 0, Value.int .i64 1, Value.int .i64 (-1)]), Res.box blk25 [Value.int .i64 nd12, Value.int .i64 ad13, Value.int .i64 td14] 25, Res.box blk2 [Value.int .i64 nd12, Value.int .i64 ad13, Value.int .i64 td14] 25] (by kernel_rfl) hS39 (fun w47 hS47 => hK _ _ (fun _ => (hS47.sub (List.Sublist.cons _ (List.Sublist.cons _ (List.Sublist.cons_cons _ (List.Sublist.cons _ List.Sublist.slnil)))))) ?_))
  clear hK K
  refine t_seg (S := (fun x_ => St w x_ [Res.box blk25 [Value.int .i64 nd12, Value.int .i64 ad13, Value.int .i64 td14] 25])) [(9, .no), (10, .no)] 0 #[true, true, true, true, true, true, true, true, true, true, true] [(4, Value.int .i64 (td14 + xd42)), (3, Value.int .i64 xd30)] True (by kernel_rfl) (Qpanic.then Qpanic.bp) rfl (by kernel_rfl) trivial (hS47.sub (List.Sublist.cons _ (List.Sublist.cons _ (List.Sublist.cons_cons _ (List.Sublist.cons _ List.Sublist.slnil))))) ?_
  refine a_done (by kernel_rfl) ?_
  refine then_n ?_
  refine wp_ret ?_
  have hS47s1 : St w w47 [] := (hS47.sub (List.Sublist.cons _ (List.Sublist.cons _ (List.Sublist.cons _ (List.Sublist.cons _ List.Sublist.slnil)))))
  exact c_end (S := (fun x_ => St w x_ [Res.box blk6 [Value.slice A n c, Value.int .i64 ix43, Value.int .i64 hx44] 62, Res.row (Value.slice (some ⟨blk38, 0, none⟩) 4 4) 3 1 4 ([Value.int .i64 0, Value.int .i64 0, Value.int .i64 1, Value.int .i64 (-1)]), Res.box blk25 [Value.int .i64 nd12, Value.int .i64 ad13, Value.int .i64 td14] 25, Res.box blk2 [Value.int .i64 nd12, Value.int .i64 ad13, Value.int .i64 td14] 25])) (rs := [.cell 2 25, .tmp 3, .tmp 4]) rfl [Value.agg #[Value.int .i64 nd12, Value.int .i64 ad13, Value.int .i64 td14]] (v := Value.tuple #[Value.agg #[Value.int .i64 nd12, Value.int .i64 ad13, Value.int .i64 td14], Value.int .i64 xd30, Value.int .i64 (td14 + xd42)]) (C := ((LoadsAt Try.prog (fun x_ => St w x_ [Res.box blk6 [Value.slice A n c, Value.int .i64 ix43, Value.int .i64 hx44] 62, Res.row (Value.slice (some ⟨blk38, 0, none⟩) 4 4) 3 1 4 ([Value.int .i64 0, Value.int .i64 0, Value.int .i64 1, Value.int .i64 (-1)]), Res.box blk25 [Value.int .i64 nd12, Value.int .i64 ad13, Value.int .i64 td14] 25, Res.box blk2 [Value.int .i64 nd12, Value.int .i64 ad13, Value.int .i64 td14] 25]) 25 ⟨blk2, 0, none⟩ (Value.agg #[Value.int .i64 nd12, Value.int .i64 ad13, Value.int .i64 td14])))) (by kernel_rfl) (ld_boxN (i := 3) (k := 3) rfl rfl rfl (by kernel_rfl)) hS47 (hS47s1.rt ⟨nd12, ad13, td14, xd30, (td14 + xd42), rfl, rfl, (by omega), (by omega), (by omega), (by omega), (by omega), (by omega), (by omega), (by omega), (by omega), (by omega)⟩)
theorem DrawDoor_s_c (A : Option Addr) (n c : Nat) (zs : List Int) (w : World) (hn : n ≤ 1048576) (hz : okz .u8 zs) (hr : Rd w w.heap.size A n (zs.map (Value.int .u8))) : Calls Try.prog 25 #[.slice A n c] w (Ret w (fun v new => ∃ (n_ : Int) (a_ : Int) (t_ : Int) (l_ : List Int) (l_A : Option Addr) (l_c : Nat), v = Value.tuple #[Value.agg #[Value.int .i64 n_, Value.int .i64 a_, Value.int .i64 t_], Value.slice l_A (List.length l_) l_c] ∧ new = (Res.row (Value.slice l_A (List.length l_) l_c) 3 1 (List.length l_) (l_.map (Value.int .i64)) :: []) ∧ (1 ≤ n_) ∧ (n_ ≤ 9) ∧ (0 ≤ a_) ∧ (a_ ≤ n_) ∧ (0 ≤ t_) ∧ (t_ ≤ 19) ∧ (∀ z ∈ l_, 1 ≤ z ∧ z ≤ 4) ∧ (List.length l_ ≤ 19))) := by
  have hzl := hr.len
  refine calls_FA Try.func25 rfl (n := 27) rfl (l := [(0, Value.slice A n c)]) rfl (by simp) (fun g => ?_)
  have hS := St.init w
  refine wp_seq ?_
  refine c_reg ?_
  refine l_op rfl rfl (fun K hK => op_alloc (d := some 2) rfl rfl [Value.int .i64 0, Value.int .i64 0, Value.int .i64 0] (by kernel_rfl) hS (fun blk2 w1 hS1 => hK _ _ ?_))
  clear hK K
  refine q_seg (S := (fun x_ => St w x_ [Res.box blk2 [Value.int .i64 0, Value.int .i64 0, Value.int .i64 0] 25])) [(3, Value.slice none 0 0)] [.no] True (by kernel_rfl) trivial hS1 ?_
  refine l_nil rfl ?_
  refine then_n ?_
  refine wp_seq ?_
  refine c_reg ?_
  refine q_seg (S := (fun x_ => St w x_ [Res.box blk2 [Value.int .i64 0, Value.int .i64 0, Value.int .i64 0] 25])) [(8, Value.slice A n c)] [.no] True (by kernel_rfl) trivial hS1 ?_
  refine l_op rfl rfl (fun K hK => op_call (d := some 9) rfl rfl ⟨_, Try.func42, by kernel_rfl, by kernel_rfl⟩ (vs := [Value.slice A n c]) (by kernel_rfl) (l1New_c A n c zs w1 (by omega) hz (hS1.rdlow hr)) hS1 (fun v4 new5 w3 Rw3 hS3 => hK _ _ ?_))
  clear hK K
  obtain ⟨blk6, hx7, rfl, rfl⟩ := Rw3
  have hC8 : CurI w A n 0 := CurI.zero (by omega) hz hr
  refine q_seg (S := (fun x_ => St w x_ [Res.box blk6 [Value.slice A n c, Value.int .i64 0, Value.int .i64 hx7] 62, Res.box blk2 [Value.int .i64 0, Value.int .i64 0, Value.int .i64 0] 25])) [(4, Value.pointer (some ⟨blk6, 0, none⟩))] [.no] True (by kernel_rfl) trivial hS3 ?_
  refine l_nil rfl ?_
  refine then_n ?_
  refine wp_seq ?_
  refine c_reg ?_
  refine q_seg (S := (fun x_ => St w x_ [Res.box blk6 [Value.slice A n c, Value.int .i64 0, Value.int .i64 hx7] 62, Res.box blk2 [Value.int .i64 0, Value.int .i64 0, Value.int .i64 0] 25])) [(10, Value.pointer (some ⟨blk6, 0, none⟩))] [.no] True (by kernel_rfl) trivial hS3 ?_
  refine l_op rfl rfl (fun K hK => op_callm (d := some 11) rfl rfl ⟨_, Try.func46, by kernel_rfl, by kernel_rfl⟩ (vs := [Value.pointer (some ⟨blk6, 0, none⟩)]) (by kernel_rfl) (l23Draw_s_c blk6 A n c 0 hx7  _ w w3 hS3 hC8 ) (fun v10 new11 w9 Rw9 hS9 => ?_))
  obtain ⟨ix15, hx16, nd12, ad13, td14, rfl, rfl, hC17, hf18, hf19, hf20, hf21, hf22, hf23⟩ := Rw9
  refine hK _ _ ?_
  clear hK K
  refine l_op rfl rfl (fun K hK => op_alloc (d := some 5) rfl rfl [Value.int .i64 0, Value.int .i64 0, Value.int .i64 0] (by kernel_rfl) hS9 (fun blk25 w24 hS24 => hK _ _ ?_))
  clear hK K
  refine l_op rfl rfl (fun K hK => op_store (d := none) rfl rfl (i := 0) (b := blk25) (off := 0) (cs := [Value.int .i64 0, Value.int .i64 0, Value.int .i64 0]) (bt := 25) (by kernel_rfl) (by kernel_rfl) [Value.int .i64 nd12, Value.int .i64 ad13, Value.int .i64 td14] (by kernel_rfl) (by kernel_rfl) (Nat.le_of_ble_eq_true (by kernel_rfl)) (by kernel_rfl) [Res.box blk25 [Value.int .i64 nd12, Value.int .i64 ad13, Value.int .i64 td14] 25, Res.box blk6 [Value.slice A n c, Value.int .i64 ix15, Value.int .i64 hx16] 62, Res.box blk2 [Value.int .i64 0, Value.int .i64 0, Value.int .i64 0] 25] (by kernel_rfl) hS24 (fun w26 hS26 => hK _ _ ?_))
  clear hK K
  refine l_nil rfl ?_
  refine then_n ?_
  refine wp_seq ?_
  refine c_reg ?_
  refine l_op rfl rfl (fun K hK => op_buildSlice (d := some 12) rfl rfl (e := 3) (by kernel_rfl) 1 (by kernel_rfl) (by decide) (by decide) [] (by kernel_rfl) rfl hS26 (fun blk28 w27 hS27 => hK _ _ ?_))
  clear hK K
  refine q_seg (S := (fun x_ => St w x_ [Res.row (Value.slice (some ⟨blk28, 0, none⟩) 0 0) 3 1 0 ([]), Res.box blk25 [Value.int .i64 nd12, Value.int .i64 ad13, Value.int .i64 td14] 25, Res.box blk6 [Value.slice A n c, Value.int .i64 ix15, Value.int .i64 hx16] 62, Res.box blk2 [Value.int .i64 0, Value.int .i64 0, Value.int .i64 0] 25])) [(6, Value.slice (some ⟨blk28, 0, none⟩) 0 0)] [.no] True (by kernel_rfl) trivial hS27 ?_
  refine l_nil rfl ?_
  refine then_n ?_
  refine wp_seq ?_
  refine wp_seq ?_
  refine c_reg ?_
  refine q_seg (S := (fun x_ => St w x_ [Res.row (Value.slice (some ⟨blk28, 0, none⟩) 0 0) 3 1 0 ([]), Res.box blk25 [Value.int .i64 nd12, Value.int .i64 ad13, Value.int .i64 td14] 25, Res.box blk6 [Value.slice A n c, Value.int .i64 ix15, Value.int .i64 hx16] 62, Res.box blk2 [Value.int .i64 0, Value.int .i64 0, Value.int .i64 0] 25])) [(13, Value.pointer (some ⟨blk6, 0, none⟩))] [.no] True (by kernel_rfl) trivial hS27 ?_
  refine l_op rfl rfl (fun K hK => op_callm (d := some 14) rfl rfl ⟨_, Try.func43, by kernel_rfl, by kernel_rfl⟩ (vs := [Value.pointer (some ⟨blk6, 0, none⟩), Value.int .i64 20]) (by kernel_rfl) (l1Below_s_c blk6 A n c ix15 hx16 (20 : Int) _ w w27 (hS27.front 2 rfl) hC17 (by omega)) (fun v30 new31 w29 Rw29 hS29 => ?_))
  obtain ⟨ix33, hx34, xd32, rfl, rfl, hC35, hf36, hf37⟩ := Rw29
  refine hK _ _ ?_
  clear hK K
  refine q_seg (S := (fun x_ => St w x_ [Res.box blk6 [Value.slice A n c, Value.int .i64 ix33, Value.int .i64 hx34] 62, Res.row (Value.slice (some ⟨blk28, 0, none⟩) 0 0) 3 1 0 ([]), Res.box blk25 [Value.int .i64 nd12, Value.int .i64 ad13, Value.int .i64 td14] 25, Res.box blk2 [Value.int .i64 0, Value.int .i64 0, Value.int .i64 0] 25])) [(7, Value.int .i64 xd32)] [.no] True (by kernel_rfl) trivial hS29 ?_
  refine l_nil rfl ?_
  refine then_n ?_
  refine wp_block ?_
  refine c_loop (X := Int × List Int × Option Addr × Nat × Int × Int) (fun (x_ : Int × List Int × Option Addr × Nat × Int × Int) => match x_ with | (j, zs, A2, c2, ic, hc) => [(2, Value.pointer (some ⟨blk2, 0, none⟩)), (4, Value.pointer (some ⟨blk6, 0, none⟩)), (5, Value.pointer (some ⟨blk25, 0, none⟩)), (6, Value.slice A2 (List.length zs) c2), (7, Value.int .i64 j)]) (fun (x_ : Int × List Int × Option Addr × Nat × Int × Int) (wr : World) => match x_ with | (j, zs, A2, c2, ic, hc) => (CurI w A n ic) ∧ (0 ≤ j) ∧ (j + ((zs.length : Nat) : Int) ≤ xd32) ∧ (∀ z ∈ zs, 1 ≤ z ∧ z ≤ 4) ∧ St w wr [Res.box blk6 [Value.slice A n c, Value.int .i64 ic, Value.int .i64 hc] 62, Res.row (Value.slice A2 (List.length zs) c2) 3 1 (List.length zs) (zs.map (Value.int .i64)), Res.box blk25 [Value.int .i64 nd12, Value.int .i64 ad13, Value.int .i64 td14] 25, Res.box blk2 [Value.int .i64 0, Value.int .i64 0, Value.int .i64 0] 25]) (fun (x_ : Int × List Int × Option Addr × Nat × Int × Int) => match x_ with | (j, zs, A2, c2, ic, hc) => j.toNat) ((xd32, [], (some ⟨blk28, 0, none⟩), 0, ix33, hx34)) ?_ ?_ ?_
  · exact (agree_cons (by kernel_rfl) (agree_cons (by kernel_rfl) (agree_cons (by kernel_rfl) (agree_cons (by kernel_rfl) (agree_cons (by kernel_rfl) agree_nil)))))
  · exact ⟨hC35, (by omega), (by simp), all_nil, hS29⟩
  rintro ⟨j, zs, A2, c2, ic, hc⟩ g39 w38 ⟨hCl, hj0, hjz, hzb, hS38⟩
  obtain ⟨hClo2, hChi2, hCn2, _⟩ := id hCl
  refine wp_seq ?_
  refine wp_seq ?_
  refine c_reg ?_
  refine q_seg (S := (fun x_ => St w x_ [Res.box blk6 [Value.slice A n c, Value.int .i64 ic, Value.int .i64 hc] 62, Res.row (Value.slice A2 (List.length zs) c2) 3 1 (List.length zs) (zs.map (Value.int .i64)), Res.box blk25 [Value.int .i64 nd12, Value.int .i64 ad13, Value.int .i64 td14] 25, Res.box blk2 [Value.int .i64 0, Value.int .i64 0, Value.int .i64 0] 25])) [(16, Value.bool (decide ((0 : Int) < j))), (15, Value.int .i64 j)] [.no, .no] True (by kernel_rfl) trivial hS38 ?_
  refine l_nil rfl ?_
  refine then_n ?_
  rcases Bool.eq_false_or_eq_true (decide ((0 : Int) < j)) with hb40 | hb40
  · skip
    have hb40p := of_decide_eq_true hb40
    refine c_true (b := (decide ((0 : Int) < j))) (by kernel_rfl) hb40 ?_
    refine wp_skip ?_
    refine then_n ?_
    refine wp_seq ?_
    refine wp_block ?_
    refine c_reg ?_
    refine q_seg (S := (fun x_ => St w x_ [Res.box blk6 [Value.slice A n c, Value.int .i64 ic, Value.int .i64 hc] 62, Res.row (Value.slice A2 (List.length zs) c2) 3 1 (List.length zs) (zs.map (Value.int .i64)), Res.box blk25 [Value.int .i64 nd12, Value.int .i64 ad13, Value.int .i64 td14] 25, Res.box blk2 [Value.int .i64 0, Value.int .i64 0, Value.int .i64 0] 25])) [(20, Value.pointer (some ⟨blk6, 0, none⟩)), (19, Value.slice A2 (List.length zs) c2)] [.no, .no] True (by kernel_rfl) trivial hS38 ?_
    refine l_op rfl rfl (fun K hK => op_callm (d := some 21) rfl rfl ⟨_, Try.func43, by kernel_rfl, by kernel_rfl⟩ (vs := [Value.pointer (some ⟨blk6, 0, none⟩), Value.int .i64 4]) (by kernel_rfl) (l1Below_s_c blk6 A n c ic hc (4 : Int) _ w w38 hS38 hCl (by omega)) (fun v42 new43 w41 Rw41 hS41 => ?_))
    obtain ⟨ix45, hx46, xd44, rfl, rfl, hC47, hf48, hf49⟩ := Rw41
    refine hK _ _ ?_
    clear hK K
    refine q_seg (S := (fun x_ => St w x_ [Res.box blk6 [Value.slice A n c, Value.int .i64 ix45, Value.int .i64 hx46] 62, Res.row (Value.slice A2 (List.length zs) c2) 3 1 (List.length zs) (zs.map (Value.int .i64)), Res.box blk25 [Value.int .i64 nd12, Value.int .i64 ad13, Value.int .i64 td14] 25, Res.box blk2 [Value.int .i64 0, Value.int .i64 0, Value.int .i64 0] 25])) [(22, Value.int .i64 ((1 : Int) + xd44))] [.no] ((InK .i64 ((1 : Int) + xd44))) (by kernel_rfl) (in64 (by omega) (by omega)) hS41 ?_
    refine l_op rfl rfl (fun K hK => op_buildSlice (d := some 23) rfl rfl (e := 3) (by kernel_rfl) 1 (by kernel_rfl) (by decide) (by decide) [Value.int .i64 ((1 : Int) + xd44)] (by kernel_rfl) rfl hS41 (fun blk51 w50 hS50 => hK _ _ ?_))
    clear hK K
    refine l_op rfl rfl (fun K hK => op_append (d := some 24) rfl rfl elInt hS50 (i := 2) rfl rfl rfl (news := [Value.int .i64 ((1 : Int) + xd44)]) (hS50.rd (List.mem_of_getElem? (i := 0) rfl)) (all_one (by rfl)) (by omega) (by omega) (fun v53 w52 hS52 => hK _ _ ?_))
    clear hK K
    obtain ⟨hlv53, Av53, cv53, hvv53, hnv53, hmv53⟩ := hS52.row_slice (List.mem_of_getElem? (i := 2) rfl)
    subst hvv53
    refine q_seg (S := (fun x_ => St w x_ [Res.row (Value.slice (some ⟨blk51, 0, none⟩) 1 1) 3 1 1 ([Value.int .i64 ((1 : Int) + xd44)]), Res.box blk6 [Value.slice A n c, Value.int .i64 ix45, Value.int .i64 hx46] 62, Res.row (Value.slice Av53 ((List.length zs) + 1) cv53) 3 1 ((List.length zs) + 1) ((zs.map (Value.int .i64)) ++ [Value.int .i64 ((1 : Int) + xd44)]), Res.box blk25 [Value.int .i64 nd12, Value.int .i64 ad13, Value.int .i64 td14] 25, Res.box blk2 [Value.int .i64 0, Value.int .i64 0, Value.int .i64 0] 25])) [(6, Value.slice Av53 ((List.length zs) + 1) cv53)] [.no] True (by kernel_rfl) trivial hS52 ?_
    refine l_nil rfl ?_
    refine blk_n ?_
    refine then_n ?_
    refine c_reg ?_
    refine q_seg (S := (fun x_ => St w x_ [Res.row (Value.slice (some ⟨blk51, 0, none⟩) 1 1) 3 1 1 ([Value.int .i64 ((1 : Int) + xd44)]), Res.box blk6 [Value.slice A n c, Value.int .i64 ix45, Value.int .i64 hx46] 62, Res.row (Value.slice Av53 ((List.length zs) + 1) cv53) 3 1 ((List.length zs) + 1) ((zs.map (Value.int .i64)) ++ [Value.int .i64 ((1 : Int) + xd44)]), Res.box blk25 [Value.int .i64 nd12, Value.int .i64 ad13, Value.int .i64 td14] 25, Res.box blk2 [Value.int .i64 0, Value.int .i64 0, Value.int .i64 0] 25])) [(7, Value.int .i64 (j - (1 : Int))), (18, Value.int .i64 (j - (1 : Int))), (17, Value.int .i64 j)] [.no, .no, .no] ((InK .i64 (j - (1 : Int)))) (by kernel_rfl) (in64 (by omega) (by omega)) hS52 ?_
    refine l_nil rfl ?_
    refine then_n ?_
    have hS52s1 : St w w52 [Res.box blk6 [Value.slice A n c, Value.int .i64 ix45, Value.int .i64 hx46] 62, Res.row (Value.slice Av53 ((List.length zs) + 1) cv53) 3 1 ((List.length zs) + 1) ((zs.map (Value.int .i64)) ++ [Value.int .i64 ((1 : Int) + xd44)]), Res.box blk25 [Value.int .i64 nd12, Value.int .i64 ad13, Value.int .i64 td14] 25, Res.box blk2 [Value.int .i64 0, Value.int .i64 0, Value.int .i64 0] 25] := (hS52.sub (List.Sublist.cons _ (List.Sublist.cons_cons _ (List.Sublist.cons_cons _ (List.Sublist.cons_cons _ (List.Sublist.cons_cons _ List.Sublist.slnil))))))
    refine round_end ((j - 1, zs ++ [((1 : Int) + xd44)], Av53, cv53, ix45, hx46)) ?_ ?_ ?_
    · exact (agree_cons (by kernel_rfl) (agree_cons (by kernel_rfl) (agree_cons (by kernel_rfl) (agree_eq (v0 := Value.slice Av53 ((List.length zs) + 1) cv53) (by kernel_rfl) (congrArg (fun m => Value.slice Av53 m cv53) (by simp)) (agree_cons (by kernel_rfl) agree_nil)))))
    · exact ⟨hC47, (by omega), (by simp; omega), (all_snoc hzb ⟨by omega, by omega⟩), (hS52s1.eqv (by simp))⟩
    · exact (by first | omega | (dsimp only; omega))
  · skip
    have hb40p := of_decide_eq_false hb40
    refine c_false (b := (decide ((0 : Int) < j))) (by kernel_rfl) hb40 ?_
    refine wp_exit ?_
    refine then_x ?_
    refine then_x ?_
    refine blk_hit ?_
    refine then_n ?_
    refine wp_seq ?_
    refine c_reg ?_
    refine q_seg (S := (fun x_ => St w x_ [Res.box blk6 [Value.slice A n c, Value.int .i64 ic, Value.int .i64 hc] 62, Res.row (Value.slice A2 (List.length zs) c2) 3 1 (List.length zs) (zs.map (Value.int .i64)), Res.box blk25 [Value.int .i64 nd12, Value.int .i64 ad13, Value.int .i64 td14] 25, Res.box blk2 [Value.int .i64 0, Value.int .i64 0, Value.int .i64 0] 25])) [(26, Value.slice A2 (List.length zs) c2), (25, Value.agg #[Value.int .i64 nd12, Value.int .i64 ad13, Value.int .i64 td14])] [.v (Value.agg #[Value.int .i64 nd12, Value.int .i64 ad13, Value.int .i64 td14]), .no] ((LoadsAt Try.prog (fun x_ => St w x_ [Res.box blk6 [Value.slice A n c, Value.int .i64 ic, Value.int .i64 hc] 62, Res.row (Value.slice A2 (List.length zs) c2) 3 1 (List.length zs) (zs.map (Value.int .i64)), Res.box blk25 [Value.int .i64 nd12, Value.int .i64 ad13, Value.int .i64 td14] 25, Res.box blk2 [Value.int .i64 0, Value.int .i64 0, Value.int .i64 0] 25]) 25 ⟨blk25, 0, none⟩ (Value.agg #[Value.int .i64 nd12, Value.int .i64 ad13, Value.int .i64 td14]))) (by kernel_rfl) (ld_boxN (i := 2) (k := 3) rfl rfl rfl (by kernel_rfl)) hS38 ?_
    refine l_op rfl rfl (fun K hK => op_store (d := none) rfl rfl (i := 3) (b := blk2) (off := 0) (cs := [Value.int .i64 0, Value.int .i64 0, Value.int .i64 0]) (bt := 25) (by kernel_rfl) (by kernel_rfl) [Value.int .i64 nd12, Value.int .i64 ad13, Value.int .i64 td14] (by kernel_rfl) (by kernel_rfl) (Nat.le_of_ble_eq_true (by kernel_rfl)) (by kernel_rfl) [Res.box blk6 [Value.slice A n c, Value.int .i64 ic, Value.int .i64 hc] 62, Res.row (Value.slice A2 (List.length zs) c2) 3 1 (List.length zs) (zs.map (Value.int .i64)), Res.box blk25 [Value.int .i64 nd12, Value.int .i64 ad13, Value.int .i64 td14] 25, Res.box blk2 [Value.int .i64 nd12, Value.int .i64 ad13, Value.int .i64 td14] 25] (by kernel_rfl) hS38 (fun w54 hS54 => hK _ _ ?_))
    clear hK K
    refine q_seg (S := (fun x_ => St w x_ [Res.box blk6 [Value.slice A n c, Value.int .i64 ic, Value.int .i64 hc] 62, Res.row (Value.slice A2 (List.length zs) c2) 3 1 (List.length zs) (zs.map (Value.int .i64)), Res.box blk25 [Value.int .i64 nd12, Value.int .i64 ad13, Value.int .i64 td14] 25, Res.box blk2 [Value.int .i64 nd12, Value.int .i64 ad13, Value.int .i64 td14] 25])) [(3, Value.slice A2 (List.length zs) c2)] [.no] True (by kernel_rfl) trivial hS54 ?_
    refine l_nil rfl ?_
    refine then_n ?_
    refine wp_ret ?_
    have hS54s2 : St w w54 [Res.row (Value.slice A2 (List.length zs) c2) 3 1 (List.length zs) (zs.map (Value.int .i64))] := (hS54.sub (List.Sublist.cons _ (List.Sublist.cons_cons _ (List.Sublist.cons _ (List.Sublist.cons _ List.Sublist.slnil)))))
    exact c_end (S := (fun x_ => St w x_ [Res.box blk6 [Value.slice A n c, Value.int .i64 ic, Value.int .i64 hc] 62, Res.row (Value.slice A2 (List.length zs) c2) 3 1 (List.length zs) (zs.map (Value.int .i64)), Res.box blk25 [Value.int .i64 nd12, Value.int .i64 ad13, Value.int .i64 td14] 25, Res.box blk2 [Value.int .i64 nd12, Value.int .i64 ad13, Value.int .i64 td14] 25])) (rs := [.cell 2 25, .tmp 3]) rfl [Value.agg #[Value.int .i64 nd12, Value.int .i64 ad13, Value.int .i64 td14]] (v := Value.tuple #[Value.agg #[Value.int .i64 nd12, Value.int .i64 ad13, Value.int .i64 td14], Value.slice A2 (List.length zs) c2]) (C := ((LoadsAt Try.prog (fun x_ => St w x_ [Res.box blk6 [Value.slice A n c, Value.int .i64 ic, Value.int .i64 hc] 62, Res.row (Value.slice A2 (List.length zs) c2) 3 1 (List.length zs) (zs.map (Value.int .i64)), Res.box blk25 [Value.int .i64 nd12, Value.int .i64 ad13, Value.int .i64 td14] 25, Res.box blk2 [Value.int .i64 nd12, Value.int .i64 ad13, Value.int .i64 td14] 25]) 25 ⟨blk2, 0, none⟩ (Value.agg #[Value.int .i64 nd12, Value.int .i64 ad13, Value.int .i64 td14])))) (by kernel_rfl) (ld_boxN (i := 3) (k := 3) rfl rfl rfl (by kernel_rfl)) hS54 (hS54s2.rt ⟨nd12, ad13, td14, zs, A2, c2, rfl, rfl, (by omega), (by omega), (by omega), (by omega), (by omega), (by omega), hzb, (by omega)⟩)

theorem BackoffTicks_i_c (a : Int) (b : Int) (ha : I64 a) (hb : I64 b) (w : World) : Calls Try.prog 18 #[Value.int .i64 a, Value.int .i64 b] w (RetV w (Value.int .i64 (bticks a b))) := by
  obtain ⟨ha1, ha2⟩ := ha
  obtain ⟨hb1, hb2⟩ := hb
  refine calls_FA Try.func18 rfl (n := 19) rfl (l := [(0, Value.int .i64 a), (1, Value.int .i64 b)]) rfl (by simp) (fun g => ?_)
  have hS := St.init w
  refine wp_seq ?_
  refine c_reg ?_
  refine q_seg (S := (fun x_ => St w x_ [])) [(4, Value.int .i64 0)] [.no] True (by kernel_rfl) trivial hS ?_
  refine l_nil rfl ?_
  refine then_n ?_
  refine wp_seq ?_
  refine wp_seq ?_
  refine c_reg ?_
  refine q_seg (S := (fun x_ => St w x_ [])) [(6, Value.int .i64 a)] [.no] True (by kernel_rfl) trivial hS ?_
  refine l_op rfl rfl (fun K hK => op_callv (d := some 7) rfl rfl ⟨_, Try.func36, by kernel_rfl, by kernel_rfl⟩ (vs := [Value.int .i64 a, Value.int .i64 0, Value.int .i64 6]) (by kernel_rfl) (v := Value.bool (inR a 0 6)) (InRange_c a 0 6 _) hS (fun w1 hS1 => hK _ _ ?_))
  clear hK K
  refine q_seg (S := (fun x_ => St w x_ [])) [(8, Value.bool (!(inR a 0 6)))] [.no] True (by kernel_rfl) trivial hS1 ?_
  refine l_nil rfl ?_
  refine then_n ?_
  rcases Bool.eq_false_or_eq_true (inR a 0 6) with hb2 | hb2
  · skip
    obtain ⟨hb2p, hb2q⟩ := inR_iff.1 hb2
    refine c_false (b := (!(inR a 0 6))) (by kernel_rfl) (nb (v := true) hb2) ?_
    refine wp_skip ?_
    refine then_n ?_
    refine wp_seq ?_
    refine c_reg ?_
    obtain ⟨hpw3, hpw3a, hpw3b, hpw3c⟩ := pw_of (e := a) (by omega) (by omega)
    refine q_seg (S := (fun x_ => St w x_ [])) [(5, Value.int .i64 (pw a)), (10, Value.int .i64 (pw a)), (9, Value.int .i64 a)] [.no, .v (.int .i64 (pw a)), .no] (((0 : Int) ≤ a) ∧ (IntKind.wrap .i64 ((1 : Int) * 2 ^ (min (Int.toNat a) (IntKind.bits .i64))) = (pw a))) (by kernel_rfl) ⟨(by omega), hpw3⟩ hS1 ?_
    refine l_nil rfl ?_
    refine then_n ?_
    refine wp_seq ?_
    refine c_reg ?_
    refine q_seg (S := (fun x_ => St w x_ [])) [(13, Value.int .i64 a), (12, Value.int .i64 b), (11, Value.int .i64 (pw a))] [.no, .no, .no] True (by kernel_rfl) trivial hS1 ?_
    refine l_op rfl rfl (fun K hK => op_buildSlice (d := some 14) rfl rfl (e := 3) (by kernel_rfl) 1 (by kernel_rfl) (by decide) (by decide) [Value.int .i64 b, Value.int .i64 a] (by kernel_rfl) rfl hS1 (fun blk5 w4 hS4 => hK _ _ ?_))
    clear hK K
    refine l_op rfl rfl (fun K hK => op_callv (d := some 15) rfl rfl ⟨_, Try.func41, by kernel_rfl, by kernel_rfl⟩ (vs := [Value.int .i64 19, Value.slice (some ⟨blk5, 0, none⟩) 2 2]) (by kernel_rfl) (v := Value.int .i64 (khash (19 : Int) [b, a])) (KeyedHashI_c (19 : Int) _ 2 2 [b, a] w4 (i64 (by omega) (by omega)) (all64_cons (i64 (by omega) (by omega)) (all64_cons (i64 (by omega) (by omega)) all64_nil)) (by decide) (hS4.rd (List.mem_of_getElem? (i := 0) rfl))) hS4 (fun w6 hS6 => hK _ _ ?_))
    clear hK K
    have hkq7 := khash_bd (19 : Int) [b, a]
    have hmb := emod_bd (x := (khash (19 : Int) [b, a])) (n := (pw a)) (by omega)
    refine q_seg (S := (fun x_ => St w x_ [Res.row (Value.slice (some ⟨blk5, 0, none⟩) 2 2) 3 1 2 ([Value.int .i64 b, Value.int .i64 a])])) [(4, Value.int .i64 ((pw a) + ((khash (19 : Int) [b, a]) % (pw a)))), (18, Value.int .i64 ((pw a) + ((khash (19 : Int) [b, a]) % (pw a)))), (17, Value.int .i64 ((khash (19 : Int) [b, a]) % (pw a))), (16, Value.int .i64 (pw a))] [.no, .no, .v (.int .i64 ((pw a) + ((khash (19 : Int) [b, a]) % (pw a)))), .no] (((0 : Int) ≤ (khash (19 : Int) [b, a])) ∧ ((0 : Int) < (pw a)) ∧ (IntKind.wrap .i64 ((pw a) + ((khash (19 : Int) [b, a]) % (pw a))) = ((pw a) + ((khash (19 : Int) [b, a]) % (pw a))))) (by kernel_rfl) ⟨(by omega), (by omega), (in64 (by omega) (by omega))⟩ hS6 ?_
    refine l_nil rfl ?_
    refine then_n ?_
    refine wp_ret ?_
    exact c_end (S := (fun x_ => St w x_ [Res.row (Value.slice (some ⟨blk5, 0, none⟩) 2 2) 3 1 2 ([Value.int .i64 b, Value.int .i64 a])])) (rs := [.tmp 4]) rfl [] (v := Value.int .i64 ((pw a) + ((khash (19 : Int) [b, a]) % (pw a)))) (C := True) (by kernel_rfl) trivial hS6 ((hS6.rv (congrArg (Value.int .i64) (by rw [bticks, (show bexp a = a by first | exact bexp_in (by omega) (by omega) | exact bexp_out (by omega))]))))
  · skip
    have hb2p := inR_neg hb2
    refine c_true (b := (!(inR a 0 6))) (by kernel_rfl) (nb (v := false) hb2) ?_
    refine c_reg ?_
    refine q_seg (S := (fun x_ => St w x_ [])) [(0, Value.int .i64 6)] [.no] True (by kernel_rfl) trivial hS1 ?_
    refine l_nil rfl ?_
    refine then_n ?_
    refine wp_seq ?_
    refine c_reg ?_
    obtain ⟨hpw8, hpw8a, hpw8b, hpw8c⟩ := pw_of (e := (6 : Int)) (by omega) (by omega)
    refine q_seg (S := (fun x_ => St w x_ [])) [(5, Value.int .i64 (pw (6 : Int))), (10, Value.int .i64 (pw (6 : Int))), (9, Value.int .i64 6)] [.no, .v (.int .i64 (pw (6 : Int))), .no] (((0 : Int) ≤ (6 : Int)) ∧ (IntKind.wrap .i64 ((1 : Int) * 2 ^ (min (Int.toNat (6 : Int)) (IntKind.bits .i64))) = (pw (6 : Int)))) (by kernel_rfl) ⟨(by omega), hpw8⟩ hS1 ?_
    refine l_nil rfl ?_
    refine then_n ?_
    refine wp_seq ?_
    refine c_reg ?_
    refine q_seg (S := (fun x_ => St w x_ [])) [(13, Value.int .i64 6), (12, Value.int .i64 b), (11, Value.int .i64 (pw (6 : Int)))] [.no, .no, .no] True (by kernel_rfl) trivial hS1 ?_
    refine l_op rfl rfl (fun K hK => op_buildSlice (d := some 14) rfl rfl (e := 3) (by kernel_rfl) 1 (by kernel_rfl) (by decide) (by decide) [Value.int .i64 b, Value.int .i64 6] (by kernel_rfl) rfl hS1 (fun blk10 w9 hS9 => hK _ _ ?_))
    clear hK K
    refine l_op rfl rfl (fun K hK => op_callv (d := some 15) rfl rfl ⟨_, Try.func41, by kernel_rfl, by kernel_rfl⟩ (vs := [Value.int .i64 19, Value.slice (some ⟨blk10, 0, none⟩) 2 2]) (by kernel_rfl) (v := Value.int .i64 (khash (19 : Int) [b, 6])) (KeyedHashI_c (19 : Int) _ 2 2 [b, 6] w9 (i64 (by omega) (by omega)) (all64_cons (i64 (by omega) (by omega)) (all64_cons (i64 (by omega) (by omega)) all64_nil)) (by decide) (hS9.rd (List.mem_of_getElem? (i := 0) rfl))) hS9 (fun w11 hS11 => hK _ _ ?_))
    clear hK K
    have hkq12 := khash_bd (19 : Int) [b, 6]
    have hmb := emod_bd (x := (khash (19 : Int) [b, 6])) (n := (pw (6 : Int))) (by omega)
    refine q_seg (S := (fun x_ => St w x_ [Res.row (Value.slice (some ⟨blk10, 0, none⟩) 2 2) 3 1 2 ([Value.int .i64 b, Value.int .i64 6])])) [(4, Value.int .i64 ((pw (6 : Int)) + ((khash (19 : Int) [b, 6]) % (pw (6 : Int))))), (18, Value.int .i64 ((pw (6 : Int)) + ((khash (19 : Int) [b, 6]) % (pw (6 : Int))))), (17, Value.int .i64 ((khash (19 : Int) [b, 6]) % (pw (6 : Int)))), (16, Value.int .i64 (pw (6 : Int)))] [.no, .no, .v (.int .i64 ((pw (6 : Int)) + ((khash (19 : Int) [b, 6]) % (pw (6 : Int))))), .no] (((0 : Int) ≤ (khash (19 : Int) [b, 6])) ∧ ((0 : Int) < (pw (6 : Int))) ∧ (IntKind.wrap .i64 ((pw (6 : Int)) + ((khash (19 : Int) [b, 6]) % (pw (6 : Int)))) = ((pw (6 : Int)) + ((khash (19 : Int) [b, 6]) % (pw (6 : Int)))))) (by kernel_rfl) ⟨(by omega), (by omega), (in64 (by omega) (by omega))⟩ hS11 ?_
    refine l_nil rfl ?_
    refine then_n ?_
    refine wp_ret ?_
    exact c_end (S := (fun x_ => St w x_ [Res.row (Value.slice (some ⟨blk10, 0, none⟩) 2 2) 3 1 2 ([Value.int .i64 b, Value.int .i64 6])])) (rs := [.tmp 4]) rfl [] (v := Value.int .i64 ((pw (6 : Int)) + ((khash (19 : Int) [b, 6]) % (pw (6 : Int))))) (C := True) (by kernel_rfl) trivial hS11 ((hS11.rv (congrArg (Value.int .i64) (by rw [bticks, (show bexp a = (6 : Int) by first | exact bexp_in (by omega) (by omega) | exact bexp_out (by omega))]))))
end Go.Proofs.Ytdbbaiflhofkaaa
