/-
  Contracts of the draws of registrations.
-/
import Derived.Test.YtihecjcbgnpakaaGRr
import Derived.Test.YtihecjcbgnpakaaGRt
namespace Go.Proofs.Ytihecjcbgnpakaa
open Go.RowKit
set_option maxRecDepth 100000

theorem l4Who_s_c (b : Nat) (A : Option Addr) (n c : Nat) (i h : Int)  (tl : List Res) (w0 w : World) (hS : St w0 w (Res.box b [Value.slice A n c, Value.int .i64 i, Value.int .i64 h] 67 :: tl)) (hC : CurI w0 A n i)  : Calls Try.prog 45 #[.pointer (some ⟨b, 0, none⟩)] w (fun e w' => ∃ v own', e = .returned v ∧ St w0 w' own' ∧ (∃ (i' h' : Int) (a_ : Int) (b_ : Int), v = Value.agg #[Value.int .i64 a_, Value.int .i64 b_] ∧ own' = (Res.box b [Value.slice A n c, Value.int .i64 i', Value.int .i64 h'] 67 :: tl) ∧ CurI w0 A n i' ∧ (0 ≤ a_) ∧ (a_ ≤ 10) ∧ (0 ≤ b_) ∧ (b_ ≤ 10))) := by
  obtain ⟨hClo, hChi, hCn, _⟩ := id hC
  refine calls_FA Try.func45 rfl (n := 8) rfl (l := [(0, Value.pointer (some ⟨b, 0, none⟩))]) rfl (by simp) (fun g => ?_)
  refine wp_seq ?_
  refine c_reg ?_
  refine l_op rfl rfl (fun K hK => op_alloc (d := some 2) rfl rfl [Value.int .i64 0, Value.int .i64 0] (by kernel_rfl) hS (fun blk2 w1 hS1 => hK _ _ ?_))
  clear hK K
  refine l_nil rfl ?_
  refine then_n ?_
  refine wp_seq ?_
  refine c_reg ?_
  refine q_seg (S := (fun x_ => St w0 x_ (Res.box blk2 [Value.int .i64 0, Value.int .i64 0] 34 :: Res.box b [Value.slice A n c, Value.int .i64 i, Value.int .i64 h] 67 :: tl))) [(3, Value.pointer (some ⟨b, 0, none⟩))] [.no] True (by kernel_rfl) trivial hS1 ?_
  refine l_op rfl rfl (fun K hK => op_callm (d := some 4) rfl rfl ⟨_, Try.func43, by kernel_rfl, by kernel_rfl⟩ (vs := [Value.pointer (some ⟨b, 0, none⟩), Value.int .i64 3]) (by kernel_rfl) (l1Below_s_c b A n c i h (3 : Int) _ w0 w1 (hS1.front 1 rfl) hC (by omega)) (fun v4 new5 w3 Rw3 hS3 => ?_))
  obtain ⟨ix7, hx8, xd6, rfl, rfl, hC9, hf10, hf11⟩ := Rw3
  refine hK _ _ ?_
  clear hK K
  refine q_seg (S := (fun x_ => St w0 x_ (Res.box b [Value.slice A n c, Value.int .i64 ix7, Value.int .i64 hx8] 67 :: Res.box blk2 [Value.int .i64 0, Value.int .i64 0] 34 :: tl))) [(5, Value.pointer (some ⟨b, 0, none⟩))] [.no] True (by kernel_rfl) trivial hS3 ?_
  refine l_op rfl rfl (fun K hK => op_callm (d := some 6) rfl rfl ⟨_, Try.func43, by kernel_rfl, by kernel_rfl⟩ (vs := [Value.pointer (some ⟨b, 0, none⟩), Value.int .i64 5]) (by kernel_rfl) (l1Below_s_c b A n c ix7 hx8 (5 : Int) _ w0 w3 hS3 hC9 (by omega)) (fun v13 new14 w12 Rw12 hS12 => ?_))
  obtain ⟨ix16, hx17, xd15, rfl, rfl, hC18, hf19, hf20⟩ := Rw12
  refine hK _ _ ?_
  clear hK K
  refine q_seg (S := (fun x_ => St w0 x_ (Res.box b [Value.slice A n c, Value.int .i64 ix16, Value.int .i64 hx17] 67 :: Res.box blk2 [Value.int .i64 0, Value.int .i64 0] 34 :: tl))) [(7, Value.agg #[Value.int .i64 xd6, Value.int .i64 xd15])] [.no] True (by kernel_rfl) trivial hS12 ?_
  refine l_op rfl rfl (fun K hK => op_store (d := none) rfl rfl (i := 1) (b := blk2) (off := 0) (cs := [Value.int .i64 0, Value.int .i64 0]) (bt := 34) (by kernel_rfl) (by kernel_rfl) [Value.int .i64 xd6, Value.int .i64 xd15] (by kernel_rfl) (by kernel_rfl) (Nat.le_of_ble_eq_true (by kernel_rfl)) (by kernel_rfl) (Res.box b [Value.slice A n c, Value.int .i64 ix16, Value.int .i64 hx17] 67 :: Res.box blk2 [Value.int .i64 xd6, Value.int .i64 xd15] 34 :: tl) (by kernel_rfl) hS12 (fun w21 hS21 => hK _ _ ?_))
  clear hK K
  refine l_nil rfl ?_
  refine then_n ?_
  refine wp_ret ?_
  have hS21s1 : St w0 w21 (Res.box b [Value.slice A n c, Value.int .i64 ix16, Value.int .i64 hx17] 67 :: tl) := (hS21.sub (List.Sublist.cons_cons _ (List.Sublist.cons _ (List.Sublist.refl _))))
  exact c_end (S := (fun x_ => St w0 x_ (Res.box b [Value.slice A n c, Value.int .i64 ix16, Value.int .i64 hx17] 67 :: Res.box blk2 [Value.int .i64 xd6, Value.int .i64 xd15] 34 :: tl))) (rs := [.cell 2 34]) rfl [Value.agg #[Value.int .i64 xd6, Value.int .i64 xd15]] (v := Value.agg #[Value.int .i64 xd6, Value.int .i64 xd15]) (C := ((LoadsAt Try.prog (fun x_ => St w0 x_ (Res.box b [Value.slice A n c, Value.int .i64 ix16, Value.int .i64 hx17] 67 :: Res.box blk2 [Value.int .i64 xd6, Value.int .i64 xd15] 34 :: tl)) 34 ⟨blk2, 0, none⟩ (Value.agg #[Value.int .i64 xd6, Value.int .i64 xd15])))) (by kernel_rfl) (ld_boxN (i := 1) (k := 2) rfl rfl rfl (by kernel_rfl)) hS21 (⟨_, _, rfl, hS21s1, ix16, hx17, xd6, xd15, rfl, rfl, hC18, (by omega), (by omega), (by omega), (by omega)⟩)
theorem l4Any_s_c (b : Nat) (A : Option Addr) (n c : Nat) (i h : Int)  (tl : List Res) (w0 w : World) (hS : St w0 w (Res.box b [Value.slice A n c, Value.int .i64 i, Value.int .i64 h] 67 :: tl)) (hC : CurI w0 A n i)  : Calls Try.prog 44 #[.pointer (some ⟨b, 0, none⟩)] w (fun e w' => ∃ v own', e = .returned v ∧ St w0 w' own' ∧ (∃ (i' h' : Int) (a_ : Int) (b_ : Int), v = Value.agg #[Value.int .i64 a_, Value.int .i64 b_] ∧ own' = (Res.box b [Value.slice A n c, Value.int .i64 i', Value.int .i64 h'] 67 :: tl) ∧ CurI w0 A n i' ∧ (-1 ≤ a_) ∧ (a_ ≤ 100) ∧ (-1 ≤ b_) ∧ (b_ ≤ 100))) := by
  obtain ⟨hClo, hChi, hCn, _⟩ := id hC
  refine calls_FA Try.func44 rfl (n := 21) rfl (l := [(0, Value.pointer (some ⟨b, 0, none⟩))]) rfl (by simp) (fun g => ?_)
  refine wp_seq ?_
  refine c_reg ?_
  refine l_op rfl rfl (fun K hK => op_alloc (d := some 2) rfl rfl [Value.int .i64 0, Value.int .i64 0] (by kernel_rfl) hS (fun blk2 w1 hS1 => hK _ _ ?_))
  clear hK K
  refine l_nil rfl ?_
  refine then_n ?_
  refine wp_seq ?_
  refine c_reg ?_
  refine q_seg (S := (fun x_ => St w0 x_ (Res.box blk2 [Value.int .i64 0, Value.int .i64 0] 34 :: Res.box b [Value.slice A n c, Value.int .i64 i, Value.int .i64 h] 67 :: tl))) [(4, Value.pointer (some ⟨b, 0, none⟩))] [.no] True (by kernel_rfl) trivial hS1 ?_
  refine l_op rfl rfl (fun K hK => op_callm (d := some 5) rfl rfl ⟨_, Try.func45, by kernel_rfl, by kernel_rfl⟩ (vs := [Value.pointer (some ⟨b, 0, none⟩)]) (by kernel_rfl) (l4Who_s_c b A n c i h  _ w0 w1 (hS1.front 1 rfl) hC ) (fun v4 new5 w3 Rw3 hS3 => ?_))
  obtain ⟨ix8, hx9, ad6, bd7, rfl, rfl, hC10, hf11, hf12, hf13, hf14⟩ := Rw3
  refine hK _ _ ?_
  clear hK K
  refine l_op rfl rfl (fun K hK => op_alloc (d := some 3) rfl rfl [Value.int .i64 0, Value.int .i64 0] (by kernel_rfl) hS3 (fun blk16 w15 hS15 => hK _ _ ?_))
  clear hK K
  refine l_op rfl rfl (fun K hK => op_store (d := none) rfl rfl (i := 0) (b := blk16) (off := 0) (cs := [Value.int .i64 0, Value.int .i64 0]) (bt := 34) (by kernel_rfl) (by kernel_rfl) [Value.int .i64 ad6, Value.int .i64 bd7] (by kernel_rfl) (by kernel_rfl) (Nat.le_of_ble_eq_true (by kernel_rfl)) (by kernel_rfl) (Res.box blk16 [Value.int .i64 ad6, Value.int .i64 bd7] 34 :: Res.box b [Value.slice A n c, Value.int .i64 ix8, Value.int .i64 hx9] 67 :: Res.box blk2 [Value.int .i64 0, Value.int .i64 0] 34 :: tl) (by kernel_rfl) hS15 (fun w17 hS17 => hK _ _ ?_))
  clear hK K
  refine l_nil rfl ?_
  refine then_n ?_
  refine wp_seq ?_
  refine wp_seq ?_
  refine c_reg ?_
  refine q_seg (S := (fun x_ => St w0 x_ (Res.box blk16 [Value.int .i64 ad6, Value.int .i64 bd7] 34 :: Res.box b [Value.slice A n c, Value.int .i64 ix8, Value.int .i64 hx9] 67 :: Res.box blk2 [Value.int .i64 0, Value.int .i64 0] 34 :: tl))) [(6, Value.pointer (some ⟨b, 0, none⟩))] [.no] True (by kernel_rfl) trivial hS17 ?_
  refine l_op rfl rfl (fun K hK => op_callm (d := some 7) rfl rfl ⟨_, Try.func43, by kernel_rfl, by kernel_rfl⟩ (vs := [Value.pointer (some ⟨b, 0, none⟩), Value.int .i64 8]) (by kernel_rfl) (l1Below_s_c b A n c ix8 hx9 (8 : Int) _ w0 w17 (hS17.front 1 rfl) hC10 (by omega)) (fun v19 new20 w18 Rw18 hS18 => ?_))
  obtain ⟨ix22, hx23, xd21, rfl, rfl, hC24, hf25, hf26⟩ := Rw18
  refine hK _ _ ?_
  clear hK K
  refine l_nil rfl ?_
  refine then_n ?_
  refine wp_block ?_
  refine wp_seq ?_
  refine c_reg ?_
  refine q_seg (S := (fun x_ => St w0 x_ (Res.box b [Value.slice A n c, Value.int .i64 ix22, Value.int .i64 hx23] 67 :: Res.box blk16 [Value.int .i64 ad6, Value.int .i64 bd7] 34 :: Res.box blk2 [Value.int .i64 0, Value.int .i64 0] 34 :: tl))) [(8, Value.bool (decide (xd21 = (0 : Int)))), (9, Value.bool (decide (xd21 = (0 : Int))))] [.no, .no] True (by kernel_rfl) trivial hS18 ?_
  refine l_nil rfl ?_
  refine then_n ?_
  rcases Bool.eq_false_or_eq_true (decide (xd21 = (0 : Int))) with hb27 | hb27
  · skip
    have hb27p := of_decide_eq_true hb27
    refine c_true (b := (decide (xd21 = (0 : Int)))) (by kernel_rfl) hb27 ?_
    refine c_reg ?_
    refine q_seg (S := (fun x_ => St w0 x_ (Res.box b [Value.slice A n c, Value.int .i64 ix22, Value.int .i64 hx23] 67 :: Res.box blk16 [Value.int .i64 ad6, Value.int .i64 bd7] 34 :: Res.box blk2 [Value.int .i64 0, Value.int .i64 0] 34 :: tl))) [(10, Value.pointer (some ⟨b, 0, none⟩))] [.no] True (by kernel_rfl) trivial hS18 ?_
    refine l_op rfl rfl (fun K hK => op_buildSlice (d := some 11) rfl rfl (e := 3) (by kernel_rfl) 1 (by kernel_rfl) (by decide) (by decide) [Value.int .i64 (-1), Value.int .i64 3, Value.int .i64 4] (by kernel_rfl) rfl hS18 (fun blk29 w28 hS28 => hK _ _ ?_))
    clear hK K
    refine l_op rfl rfl (fun K hK => op_callm (d := some 12) rfl rfl ⟨_, Try.func31, by kernel_rfl, by kernel_rfl⟩ (vs := [Value.pointer (some ⟨b, 0, none⟩), Value.slice (some ⟨blk29, 0, none⟩) 3 3]) (by kernel_rfl) (l1Int_s_c b A n c ix22 hx23 (some ⟨blk29, 0, none⟩) 3 ([(-1), 3, 4]) _ w0 w28 (hS28.front 1 rfl) hC24 (by first | omega | decide | simp)) (fun v31 new32 w30 Rw30 hS30 => ?_))
    obtain ⟨ix34, hx35, xd33, rfl, rfl, hC36, hf37⟩ := Rw30
    simp only [List.mem_cons, List.mem_nil_iff, or_false, List.not_mem_nil] at hf37
    have hf37b : -1 ≤ xd33 ∧ xd33 ≤ 4 := by omega
    refine hK _ _ ?_
    clear hK K
    refine q_seg (S := (fun x_ => St w0 x_ (Res.box b [Value.slice A n c, Value.int .i64 ix34, Value.int .i64 hx35] 67 :: Res.row (Value.slice (some ⟨blk29, 0, none⟩) 3 3) 3 1 3 ([Value.int .i64 (-1), Value.int .i64 3, Value.int .i64 4]) :: Res.box blk16 [Value.int .i64 ad6, Value.int .i64 bd7] 34 :: Res.box blk2 [Value.int .i64 0, Value.int .i64 0] 34 :: tl))) [(13, Value.pointer (some ⟨blk16, 0 + 0, none⟩))] [.no] True (by kernel_rfl) trivial hS30 ?_
    refine l_op rfl rfl (fun K hK => op_store (d := none) rfl rfl (i := 2) (b := blk16) (off := 0 + 0) (cs := [Value.int .i64 ad6, Value.int .i64 bd7]) (bt := 34) (by kernel_rfl) (by kernel_rfl) [Value.int .i64 xd33] (by kernel_rfl) (by kernel_rfl) (Nat.le_of_ble_eq_true (by kernel_rfl)) (by kernel_rfl) (Res.box b [Value.slice A n c, Value.int .i64 ix34, Value.int .i64 hx35] 67 :: Res.row (Value.slice (some ⟨blk29, 0, none⟩) 3 3) 3 1 3 ([Value.int .i64 (-1), Value.int .i64 3, Value.int .i64 4]) :: Res.box blk16 [Value.int .i64 xd33, Value.int .i64 bd7] 34 :: Res.box blk2 [Value.int .i64 0, Value.int .i64 0] 34 :: tl) (by kernel_rfl) hS30 (fun w38 hS38 => hK _ _ ?_))
    clear hK K
    refine l_nil rfl ?_
    refine blk_n ?_
    refine then_n ?_
    refine wp_seq ?_
    refine c_reg ?_
    refine q_seg (S := (fun x_ => St w0 x_ (Res.box b [Value.slice A n c, Value.int .i64 ix34, Value.int .i64 hx35] 67 :: Res.row (Value.slice (some ⟨blk29, 0, none⟩) 3 3) 3 1 3 ([Value.int .i64 (-1), Value.int .i64 3, Value.int .i64 4]) :: Res.box blk16 [Value.int .i64 xd33, Value.int .i64 bd7] 34 :: Res.box blk2 [Value.int .i64 0, Value.int .i64 0] 34 :: tl))) [(20, Value.agg #[Value.int .i64 xd33, Value.int .i64 bd7])] [.v (Value.agg #[Value.int .i64 xd33, Value.int .i64 bd7])] ((LoadsAt Try.prog (fun x_ => St w0 x_ (Res.box b [Value.slice A n c, Value.int .i64 ix34, Value.int .i64 hx35] 67 :: Res.row (Value.slice (some ⟨blk29, 0, none⟩) 3 3) 3 1 3 ([Value.int .i64 (-1), Value.int .i64 3, Value.int .i64 4]) :: Res.box blk16 [Value.int .i64 xd33, Value.int .i64 bd7] 34 :: Res.box blk2 [Value.int .i64 0, Value.int .i64 0] 34 :: tl)) 34 ⟨blk16, 0, none⟩ (Value.agg #[Value.int .i64 xd33, Value.int .i64 bd7]))) (by kernel_rfl) (ld_boxN (i := 2) (k := 2) rfl rfl rfl (by kernel_rfl)) hS38 ?_
    refine l_op rfl rfl (fun K hK => op_store (d := none) rfl rfl (i := 3) (b := blk2) (off := 0) (cs := [Value.int .i64 0, Value.int .i64 0]) (bt := 34) (by kernel_rfl) (by kernel_rfl) [Value.int .i64 xd33, Value.int .i64 bd7] (by kernel_rfl) (by kernel_rfl) (Nat.le_of_ble_eq_true (by kernel_rfl)) (by kernel_rfl) (Res.box b [Value.slice A n c, Value.int .i64 ix34, Value.int .i64 hx35] 67 :: Res.row (Value.slice (some ⟨blk29, 0, none⟩) 3 3) 3 1 3 ([Value.int .i64 (-1), Value.int .i64 3, Value.int .i64 4]) :: Res.box blk16 [Value.int .i64 xd33, Value.int .i64 bd7] 34 :: Res.box blk2 [Value.int .i64 xd33, Value.int .i64 bd7] 34 :: tl) (by kernel_rfl) hS38 (fun w39 hS39 => hK _ _ ?_))
    clear hK K
    refine l_nil rfl ?_
    refine then_n ?_
    refine wp_ret ?_
    have hS39s1 : St w0 w39 (Res.box b [Value.slice A n c, Value.int .i64 ix34, Value.int .i64 hx35] 67 :: tl) := (hS39.sub (List.Sublist.cons_cons _ (List.Sublist.cons _ (List.Sublist.cons _ (List.Sublist.cons _ (List.Sublist.refl _))))))
    exact c_end (S := (fun x_ => St w0 x_ (Res.box b [Value.slice A n c, Value.int .i64 ix34, Value.int .i64 hx35] 67 :: Res.row (Value.slice (some ⟨blk29, 0, none⟩) 3 3) 3 1 3 ([Value.int .i64 (-1), Value.int .i64 3, Value.int .i64 4]) :: Res.box blk16 [Value.int .i64 xd33, Value.int .i64 bd7] 34 :: Res.box blk2 [Value.int .i64 xd33, Value.int .i64 bd7] 34 :: tl))) (rs := [.cell 2 34]) rfl [Value.agg #[Value.int .i64 xd33, Value.int .i64 bd7]] (v := Value.agg #[Value.int .i64 xd33, Value.int .i64 bd7]) (C := ((LoadsAt Try.prog (fun x_ => St w0 x_ (Res.box b [Value.slice A n c, Value.int .i64 ix34, Value.int .i64 hx35] 67 :: Res.row (Value.slice (some ⟨blk29, 0, none⟩) 3 3) 3 1 3 ([Value.int .i64 (-1), Value.int .i64 3, Value.int .i64 4]) :: Res.box blk16 [Value.int .i64 xd33, Value.int .i64 bd7] 34 :: Res.box blk2 [Value.int .i64 xd33, Value.int .i64 bd7] 34 :: tl)) 34 ⟨blk2, 0, none⟩ (Value.agg #[Value.int .i64 xd33, Value.int .i64 bd7])))) (by kernel_rfl) (ld_boxN (i := 3) (k := 2) rfl rfl rfl (by kernel_rfl)) hS39 (⟨_, _, rfl, hS39s1, ix34, hx35, xd33, bd7, rfl, rfl, hC36, (by omega), (by omega), (by omega), (by omega)⟩)
  · skip
    have hb27p := of_decide_eq_false hb27
    refine c_false (b := (decide (xd21 = (0 : Int)))) (by kernel_rfl) hb27 ?_
    refine wp_seq ?_
    refine c_reg ?_
    refine q_seg (S := (fun x_ => St w0 x_ (Res.box b [Value.slice A n c, Value.int .i64 ix22, Value.int .i64 hx23] 67 :: Res.box blk16 [Value.int .i64 ad6, Value.int .i64 bd7] 34 :: Res.box blk2 [Value.int .i64 0, Value.int .i64 0] 34 :: tl))) [(14, Value.bool (decide (xd21 = (1 : Int)))), (15, Value.bool (decide (xd21 = (1 : Int))))] [.no, .no] True (by kernel_rfl) trivial hS18 ?_
    refine l_nil rfl ?_
    refine then_n ?_
    rcases Bool.eq_false_or_eq_true (decide (xd21 = (1 : Int))) with hb40 | hb40
    · skip
      have hb40p := of_decide_eq_true hb40
      refine c_true (b := (decide (xd21 = (1 : Int)))) (by kernel_rfl) hb40 ?_
      refine c_reg ?_
      refine q_seg (S := (fun x_ => St w0 x_ (Res.box b [Value.slice A n c, Value.int .i64 ix22, Value.int .i64 hx23] 67 :: Res.box blk16 [Value.int .i64 ad6, Value.int .i64 bd7] 34 :: Res.box blk2 [Value.int .i64 0, Value.int .i64 0] 34 :: tl))) [(16, Value.pointer (some ⟨b, 0, none⟩))] [.no] True (by kernel_rfl) trivial hS18 ?_
      refine l_op rfl rfl (fun K hK => op_buildSlice (d := some 17) rfl rfl (e := 3) (by kernel_rfl) 1 (by kernel_rfl) (by decide) (by decide) [Value.int .i64 (-1), Value.int .i64 99, Value.int .i64 100] (by kernel_rfl) rfl hS18 (fun blk42 w41 hS41 => hK _ _ ?_))
      clear hK K
      refine l_op rfl rfl (fun K hK => op_callm (d := some 18) rfl rfl ⟨_, Try.func31, by kernel_rfl, by kernel_rfl⟩ (vs := [Value.pointer (some ⟨b, 0, none⟩), Value.slice (some ⟨blk42, 0, none⟩) 3 3]) (by kernel_rfl) (l1Int_s_c b A n c ix22 hx23 (some ⟨blk42, 0, none⟩) 3 ([(-1), 99, 100]) _ w0 w41 (hS41.front 1 rfl) hC24 (by first | omega | decide | simp)) (fun v44 new45 w43 Rw43 hS43 => ?_))
      obtain ⟨ix47, hx48, xd46, rfl, rfl, hC49, hf50⟩ := Rw43
      simp only [List.mem_cons, List.mem_nil_iff, or_false, List.not_mem_nil] at hf50
      have hf50b : -1 ≤ xd46 ∧ xd46 ≤ 100 := by omega
      refine hK _ _ ?_
      clear hK K
      refine q_seg (S := (fun x_ => St w0 x_ (Res.box b [Value.slice A n c, Value.int .i64 ix47, Value.int .i64 hx48] 67 :: Res.row (Value.slice (some ⟨blk42, 0, none⟩) 3 3) 3 1 3 ([Value.int .i64 (-1), Value.int .i64 99, Value.int .i64 100]) :: Res.box blk16 [Value.int .i64 ad6, Value.int .i64 bd7] 34 :: Res.box blk2 [Value.int .i64 0, Value.int .i64 0] 34 :: tl))) [(19, Value.pointer (some ⟨blk16, 0 + 1, none⟩))] [.no] True (by kernel_rfl) trivial hS43 ?_
      refine l_op rfl rfl (fun K hK => op_store (d := none) rfl rfl (i := 2) (b := blk16) (off := 0 + 1) (cs := [Value.int .i64 ad6, Value.int .i64 bd7]) (bt := 34) (by kernel_rfl) (by kernel_rfl) [Value.int .i64 xd46] (by kernel_rfl) (by kernel_rfl) (Nat.le_of_ble_eq_true (by kernel_rfl)) (by kernel_rfl) (Res.box b [Value.slice A n c, Value.int .i64 ix47, Value.int .i64 hx48] 67 :: Res.row (Value.slice (some ⟨blk42, 0, none⟩) 3 3) 3 1 3 ([Value.int .i64 (-1), Value.int .i64 99, Value.int .i64 100]) :: Res.box blk16 [Value.int .i64 ad6, Value.int .i64 xd46] 34 :: Res.box blk2 [Value.int .i64 0, Value.int .i64 0] 34 :: tl) (by kernel_rfl) hS43 (fun w51 hS51 => hK _ _ ?_))
      clear hK K
      refine l_nil rfl ?_
      refine blk_n ?_
      refine then_n ?_
      refine wp_seq ?_
      refine c_reg ?_
      refine q_seg (S := (fun x_ => St w0 x_ (Res.box b [Value.slice A n c, Value.int .i64 ix47, Value.int .i64 hx48] 67 :: Res.row (Value.slice (some ⟨blk42, 0, none⟩) 3 3) 3 1 3 ([Value.int .i64 (-1), Value.int .i64 99, Value.int .i64 100]) :: Res.box blk16 [Value.int .i64 ad6, Value.int .i64 xd46] 34 :: Res.box blk2 [Value.int .i64 0, Value.int .i64 0] 34 :: tl))) [(20, Value.agg #[Value.int .i64 ad6, Value.int .i64 xd46])] [.v (Value.agg #[Value.int .i64 ad6, Value.int .i64 xd46])] ((LoadsAt Try.prog (fun x_ => St w0 x_ (Res.box b [Value.slice A n c, Value.int .i64 ix47, Value.int .i64 hx48] 67 :: Res.row (Value.slice (some ⟨blk42, 0, none⟩) 3 3) 3 1 3 ([Value.int .i64 (-1), Value.int .i64 99, Value.int .i64 100]) :: Res.box blk16 [Value.int .i64 ad6, Value.int .i64 xd46] 34 :: Res.box blk2 [Value.int .i64 0, Value.int .i64 0] 34 :: tl)) 34 ⟨blk16, 0, none⟩ (Value.agg #[Value.int .i64 ad6, Value.int .i64 xd46]))) (by kernel_rfl) (ld_boxN (i := 2) (k := 2) rfl rfl rfl (by kernel_rfl)) hS51 ?_
      refine l_op rfl rfl (fun K hK => op_store (d := none) rfl rfl (i := 3) (b := blk2) (off := 0) (cs := [Value.int .i64 0, Value.int .i64 0]) (bt := 34) (by kernel_rfl) (by kernel_rfl) [Value.int .i64 ad6, Value.int .i64 xd46] (by kernel_rfl) (by kernel_rfl) (Nat.le_of_ble_eq_true (by kernel_rfl)) (by kernel_rfl) (Res.box b [Value.slice A n c, Value.int .i64 ix47, Value.int .i64 hx48] 67 :: Res.row (Value.slice (some ⟨blk42, 0, none⟩) 3 3) 3 1 3 ([Value.int .i64 (-1), Value.int .i64 99, Value.int .i64 100]) :: Res.box blk16 [Value.int .i64 ad6, Value.int .i64 xd46] 34 :: Res.box blk2 [Value.int .i64 ad6, Value.int .i64 xd46] 34 :: tl) (by kernel_rfl) hS51 (fun w52 hS52 => hK _ _ ?_))
      clear hK K
      refine l_nil rfl ?_
      refine then_n ?_
      refine wp_ret ?_
      have hS52s2 : St w0 w52 (Res.box b [Value.slice A n c, Value.int .i64 ix47, Value.int .i64 hx48] 67 :: tl) := (hS52.sub (List.Sublist.cons_cons _ (List.Sublist.cons _ (List.Sublist.cons _ (List.Sublist.cons _ (List.Sublist.refl _))))))
      exact c_end (S := (fun x_ => St w0 x_ (Res.box b [Value.slice A n c, Value.int .i64 ix47, Value.int .i64 hx48] 67 :: Res.row (Value.slice (some ⟨blk42, 0, none⟩) 3 3) 3 1 3 ([Value.int .i64 (-1), Value.int .i64 99, Value.int .i64 100]) :: Res.box blk16 [Value.int .i64 ad6, Value.int .i64 xd46] 34 :: Res.box blk2 [Value.int .i64 ad6, Value.int .i64 xd46] 34 :: tl))) (rs := [.cell 2 34]) rfl [Value.agg #[Value.int .i64 ad6, Value.int .i64 xd46]] (v := Value.agg #[Value.int .i64 ad6, Value.int .i64 xd46]) (C := ((LoadsAt Try.prog (fun x_ => St w0 x_ (Res.box b [Value.slice A n c, Value.int .i64 ix47, Value.int .i64 hx48] 67 :: Res.row (Value.slice (some ⟨blk42, 0, none⟩) 3 3) 3 1 3 ([Value.int .i64 (-1), Value.int .i64 99, Value.int .i64 100]) :: Res.box blk16 [Value.int .i64 ad6, Value.int .i64 xd46] 34 :: Res.box blk2 [Value.int .i64 ad6, Value.int .i64 xd46] 34 :: tl)) 34 ⟨blk2, 0, none⟩ (Value.agg #[Value.int .i64 ad6, Value.int .i64 xd46])))) (by kernel_rfl) (ld_boxN (i := 3) (k := 2) rfl rfl rfl (by kernel_rfl)) hS52 (⟨_, _, rfl, hS52s2, ix47, hx48, ad6, xd46, rfl, rfl, hC49, (by omega), (by omega), (by omega), (by omega)⟩)
    · skip
      have hb40p := of_decide_eq_false hb40
      refine c_false (b := (decide (xd21 = (1 : Int)))) (by kernel_rfl) hb40 ?_
      refine wp_skip ?_
      refine blk_n ?_
      refine then_n ?_
      refine wp_seq ?_
      refine c_reg ?_
      refine q_seg (S := (fun x_ => St w0 x_ (Res.box b [Value.slice A n c, Value.int .i64 ix22, Value.int .i64 hx23] 67 :: Res.box blk16 [Value.int .i64 ad6, Value.int .i64 bd7] 34 :: Res.box blk2 [Value.int .i64 0, Value.int .i64 0] 34 :: tl))) [(20, Value.agg #[Value.int .i64 ad6, Value.int .i64 bd7])] [.v (Value.agg #[Value.int .i64 ad6, Value.int .i64 bd7])] ((LoadsAt Try.prog (fun x_ => St w0 x_ (Res.box b [Value.slice A n c, Value.int .i64 ix22, Value.int .i64 hx23] 67 :: Res.box blk16 [Value.int .i64 ad6, Value.int .i64 bd7] 34 :: Res.box blk2 [Value.int .i64 0, Value.int .i64 0] 34 :: tl)) 34 ⟨blk16, 0, none⟩ (Value.agg #[Value.int .i64 ad6, Value.int .i64 bd7]))) (by kernel_rfl) (ld_boxN (i := 1) (k := 2) rfl rfl rfl (by kernel_rfl)) hS18 ?_
      refine l_op rfl rfl (fun K hK => op_store (d := none) rfl rfl (i := 2) (b := blk2) (off := 0) (cs := [Value.int .i64 0, Value.int .i64 0]) (bt := 34) (by kernel_rfl) (by kernel_rfl) [Value.int .i64 ad6, Value.int .i64 bd7] (by kernel_rfl) (by kernel_rfl) (Nat.le_of_ble_eq_true (by kernel_rfl)) (by kernel_rfl) (Res.box b [Value.slice A n c, Value.int .i64 ix22, Value.int .i64 hx23] 67 :: Res.box blk16 [Value.int .i64 ad6, Value.int .i64 bd7] 34 :: Res.box blk2 [Value.int .i64 ad6, Value.int .i64 bd7] 34 :: tl) (by kernel_rfl) hS18 (fun w53 hS53 => hK _ _ ?_))
      clear hK K
      refine l_nil rfl ?_
      refine then_n ?_
      refine wp_ret ?_
      have hS53s3 : St w0 w53 (Res.box b [Value.slice A n c, Value.int .i64 ix22, Value.int .i64 hx23] 67 :: tl) := (hS53.sub (List.Sublist.cons_cons _ (List.Sublist.cons _ (List.Sublist.cons _ (List.Sublist.refl _)))))
      exact c_end (S := (fun x_ => St w0 x_ (Res.box b [Value.slice A n c, Value.int .i64 ix22, Value.int .i64 hx23] 67 :: Res.box blk16 [Value.int .i64 ad6, Value.int .i64 bd7] 34 :: Res.box blk2 [Value.int .i64 ad6, Value.int .i64 bd7] 34 :: tl))) (rs := [.cell 2 34]) rfl [Value.agg #[Value.int .i64 ad6, Value.int .i64 bd7]] (v := Value.agg #[Value.int .i64 ad6, Value.int .i64 bd7]) (C := ((LoadsAt Try.prog (fun x_ => St w0 x_ (Res.box b [Value.slice A n c, Value.int .i64 ix22, Value.int .i64 hx23] 67 :: Res.box blk16 [Value.int .i64 ad6, Value.int .i64 bd7] 34 :: Res.box blk2 [Value.int .i64 ad6, Value.int .i64 bd7] 34 :: tl)) 34 ⟨blk2, 0, none⟩ (Value.agg #[Value.int .i64 ad6, Value.int .i64 bd7])))) (by kernel_rfl) (ld_boxN (i := 2) (k := 2) rfl rfl rfl (by kernel_rfl)) hS53 (⟨_, _, rfl, hS53s3, ix22, hx23, ad6, bd7, rfl, rfl, hC24, (by omega), (by omega), (by omega), (by omega)⟩)
theorem TempIDCandidate_s_c (s : Int) (p : Int) (a : Int) (b : Int) (n : Int) (w : World) (hy0 : 0 ≤ s) (hy1 : s ≤ 1000) (hy2 : 0 ≤ p) (hy3 : p ≤ 1000) (hy4 : 0 ≤ a) (hy5 : a ≤ 1000) (hy6 : 0 ≤ b) (hy7 : b ≤ 1000) (hy8 : 0 ≤ n) (hy9 : n ≤ 1000) : Calls Try.prog 46 #[Value.int .i64 s, Value.int .i64 p, Value.agg #[Value.int .i64 a, Value.int .i64 b], Value.int .i64 n] w (Ret w (fun v new => ∃ (x_ : Int) (y_ : Int), v = Value.agg #[Value.int .i64 x_, Value.int .i64 y_] ∧ new = ([]) ∧ (0 ≤ x_) ∧ (x_ ≤ 10000) ∧ (0 ≤ y_) ∧ (y_ ≤ 10000))) := by
  refine calls_FA Try.func46 rfl (n := 20) rfl (l := [(0, Value.int .i64 s), (1, Value.int .i64 p), (2, Value.agg #[Value.int .i64 a, Value.int .i64 b]), (3, Value.int .i64 n)]) rfl (by simp) (fun g => ?_)
  have hS := St.init w
  refine wp_seq ?_
  refine c_reg ?_
  refine l_op rfl rfl (fun K hK => op_box (d := some 6) rfl rfl [Value.int .i64 a, Value.int .i64 b] (by kernel_rfl) hS (fun blk2 w1 hS1 => hK _ _ ?_))
  clear hK K
  refine l_op rfl rfl (fun K hK => op_alloc (d := some 8) rfl rfl [Value.int .i64 0, Value.int .i64 0] (by kernel_rfl) hS1 (fun blk4 w3 hS3 => hK _ _ ?_))
  clear hK K
  refine l_nil rfl ?_
  refine then_n ?_
  refine wp_seq ?_
  refine c_reg ?_
  refine q_seg (S := (fun x_ => St w x_ [Res.box blk4 [Value.int .i64 0, Value.int .i64 0] 35, Res.box blk2 [Value.int .i64 a, Value.int .i64 b] 34])) [(15, Value.int .i64 n), (14, Value.int .i64 b), (13, Value.pointer (some ⟨blk2, 0 + 1, none⟩)), (12, Value.int .i64 a), (11, Value.pointer (some ⟨blk2, 0 + 0, none⟩)), (10, Value.int .i64 s), (9, Value.int .i64 p)] [.no, .no, .no, .v (Value.int .i64 a), .no, .v (Value.int .i64 b), .no] ((LoadsAt Try.prog (fun x_ => St w x_ [Res.box blk4 [Value.int .i64 0, Value.int .i64 0] 35, Res.box blk2 [Value.int .i64 a, Value.int .i64 b] 34]) 3 ⟨blk2, 0 + 0, none⟩ (Value.int .i64 a)) ∧ (LoadsAt Try.prog (fun x_ => St w x_ [Res.box blk4 [Value.int .i64 0, Value.int .i64 0] 35, Res.box blk2 [Value.int .i64 a, Value.int .i64 b] 34]) 3 ⟨blk2, 0 + 1, none⟩ (Value.int .i64 b))) (by kernel_rfl) ⟨(ld_box (i := 1) rfl rfl (by kernel_rfl)), (ld_box (i := 1) rfl rfl (by kernel_rfl))⟩ hS3 ?_
  refine l_op rfl rfl (fun K hK => op_buildSlice (d := some 16) rfl rfl (e := 3) (by kernel_rfl) 1 (by kernel_rfl) (by decide) (by decide) [Value.int .i64 a, Value.int .i64 b, Value.int .i64 n] (by kernel_rfl) rfl hS3 (fun blk6 w5 hS5 => hK _ _ ?_))
  clear hK K
  refine l_op rfl rfl (fun K hK => op_callv (d := some 17) rfl rfl ⟨_, Try.func50, by kernel_rfl, by kernel_rfl⟩ (vs := [Value.int .i64 s, Value.slice (some ⟨blk6, 0, none⟩) 3 3]) (by kernel_rfl) (v := Value.int .i64 (khash s [a, b, n])) (KeyedHashS_c s _ 3 3 [a, b, n] w5 (i64 (by omega) (by omega)) (all64_cons (i64 (by omega) (by omega)) (all64_cons (i64 (by omega) (by omega)) (all64_cons (i64 (by omega) (by omega)) all64_nil))) (by decide) (hS5.rd (List.mem_of_getElem? (i := 0) rfl))) hS5 (fun w7 hS7 => hK _ _ ?_))
  clear hK K
  have hkq8 := khash_bd s [a, b, n]
  refine l_op rfl rfl (fun K hK => op_callv (d := some 18) rfl rfl ⟨_, Try.func49, by kernel_rfl, by kernel_rfl⟩ (vs := [Value.int .i64 (khash s [a, b, n]), Value.int .i64 10000]) (by kernel_rfl) (v := Value.int .i64 (gmod (khash s [a, b, n]) 10000)) (ModS_c (khash s [a, b, n]) 10000 (i64 (by omega) (by omega)) (i64 (by omega) (by omega)) _) hS7 (fun w9 hS9 => hK _ _ ?_))
  clear hK K
  refine q_seg (S := (fun x_ => St w x_ [Res.row (Value.slice (some ⟨blk6, 0, none⟩) 3 3) 3 1 3 ([Value.int .i64 a, Value.int .i64 b, Value.int .i64 n]), Res.box blk4 [Value.int .i64 0, Value.int .i64 0] 35, Res.box blk2 [Value.int .i64 a, Value.int .i64 b] 34])) [(19, Value.agg #[Value.int .i64 p, Value.int .i64 (gmod (khash s [a, b, n]) 10000)])] [.no] True (by kernel_rfl) trivial hS9 ?_
  refine l_op rfl rfl (fun K hK => op_store (d := none) rfl rfl (i := 1) (b := blk4) (off := 0) (cs := [Value.int .i64 0, Value.int .i64 0]) (bt := 35) (by kernel_rfl) (by kernel_rfl) [Value.int .i64 p, Value.int .i64 (gmod (khash s [a, b, n]) 10000)] (by kernel_rfl) (by kernel_rfl) (Nat.le_of_ble_eq_true (by kernel_rfl)) (by kernel_rfl) [Res.row (Value.slice (some ⟨blk6, 0, none⟩) 3 3) 3 1 3 ([Value.int .i64 a, Value.int .i64 b, Value.int .i64 n]), Res.box blk4 [Value.int .i64 p, Value.int .i64 (gmod (khash s [a, b, n]) 10000)] 35, Res.box blk2 [Value.int .i64 a, Value.int .i64 b] 34] (by kernel_rfl) hS9 (fun w10 hS10 => hK _ _ ?_))
  clear hK K
  refine l_nil rfl ?_
  refine then_n ?_
  refine wp_ret ?_
  have hgm : (gmod (khash s [a, b, n]) 10000) = (khash s [a, b, n]) % 10000 := if_pos (by decide)
  exact c_end (S := (fun x_ => St w x_ [Res.row (Value.slice (some ⟨blk6, 0, none⟩) 3 3) 3 1 3 ([Value.int .i64 a, Value.int .i64 b, Value.int .i64 n]), Res.box blk4 [Value.int .i64 p, Value.int .i64 (gmod (khash s [a, b, n]) 10000)] 35, Res.box blk2 [Value.int .i64 a, Value.int .i64 b] 34])) (rs := [.cell 8 35]) rfl [Value.agg #[Value.int .i64 p, Value.int .i64 (gmod (khash s [a, b, n]) 10000)]] (v := Value.agg #[Value.int .i64 p, Value.int .i64 (gmod (khash s [a, b, n]) 10000)]) (C := ((LoadsAt Try.prog (fun x_ => St w x_ [Res.row (Value.slice (some ⟨blk6, 0, none⟩) 3 3) 3 1 3 ([Value.int .i64 a, Value.int .i64 b, Value.int .i64 n]), Res.box blk4 [Value.int .i64 p, Value.int .i64 (gmod (khash s [a, b, n]) 10000)] 35, Res.box blk2 [Value.int .i64 a, Value.int .i64 b] 34]) 35 ⟨blk4, 0, none⟩ (Value.agg #[Value.int .i64 p, Value.int .i64 (gmod (khash s [a, b, n]) 10000)])))) (by kernel_rfl) (ld_boxN (i := 1) (k := 2) rfl rfl rfl (by kernel_rfl)) hS10 ((hS10.sub (List.Sublist.cons _ (List.Sublist.cons _ (List.Sublist.cons _ List.Sublist.slnil)))).rt ⟨p, (gmod (khash s [a, b, n]) 10000), rfl, rfl, (by omega), (by omega), (by omega), (by omega)⟩)
theorem l21One_s_c (b : Nat) (A : Option Addr) (n c : Nat) (i h : Int)  (tl : List Res) (w0 w : World) (hS : St w0 w (Res.box b [Value.slice A n c, Value.int .i64 i, Value.int .i64 h] 67 :: tl)) (hC : CurI w0 A n i)  : Calls Try.prog 29 #[.pointer (some ⟨b, 0, none⟩)] w (fun e w' => ∃ v own', e = .returned v ∧ St w0 w' own' ∧ (∃ (i' h' : Int) (e0_ : Int) (e1_ : Int) (e2_ : Int) (e3_ : Int) (e4_ : Int) (e5_ : Int), v = Value.agg #[Value.int .i64 e0_, Value.int .i64 e1_, Value.int .i64 e2_, Value.int .i64 e3_, Value.int .i64 e4_, Value.int .i64 e5_] ∧ own' = (Res.box b [Value.slice A n c, Value.int .i64 i', Value.int .i64 h'] 67 :: tl) ∧ CurI w0 A n i' ∧ (0 ≤ e0_) ∧ (e0_ ≤ 10000) ∧ (0 ≤ e1_) ∧ (e1_ ≤ 10000) ∧ (0 ≤ e2_) ∧ (e2_ ≤ 10000) ∧ (0 ≤ e3_) ∧ (e3_ ≤ 10000) ∧ (0 ≤ e4_) ∧ (e4_ ≤ 10000) ∧ (0 ≤ e5_) ∧ (e5_ ≤ 10000) ∧ (e2_ ≤ 10))) := by
  obtain ⟨hClo, hChi, hCn, _⟩ := id hC
  refine calls_FA Try.func29 rfl (n := 19) rfl (l := [(0, Value.pointer (some ⟨b, 0, none⟩))]) rfl (by simp) (fun g => ?_)
  refine wp_seq ?_
  refine c_reg ?_
  refine l_op rfl rfl (fun K hK => op_alloc (d := some 2) rfl rfl [Value.int .i64 0, Value.int .i64 0, Value.int .i64 0, Value.int .i64 0, Value.int .i64 0, Value.int .i64 0] (by kernel_rfl) hS (fun blk2 w1 hS1 => hK _ _ ?_))
  clear hK K
  refine l_nil rfl ?_
  refine then_n ?_
  refine wp_seq ?_
  refine c_reg ?_
  refine q_seg (S := (fun x_ => St w0 x_ (Res.box blk2 [Value.int .i64 0, Value.int .i64 0, Value.int .i64 0, Value.int .i64 0, Value.int .i64 0, Value.int .i64 0] 37 :: Res.box b [Value.slice A n c, Value.int .i64 i, Value.int .i64 h] 67 :: tl))) [(4, Value.pointer (some ⟨b, 0, none⟩))] [.no] True (by kernel_rfl) trivial hS1 ?_
  refine l_op rfl rfl (fun K hK => op_callm (d := some 5) rfl rfl ⟨_, Try.func45, by kernel_rfl, by kernel_rfl⟩ (vs := [Value.pointer (some ⟨b, 0, none⟩)]) (by kernel_rfl) (l4Who_s_c b A n c i h  _ w0 w1 (hS1.front 1 rfl) hC ) (fun v4 new5 w3 Rw3 hS3 => ?_))
  obtain ⟨ix8, hx9, ad6, bd7, rfl, rfl, hC10, hf11, hf12, hf13, hf14⟩ := Rw3
  refine hK _ _ ?_
  clear hK K
  refine l_op rfl rfl (fun K hK => op_alloc (d := some 3) rfl rfl [Value.int .i64 0, Value.int .i64 0] (by kernel_rfl) hS3 (fun blk16 w15 hS15 => hK _ _ ?_))
  clear hK K
  refine l_op rfl rfl (fun K hK => op_store (d := none) rfl rfl (i := 0) (b := blk16) (off := 0) (cs := [Value.int .i64 0, Value.int .i64 0]) (bt := 34) (by kernel_rfl) (by kernel_rfl) [Value.int .i64 ad6, Value.int .i64 bd7] (by kernel_rfl) (by kernel_rfl) (Nat.le_of_ble_eq_true (by kernel_rfl)) (by kernel_rfl) (Res.box blk16 [Value.int .i64 ad6, Value.int .i64 bd7] 34 :: Res.box b [Value.slice A n c, Value.int .i64 ix8, Value.int .i64 hx9] 67 :: Res.box blk2 [Value.int .i64 0, Value.int .i64 0, Value.int .i64 0, Value.int .i64 0, Value.int .i64 0, Value.int .i64 0] 37 :: tl) (by kernel_rfl) hS15 (fun w17 hS17 => hK _ _ ?_))
  clear hK K
  refine l_nil rfl ?_
  refine then_n ?_
  refine wp_seq ?_
  refine c_drawnS (S := (fun x_ => St w0 x_ (Res.box blk16 [Value.int .i64 ad6, Value.int .i64 bd7] 34 :: Res.box blk2 [Value.int .i64 0, Value.int .i64 0, Value.int .i64 0, Value.int .i64 0, Value.int .i64 0, Value.int .i64 0] 37 :: tl))) [13] (by kernel_rfl) hS17 (fun w18 hS18 => ?_)
  refine t_seg (S := (fun x_ => St w0 x_ (Res.box blk16 [Value.int .i64 ad6, Value.int .i64 bd7] 34 :: Res.box blk2 [Value.int .i64 0, Value.int .i64 0, Value.int .i64 0, Value.int .i64 0, Value.int .i64 0, Value.int .i64 0] 37 :: tl))) [(0, .v (Value.agg #[Value.int .i64 ad6, Value.int .i64 bd7])), (1, .no), (3, .no), (5, .no), (8, .v (Value.agg #[Value.int .i64 ad6, Value.int .i64 bd7])), (9, .no)] 8 #[true, true, false, true, false, true, false, false, true, true, false, false, false, false] [(15, Value.pointer (some ⟨b, 0, none⟩)), (14, Value.agg #[Value.int .i64 ad6, Value.int .i64 bd7]), (11, Value.pointer (some ⟨b, 0, none⟩)), (9, Value.pointer (some ⟨b, 0, none⟩)), (7, Value.pointer (some ⟨b, 0, none⟩)), (6, Value.agg #[Value.int .i64 ad6, Value.int .i64 bd7])] ((LoadsAt Try.prog (fun x_ => St w0 x_ (Res.box blk16 [Value.int .i64 ad6, Value.int .i64 bd7] 34 :: Res.box blk2 [Value.int .i64 0, Value.int .i64 0, Value.int .i64 0, Value.int .i64 0, Value.int .i64 0, Value.int .i64 0] 37 :: tl)) 34 ⟨blk16, 0, none⟩ (Value.agg #[Value.int .i64 ad6, Value.int .i64 bd7])) ∧ (LoadsAt Try.prog (fun x_ => St w0 x_ (Res.box blk16 [Value.int .i64 ad6, Value.int .i64 bd7] 34 :: Res.box blk2 [Value.int .i64 0, Value.int .i64 0, Value.int .i64 0, Value.int .i64 0, Value.int .i64 0, Value.int .i64 0] 37 :: tl)) 34 ⟨blk16, 0, none⟩ (Value.agg #[Value.int .i64 ad6, Value.int .i64 bd7]))) (by kernel_rfl) (Qpanic.then Qpanic.bp) rfl (by kernel_rfl) ⟨(ld_boxN (i := 0) (k := 2) rfl rfl rfl (by kernel_rfl)), (ld_boxN (i := 0) (k := 2) rfl rfl rfl (by kernel_rfl))⟩ (hS18.sub (List.Sublist.cons_cons _ (List.Sublist.cons _ (List.Sublist.cons_cons _ (List.Sublist.refl _))))) ?_
  refine a_op (i := 2) (fuel := 7) (listed' := #[true, true, true, true, false, true, false, false, true, true, false, false, false, false]) rfl rfl (by kernel_rfl) (by kernel_rfl) rfl (fun K hK => op_callm (d := some 8) rfl rfl ⟨_, Try.func43, by kernel_rfl, by kernel_rfl⟩ (vs := [Value.pointer (some ⟨b, 0, none⟩), Value.int .i64 3]) (by kernel_rfl) (l1Below_s_c b A n c ix8 hx9 (3 : Int) _ w0 w18 (hS18.front 1 rfl) hC10 (by omega)) (fun v20 new21 w19 Rw19 hS19 => ?_))
  obtain ⟨ix23, hx24, xd22, rfl, rfl, hC25, hf26, hf27⟩ := Rw19
  refine hK _ _ (fun _ => (hS19.sub (List.Sublist.cons _ (List.Sublist.cons_cons _ (List.Sublist.cons_cons _ (List.Sublist.refl _)))))) ?_
  clear hK K
  refine a_op (i := 4) (fuel := 6) (listed' := #[true, true, true, true, true, true, false, false, true, true, false, false, false, false]) rfl rfl (by kernel_rfl) (by kernel_rfl) rfl (fun K hK => op_callm (d := some 10) rfl rfl ⟨_, Try.func43, by kernel_rfl, by kernel_rfl⟩ (vs := [Value.pointer (some ⟨b, 0, none⟩), Value.int .i64 3]) (by kernel_rfl) (l1Below_s_c b A n c ix23 hx24 (3 : Int) _ w0 w19 hS19 hC25 (by omega)) (fun v29 new30 w28 Rw28 hS28 => ?_))
  obtain ⟨ix32, hx33, xd31, rfl, rfl, hC34, hf35, hf36⟩ := Rw28
  refine hK _ _ (fun _ => (hS28.sub (List.Sublist.cons _ (List.Sublist.cons_cons _ (List.Sublist.cons_cons _ (List.Sublist.refl _)))))) ?_
  clear hK K
  refine a_op (i := 6) (fuel := 5) (listed' := #[true, true, true, true, true, true, true, false, true, true, false, false, false, false]) rfl rfl (by kernel_rfl) (by kernel_rfl) rfl (fun K hK => op_callm (d := some 12) rfl rfl ⟨_, Try.func43, by kernel_rfl, by kernel_rfl⟩ (vs := [Value.pointer (some ⟨b, 0, none⟩), Value.int .i64 3]) (by kernel_rfl) (l1Below_s_c b A n c ix32 hx33 (3 : Int) _ w0 w28 hS28 hC34 (by omega)) (fun v38 new39 w37 Rw37 hS37 => ?_))
  obtain ⟨ix41, hx42, xd40, rfl, rfl, hC43, hf44, hf45⟩ := Rw37
  refine hK _ _ (fun _ => (hS37.sub (List.Sublist.cons _ (List.Sublist.cons_cons _ (List.Sublist.cons_cons _ (List.Sublist.refl _)))))) ?_
  clear hK K
  refine t_seg (S := (fun x_ => St w0 x_ (Res.box blk16 [Value.int .i64 ad6, Value.int .i64 bd7] 34 :: Res.box blk2 [Value.int .i64 0, Value.int .i64 0, Value.int .i64 0, Value.int .i64 0, Value.int .i64 0, Value.int .i64 0] 37 :: tl))) [(7, .no)] 4 #[true, true, true, true, true, true, true, true, true, true, false, false, false, false] [(13, Value.int .i64 ((100 : Int) + xd40))] ((InK .i64 ((100 : Int) + xd40))) (by kernel_rfl) (Qpanic.then Qpanic.bp) rfl (by kernel_rfl) (in64 (by omega) (by omega)) (hS37.drop) ?_
  refine a_op (i := 10) (fuel := 3) (listed' := #[true, true, true, true, true, true, true, true, true, true, true, false, false, false]) rfl rfl (by kernel_rfl) (by kernel_rfl) rfl (fun K hK => op_callm (d := some 16) rfl rfl ⟨_, Try.func43, by kernel_rfl, by kernel_rfl⟩ (vs := [Value.pointer (some ⟨b, 0, none⟩), Value.int .i64 3]) (by kernel_rfl) (l1Below_s_c b A n c ix41 hx42 (3 : Int) _ w0 w37 hS37 hC43 (by omega)) (fun v47 new48 w46 Rw46 hS46 => ?_))
  obtain ⟨ix50, hx51, xd49, rfl, rfl, hC52, hf53, hf54⟩ := Rw46
  refine hK _ _ (fun _ => (hS46.sub (List.Sublist.cons _ (List.Sublist.cons_cons _ (List.Sublist.cons_cons _ (List.Sublist.refl _)))))) ?_
  clear hK K
  refine a_op (i := 11) (fuel := 2) (listed' := #[true, true, true, true, true, true, true, true, true, true, true, true, false, false]) rfl rfl (by kernel_rfl) (by kernel_rfl) rfl (fun K hK => op_call (d := some 17) rfl rfl ⟨_, Try.func46, by kernel_rfl, by kernel_rfl⟩ (vs := [Value.int .i64 ((100 : Int) + xd40), Value.int .i64 1, Value.agg #[Value.int .i64 ad6, Value.int .i64 bd7], Value.int .i64 xd49]) (by kernel_rfl) (TempIDCandidate_s_c ((100 : Int) + xd40) (1 : Int) ad6 bd7 xd49 w46 (by omega) (by omega) (by omega) (by omega) (by omega) (by omega) (by omega) (by omega) (by omega) (by omega)) hS46 (fun v56 new57 w55 Rw55 hS55 => hK _ _ (fun _ => hS55.after.drop) ?_))
  clear hK K
  obtain ⟨xd58, yd59, rfl, rfl, hf60, hf61, hf62, hf63⟩ := Rw55
  refine t_seg (S := (fun x_ => St w0 x_ (Res.box blk16 [Value.int .i64 ad6, Value.int .i64 bd7] 34 :: Res.box blk2 [Value.int .i64 0, Value.int .i64 0, Value.int .i64 0, Value.int .i64 0, Value.int .i64 0, Value.int .i64 0] 37 :: tl))) [(12, .no)] 1 #[true, true, true, true, true, true, true, true, true, true, true, true, true, false] [(18, Value.agg #[Value.int .i64 ad6, Value.int .i64 bd7, Value.int .i64 xd22, Value.int .i64 xd31, Value.int .i64 xd58, Value.int .i64 yd59])] True (by kernel_rfl) (Qpanic.then Qpanic.bp) rfl (by kernel_rfl) trivial (hS55.drop) ?_
  refine a_op (i := 13) (fuel := 0) (listed' := #[true, true, true, true, true, true, true, true, true, true, true, true, true, true]) rfl rfl (by kernel_rfl) (by kernel_rfl) rfl (fun K hK => op_store (d := none) rfl rfl (i := 2) (b := blk2) (off := 0) (cs := [Value.int .i64 0, Value.int .i64 0, Value.int .i64 0, Value.int .i64 0, Value.int .i64 0, Value.int .i64 0]) (bt := 37) (by kernel_rfl) (by kernel_rfl) [Value.int .i64 ad6, Value.int .i64 bd7, Value.int .i64 xd22, Value.int .i64 xd31, Value.int .i64 xd58, Value.int .i64 yd59] (by kernel_rfl) (by kernel_rfl) (Nat.le_of_ble_eq_true (by kernel_rfl)) (by kernel_rfl) (Res.box b [Value.slice A n c, Value.int .i64 ix50, Value.int .i64 hx51] 67 :: Res.box blk16 [Value.int .i64 ad6, Value.int .i64 bd7] 34 :: Res.box blk2 [Value.int .i64 ad6, Value.int .i64 bd7, Value.int .i64 xd22, Value.int .i64 xd31, Value.int .i64 xd58, Value.int .i64 yd59] 37 :: tl) (by kernel_rfl) hS55 (fun w64 hS64 => hK _ _ (fun h => absurd h (by decide)) ?_))
  clear hK K
  refine a_done (by kernel_rfl) ?_
  refine then_n ?_
  refine wp_ret ?_
  have hS64s1 : St w0 w64 (Res.box b [Value.slice A n c, Value.int .i64 ix50, Value.int .i64 hx51] 67 :: tl) := (hS64.sub (List.Sublist.cons_cons _ (List.Sublist.cons _ (List.Sublist.cons _ (List.Sublist.refl _)))))
  exact c_end (S := (fun x_ => St w0 x_ (Res.box b [Value.slice A n c, Value.int .i64 ix50, Value.int .i64 hx51] 67 :: Res.box blk16 [Value.int .i64 ad6, Value.int .i64 bd7] 34 :: Res.box blk2 [Value.int .i64 ad6, Value.int .i64 bd7, Value.int .i64 xd22, Value.int .i64 xd31, Value.int .i64 xd58, Value.int .i64 yd59] 37 :: tl))) (rs := [.cell 2 37]) rfl [Value.agg #[Value.int .i64 ad6, Value.int .i64 bd7, Value.int .i64 xd22, Value.int .i64 xd31, Value.int .i64 xd58, Value.int .i64 yd59]] (v := Value.agg #[Value.int .i64 ad6, Value.int .i64 bd7, Value.int .i64 xd22, Value.int .i64 xd31, Value.int .i64 xd58, Value.int .i64 yd59]) (C := ((LoadsAt Try.prog (fun x_ => St w0 x_ (Res.box b [Value.slice A n c, Value.int .i64 ix50, Value.int .i64 hx51] 67 :: Res.box blk16 [Value.int .i64 ad6, Value.int .i64 bd7] 34 :: Res.box blk2 [Value.int .i64 ad6, Value.int .i64 bd7, Value.int .i64 xd22, Value.int .i64 xd31, Value.int .i64 xd58, Value.int .i64 yd59] 37 :: tl)) 37 ⟨blk2, 0, none⟩ (Value.agg #[Value.int .i64 ad6, Value.int .i64 bd7, Value.int .i64 xd22, Value.int .i64 xd31, Value.int .i64 xd58, Value.int .i64 yd59])))) (by kernel_rfl) (ld_boxN (i := 2) (k := 6) rfl rfl rfl (by kernel_rfl)) hS64 (⟨_, _, rfl, hS64s1, ix50, hx51, ad6, bd7, xd22, xd31, xd58, yd59, rfl, rfl, hC52, (by omega), (by omega), (by omega), (by omega), (by omega), (by omega), (by omega), (by omega), (by omega), (by omega), (by omega), (by omega), (by omega)⟩)
theorem l21Draw_s_c (b : Nat) (A : Option Addr) (n c : Nat) (i h : Int)  (tl : List Res) (w0 w : World) (hS : St w0 w (Res.box b [Value.slice A n c, Value.int .i64 i, Value.int .i64 h] 67 :: tl)) (hC : CurI w0 A n i)  : Calls Try.prog 42 #[.pointer (some ⟨b, 0, none⟩)] w (fun e w' => ∃ v own', e = .returned v ∧ St w0 w' own' ∧ (∃ (i' h' : Int) (l_ : List Int) (l_A : Option Addr) (l_c : Nat) (l_n : Nat), v = Value.slice l_A l_n l_c ∧ own' = (Res.row (Value.slice l_A l_n l_c) 37 6 l_n (l_.map (Value.int .i64)) :: Res.box b [Value.slice A n c, Value.int .i64 i', Value.int .i64 h'] 67 :: tl) ∧ CurI w0 A n i' ∧ (∀ z ∈ l_, I64 z) ∧ (l_n ≤ 8))) := by
  obtain ⟨hClo, hChi, hCn, _⟩ := id hC
  refine calls_FA Try.func42 rfl (n := 29) rfl (l := [(0, Value.pointer (some ⟨b, 0, none⟩))]) rfl (by simp) (fun g => ?_)
  refine wp_seq ?_
  refine c_reg ?_
  refine q_seg (S := (fun x_ => St w0 x_ (Res.box b [Value.slice A n c, Value.int .i64 i, Value.int .i64 h] 67 :: tl))) [(2, Value.slice none 0 0)] [.no] True (by kernel_rfl) trivial hS ?_
  refine l_nil rfl ?_
  refine then_n ?_
  refine wp_seq ?_
  refine c_reg ?_
  refine l_op rfl rfl (fun K hK => op_buildSlice (d := some 5) rfl rfl (e := 37) (by kernel_rfl) 6 (by kernel_rfl) (by decide) (by decide) [] (by kernel_rfl) rfl hS (fun blk2 w1 hS1 => hK _ _ ?_))
  clear hK K
  refine q_seg (S := (fun x_ => St w0 x_ (Res.row (Value.slice (some ⟨blk2, 0, none⟩) 0 0) 37 6 0 ([]) :: Res.box b [Value.slice A n c, Value.int .i64 i, Value.int .i64 h] 67 :: tl))) [(3, Value.slice (some ⟨blk2, 0, none⟩) 0 0)] [.no] True (by kernel_rfl) trivial hS1 ?_
  refine l_nil rfl ?_
  refine then_n ?_
  refine wp_seq ?_
  refine wp_seq ?_
  refine c_reg ?_
  refine q_seg (S := (fun x_ => St w0 x_ (Res.row (Value.slice (some ⟨blk2, 0, none⟩) 0 0) 37 6 0 ([]) :: Res.box b [Value.slice A n c, Value.int .i64 i, Value.int .i64 h] 67 :: tl))) [(6, Value.pointer (some ⟨b, 0, none⟩))] [.no] True (by kernel_rfl) trivial hS1 ?_
  refine l_op rfl rfl (fun K hK => op_callm (d := some 7) rfl rfl ⟨_, Try.func43, by kernel_rfl, by kernel_rfl⟩ (vs := [Value.pointer (some ⟨b, 0, none⟩), Value.int .i64 8]) (by kernel_rfl) (l1Below_s_c b A n c i h (8 : Int) _ w0 w1 (hS1.front 1 rfl) hC (by omega)) (fun v4 new5 w3 Rw3 hS3 => ?_))
  obtain ⟨ix7, hx8, xd6, rfl, rfl, hC9, hf10, hf11⟩ := Rw3
  refine hK _ _ ?_
  clear hK K
  refine q_seg (S := (fun x_ => St w0 x_ (Res.box b [Value.slice A n c, Value.int .i64 ix7, Value.int .i64 hx8] 67 :: Res.row (Value.slice (some ⟨blk2, 0, none⟩) 0 0) 37 6 0 ([]) :: tl))) [(4, Value.int .i64 xd6)] [.no] True (by kernel_rfl) trivial hS3 ?_
  refine l_nil rfl ?_
  refine then_n ?_
  refine wp_block ?_
  refine c_loop (X := Int × List Int × Nat × Option Addr × Nat × Int × Int) (fun (x_ : Int × List Int × Nat × Option Addr × Nat × Int × Int) => match x_ with | (j, L, ln, A2, c2, ic, hc) => [(0, Value.pointer (some ⟨b, 0, none⟩)), (3, Value.slice A2 ln c2), (4, Value.int .i64 j)]) (fun (x_ : Int × List Int × Nat × Option Addr × Nat × Int × Int) (wr : World) => match x_ with | (j, L, ln, A2, c2, ic, hc) => (CurI w0 A n ic) ∧ (0 ≤ j) ∧ (j + ((ln : Nat) : Int) ≤ xd6) ∧ (∀ z ∈ L, I64 z) ∧ St w0 wr (Res.box b [Value.slice A n c, Value.int .i64 ic, Value.int .i64 hc] 67 :: Res.row (Value.slice A2 ln c2) 37 6 ln (L.map (Value.int .i64)) :: tl)) (fun (x_ : Int × List Int × Nat × Option Addr × Nat × Int × Int) => match x_ with | (j, L, ln, A2, c2, ic, hc) => j.toNat) ((xd6, [], 0, (some ⟨blk2, 0, none⟩), 0, ix7, hx8)) ?_ ?_ ?_
  · exact (agree_cons (by kernel_rfl) (agree_cons (by kernel_rfl) (agree_cons (by kernel_rfl) agree_nil)))
  · exact ⟨hC9, (by omega), (by omega), all64_nil, hS3⟩
  rintro ⟨j, L, ln, A2, c2, ic, hc⟩ g13 w12 ⟨hCl, hj0, hjz, hI, hS12⟩
  obtain ⟨hClo2, hChi2, hCn2, _⟩ := id hCl
  have hLl : L.length = ln * 6 := hS12.rec_len (List.mem_of_getElem? (i := 1) rfl)
  refine wp_seq ?_
  refine wp_seq ?_
  refine c_reg ?_
  refine q_seg (S := (fun x_ => St w0 x_ (Res.box b [Value.slice A n c, Value.int .i64 ic, Value.int .i64 hc] 67 :: Res.row (Value.slice A2 ln c2) 37 6 ln (L.map (Value.int .i64)) :: tl))) [(9, Value.bool (decide ((0 : Int) < j))), (8, Value.int .i64 j)] [.no, .no] True (by kernel_rfl) trivial hS12 ?_
  refine l_nil rfl ?_
  refine then_n ?_
  rcases Bool.eq_false_or_eq_true (decide ((0 : Int) < j)) with hb14 | hb14
  · skip
    have hb14p := of_decide_eq_true hb14
    refine c_true (b := (decide ((0 : Int) < j))) (by kernel_rfl) hb14 ?_
    refine wp_skip ?_
    refine then_n ?_
    refine wp_seq ?_
    refine wp_block ?_
    refine wp_seq ?_
    refine c_reg ?_
    refine q_seg (S := (fun x_ => St w0 x_ (Res.box b [Value.slice A n c, Value.int .i64 ic, Value.int .i64 hc] 67 :: Res.row (Value.slice A2 ln c2) 37 6 ln (L.map (Value.int .i64)) :: tl))) [(14, Value.pointer (some ⟨b, 0, none⟩)), (13, Value.slice A2 ln c2)] [.no, .no] True (by kernel_rfl) trivial hS12 ?_
    refine l_op rfl rfl (fun K hK => op_callm (d := some 15) rfl rfl ⟨_, Try.func29, by kernel_rfl, by kernel_rfl⟩ (vs := [Value.pointer (some ⟨b, 0, none⟩)]) (by kernel_rfl) (l21One_s_c b A n c ic hc  _ w0 w12 hS12 hCl ) (fun v16 new17 w15 Rw15 hS15 => ?_))
    obtain ⟨ix24, hx25, ed18, ed19, ed20, ed21, ed22, ed23, rfl, rfl, hC26, hf27, hf28, hf29, hf30, hf31, hf32, hf33, hf34, hf35, hf36, hf37, hf38, hf39⟩ := Rw15
    refine hK _ _ ?_
    clear hK K
    refine l_op rfl rfl (fun K hK => op_call (d := some 16) rfl rfl ⟨_, Try.func6, by kernel_rfl, by kernel_rfl⟩ (vs := [Value.slice A2 ln c2, Value.agg #[Value.int .i64 ed18, Value.int .i64 ed19, Value.int .i64 ed20, Value.int .i64 ed21, Value.int .i64 ed22, Value.int .i64 ed23]]) (by kernel_rfl) (RegS_c A2 ln c2 L ed18 ed19 ed20 ed21 ed22 ed23 w15 (by omega) (hS15.rd (List.mem_of_getElem? (i := 1) rfl))) hS15 (fun v41 new42 w40 Rw40 hS40 => hK _ _ ?_))
    clear hK K
    obtain ⟨mq43, Aq44, cq45, hlq46, hmhlq46, rfl, rfl⟩ := Rw40
    refine q_seg (S := (fun x_ => St w0 x_ (Res.row (Value.slice Aq44 mq43 cq45) 37 6 mq43 ((regL L ln (fnd (isID L ed18 ed19) ln) [ed18, ed19, ed20, ed21, ed22, ed23]).map (Value.int .i64)) :: Res.box b [Value.slice A n c, Value.int .i64 ix24, Value.int .i64 hx25] 67 :: Res.row (Value.slice A2 ln c2) 37 6 ln (L.map (Value.int .i64)) :: tl))) [(3, Value.slice Aq44 mq43 cq45), (19, Value.bool (okP L ln (fnd (isID L ed18 ed19) ln) [ed18, ed19, ed20, ed21, ed22, ed23])), (18, Value.int .i64 (regO L ln (fnd (isID L ed18 ed19) ln) [ed18, ed19, ed20, ed21, ed22, ed23])), (17, Value.slice Aq44 mq43 cq45), (12, Value.tuple #[Value.slice Aq44 mq43 cq45, Value.int .i64 (regO L ln (fnd (isID L ed18 ed19) ln) [ed18, ed19, ed20, ed21, ed22, ed23]), Value.bool (okP L ln (fnd (isID L ed18 ed19) ln) [ed18, ed19, ed20, ed21, ed22, ed23])])] [.no, .no, .no, .no, .no] True (by kernel_rfl) trivial hS40 ?_
    refine l_nil rfl ?_
    refine then_n ?_
    refine wp_seq ?_
    refine c_reg ?_
    refine q_seg (S := (fun x_ => St w0 x_ (Res.row (Value.slice Aq44 mq43 cq45) 37 6 mq43 ((regL L ln (fnd (isID L ed18 ed19) ln) [ed18, ed19, ed20, ed21, ed22, ed23]).map (Value.int .i64)) :: Res.box b [Value.slice A n c, Value.int .i64 ix24, Value.int .i64 hx25] 67 :: Res.row (Value.slice A2 ln c2) 37 6 ln (L.map (Value.int .i64)) :: tl))) [(20, Value.pointer (some ⟨b, 0, none⟩))] [.no] True (by kernel_rfl) trivial hS40 ?_
    refine l_op rfl rfl (fun K hK => op_callm (d := some 21) rfl rfl ⟨_, Try.func30, by kernel_rfl, by kernel_rfl⟩ (vs := [Value.pointer (some ⟨b, 0, none⟩), Value.int .i64 5]) (by kernel_rfl) (l1Once_s_c b A n c ix24 hx25 (5 : Int) _ w0 w40 (hS40.front 1 rfl) hC26 (by omega)) (fun v48 new49 w47 Rw47 hS47 => ?_))
    obtain ⟨ix51, hx52, ed50, rfl, rfl, hC53⟩ := Rw47
    refine hK _ _ ?_
    clear hK K
    refine l_nil rfl ?_
    refine then_n ?_
    rcases Bool.eq_false_or_eq_true (ed50) with hb54 | hb54
    · skip
      refine c_true (b := ed50) (by kernel_rfl) hb54 ?_
      refine c_reg ?_
      refine q_seg (S := (fun x_ => St w0 x_ (Res.box b [Value.slice A n c, Value.int .i64 ix51, Value.int .i64 hx52] 67 :: Res.row (Value.slice Aq44 mq43 cq45) 37 6 mq43 ((regL L ln (fnd (isID L ed18 ed19) ln) [ed18, ed19, ed20, ed21, ed22, ed23]).map (Value.int .i64)) :: Res.row (Value.slice A2 ln c2) 37 6 ln (L.map (Value.int .i64)) :: tl))) [(23, Value.pointer (some ⟨b, 0, none⟩)), (22, Value.slice Aq44 mq43 cq45)] [.no, .no] True (by kernel_rfl) trivial hS47 ?_
      refine l_op rfl rfl (fun K hK => op_callm (d := some 24) rfl rfl ⟨_, Try.func45, by kernel_rfl, by kernel_rfl⟩ (vs := [Value.pointer (some ⟨b, 0, none⟩)]) (by kernel_rfl) (l4Who_s_c b A n c ix51 hx52  _ w0 w47 hS47 hC53 ) (fun v56 new57 w55 Rw55 hS55 => ?_))
      obtain ⟨ix60, hx61, ad58, bd59, rfl, rfl, hC62, hf63, hf64, hf65, hf66⟩ := Rw55
      refine hK _ _ ?_
      clear hK K
      refine q_seg (S := (fun x_ => St w0 x_ (Res.box b [Value.slice A n c, Value.int .i64 ix60, Value.int .i64 hx61] 67 :: Res.row (Value.slice Aq44 mq43 cq45) 37 6 mq43 ((regL L ln (fnd (isID L ed18 ed19) ln) [ed18, ed19, ed20, ed21, ed22, ed23]).map (Value.int .i64)) :: Res.row (Value.slice A2 ln c2) 37 6 ln (L.map (Value.int .i64)) :: tl))) [(25, Value.pointer (some ⟨b, 0, none⟩))] [.no] True (by kernel_rfl) trivial hS55 ?_
      refine l_op rfl rfl (fun K hK => op_callm (d := some 26) rfl rfl ⟨_, Try.func43, by kernel_rfl, by kernel_rfl⟩ (vs := [Value.pointer (some ⟨b, 0, none⟩), Value.int .i64 3]) (by kernel_rfl) (l1Below_s_c b A n c ix60 hx61 (3 : Int) _ w0 w55 hS55 hC62 (by omega)) (fun v68 new69 w67 Rw67 hS67 => ?_))
      obtain ⟨ix71, hx72, xd70, rfl, rfl, hC73, hf74, hf75⟩ := Rw67
      refine hK _ _ ?_
      clear hK K
      refine l_op rfl rfl (fun K hK => op_call (d := some 27) rfl rfl ⟨_, Try.func47, by kernel_rfl, by kernel_rfl⟩ (vs := [Value.slice Aq44 mq43 cq45, Value.agg #[Value.int .i64 ad58, Value.int .i64 bd59], Value.int .i64 xd70]) (by kernel_rfl) (DerS_c Aq44 mq43 cq45 (regL L ln (fnd (isID L ed18 ed19) ln) [ed18, ed19, ed20, ed21, ed22, ed23]) ad58 bd59 xd70 w67 (by omega) (hS67.row_cap (i := 1) rfl).1 (hS67.rd (List.mem_of_getElem? (i := 1) rfl))) hS67 (fun v77 new78 w76 Rw76 hS76 => hK _ _ ?_))
      clear hK K
      obtain ⟨mq79, Aq80, cq81, hlq82, hmhlq82, rfl, rfl⟩ := Rw76
      refine q_seg (S := (fun x_ => St w0 x_ (Res.row (Value.slice Aq80 mq79 cq81) 37 6 mq79 ((derL (regL L ln (fnd (isID L ed18 ed19) ln) [ed18, ed19, ed20, ed21, ed22, ed23]) (fnd (isID (regL L ln (fnd (isID L ed18 ed19) ln) [ed18, ed19, ed20, ed21, ed22, ed23]) ad58 bd59) mq43) xd70).map (Value.int .i64)) :: Res.box b [Value.slice A n c, Value.int .i64 ix71, Value.int .i64 hx72] 67 :: Res.row (Value.slice Aq44 mq43 cq45) 37 6 mq43 ((regL L ln (fnd (isID L ed18 ed19) ln) [ed18, ed19, ed20, ed21, ed22, ed23]).map (Value.int .i64)) :: Res.row (Value.slice A2 ln c2) 37 6 ln (L.map (Value.int .i64)) :: tl))) [(3, Value.slice Aq80 mq79 cq81)] [.no] True (by kernel_rfl) trivial hS76 ?_
      refine l_nil rfl ?_
      refine blk_n ?_
      refine then_n ?_
      refine c_reg ?_
      refine q_seg (S := (fun x_ => St w0 x_ (Res.row (Value.slice Aq80 mq79 cq81) 37 6 mq79 ((derL (regL L ln (fnd (isID L ed18 ed19) ln) [ed18, ed19, ed20, ed21, ed22, ed23]) (fnd (isID (regL L ln (fnd (isID L ed18 ed19) ln) [ed18, ed19, ed20, ed21, ed22, ed23]) ad58 bd59) mq43) xd70).map (Value.int .i64)) :: Res.box b [Value.slice A n c, Value.int .i64 ix71, Value.int .i64 hx72] 67 :: Res.row (Value.slice Aq44 mq43 cq45) 37 6 mq43 ((regL L ln (fnd (isID L ed18 ed19) ln) [ed18, ed19, ed20, ed21, ed22, ed23]).map (Value.int .i64)) :: Res.row (Value.slice A2 ln c2) 37 6 ln (L.map (Value.int .i64)) :: tl))) [(4, Value.int .i64 (j - (1 : Int))), (11, Value.int .i64 (j - (1 : Int))), (10, Value.int .i64 j)] [.no, .no, .no] ((InK .i64 (j - (1 : Int)))) (by kernel_rfl) (in64 (by omega) (by omega)) hS76 ?_
      refine l_nil rfl ?_
      refine then_n ?_
      have hS76s1 : St w0 w76 (Res.row (Value.slice Aq80 mq79 cq81) 37 6 mq79 ((derL (regL L ln (fnd (isID L ed18 ed19) ln) [ed18, ed19, ed20, ed21, ed22, ed23]) (fnd (isID (regL L ln (fnd (isID L ed18 ed19) ln) [ed18, ed19, ed20, ed21, ed22, ed23]) ad58 bd59) mq43) xd70).map (Value.int .i64)) :: Res.box b [Value.slice A n c, Value.int .i64 ix71, Value.int .i64 hx72] 67 :: tl) := (hS76.sub (List.Sublist.cons_cons _ (List.Sublist.cons_cons _ (List.Sublist.cons _ (List.Sublist.cons _ (List.Sublist.refl _))))))
      have hS76s1s2 : St w0 w76 (Res.row (Value.slice Aq80 mq79 cq81) 37 6 mq79 ((derL (regL L ln (fnd (isID L ed18 ed19) ln) [ed18, ed19, ed20, ed21, ed22, ed23]) (fnd (isID (regL L ln (fnd (isID L ed18 ed19) ln) [ed18, ed19, ed20, ed21, ed22, ed23]) ad58 bd59) mq43) xd70).map (Value.int .i64)) :: Res.box b [Value.slice A n c, Value.int .i64 ix71, Value.int .i64 hx72] 67 :: tl) := hS76s1.front 0 rfl
      have hS76s1s2s3 : St w0 w76 (Res.box b [Value.slice A n c, Value.int .i64 ix71, Value.int .i64 hx72] 67 :: Res.row (Value.slice Aq80 mq79 cq81) 37 6 mq79 ((derL (regL L ln (fnd (isID L ed18 ed19) ln) [ed18, ed19, ed20, ed21, ed22, ed23]) (fnd (isID (regL L ln (fnd (isID L ed18 ed19) ln) [ed18, ed19, ed20, ed21, ed22, ed23]) ad58 bd59) mq43) xd70).map (Value.int .i64)) :: tl) := hS76s1s2.front 1 rfl
      refine round_end ((j - 1, (derL (regL L ln (fnd (isID L ed18 ed19) ln) [ed18, ed19, ed20, ed21, ed22, ed23]) (fnd (isID (regL L ln (fnd (isID L ed18 ed19) ln) [ed18, ed19, ed20, ed21, ed22, ed23]) ad58 bd59) mq43) xd70), mq79, Aq80, cq81, ix71, hx72)) ?_ ?_ ?_
      · exact (agree_cons (by kernel_rfl) (agree_cons (by kernel_rfl) (agree_cons (by kernel_rfl) agree_nil)))
      · exact ⟨hC73, (by omega), (by omega), (derL_ok (regL_ok hI (all64_cons (i64 (by omega) (by omega)) (all64_cons (i64 (by omega) (by omega)) (all64_cons (i64 (by omega) (by omega)) (all64_cons (i64 (by omega) (by omega)) (all64_cons (i64 (by omega) (by omega)) (all64_cons (i64 (by omega) (by omega)) all64_nil)))))))), hS76s1s2s3⟩
      · exact (by first | omega | (dsimp only; omega))
    · skip
      refine c_false (b := ed50) (by kernel_rfl) hb54 ?_
      refine wp_skip ?_
      refine blk_n ?_
      refine then_n ?_
      refine c_reg ?_
      refine q_seg (S := (fun x_ => St w0 x_ (Res.box b [Value.slice A n c, Value.int .i64 ix51, Value.int .i64 hx52] 67 :: Res.row (Value.slice Aq44 mq43 cq45) 37 6 mq43 ((regL L ln (fnd (isID L ed18 ed19) ln) [ed18, ed19, ed20, ed21, ed22, ed23]).map (Value.int .i64)) :: Res.row (Value.slice A2 ln c2) 37 6 ln (L.map (Value.int .i64)) :: tl))) [(4, Value.int .i64 (j - (1 : Int))), (11, Value.int .i64 (j - (1 : Int))), (10, Value.int .i64 j)] [.no, .no, .no] ((InK .i64 (j - (1 : Int)))) (by kernel_rfl) (in64 (by omega) (by omega)) hS47 ?_
      refine l_nil rfl ?_
      refine then_n ?_
      have hS47s4 : St w0 w47 (Res.box b [Value.slice A n c, Value.int .i64 ix51, Value.int .i64 hx52] 67 :: Res.row (Value.slice Aq44 mq43 cq45) 37 6 mq43 ((regL L ln (fnd (isID L ed18 ed19) ln) [ed18, ed19, ed20, ed21, ed22, ed23]).map (Value.int .i64)) :: tl) := (hS47.sub (List.Sublist.cons_cons _ (List.Sublist.cons_cons _ (List.Sublist.cons _ (List.Sublist.refl _)))))
      refine round_end ((j - 1, (regL L ln (fnd (isID L ed18 ed19) ln) [ed18, ed19, ed20, ed21, ed22, ed23]), mq43, Aq44, cq45, ix51, hx52)) ?_ ?_ ?_
      · exact (agree_cons (by kernel_rfl) (agree_cons (by kernel_rfl) (agree_cons (by kernel_rfl) agree_nil)))
      · exact ⟨hC53, (by omega), (by omega), (regL_ok hI (all64_cons (i64 (by omega) (by omega)) (all64_cons (i64 (by omega) (by omega)) (all64_cons (i64 (by omega) (by omega)) (all64_cons (i64 (by omega) (by omega)) (all64_cons (i64 (by omega) (by omega)) (all64_cons (i64 (by omega) (by omega)) all64_nil))))))), hS47s4⟩
      · exact (by first | omega | (dsimp only; omega))
  · skip
    have hb14p := of_decide_eq_false hb14
    refine c_false (b := (decide ((0 : Int) < j))) (by kernel_rfl) hb14 ?_
    refine wp_exit ?_
    refine then_x ?_
    refine then_x ?_
    refine blk_hit ?_
    refine then_n ?_
    refine wp_seq ?_
    refine c_reg ?_
    refine q_seg (S := (fun x_ => St w0 x_ (Res.box b [Value.slice A n c, Value.int .i64 ic, Value.int .i64 hc] 67 :: Res.row (Value.slice A2 ln c2) 37 6 ln (L.map (Value.int .i64)) :: tl))) [(2, Value.slice A2 ln c2), (28, Value.slice A2 ln c2)] [.no, .no] True (by kernel_rfl) trivial hS12 ?_
    refine l_nil rfl ?_
    refine then_n ?_
    refine wp_ret ?_
    have hS12s5 : St w0 w12 (Res.box b [Value.slice A n c, Value.int .i64 ic, Value.int .i64 hc] 67 :: Res.row (Value.slice A2 ln c2) 37 6 ln (L.map (Value.int .i64)) :: tl) := hS12.front 0 rfl
    have hS12s5s6 : St w0 w12 (Res.row (Value.slice A2 ln c2) 37 6 ln (L.map (Value.int .i64)) :: Res.box b [Value.slice A n c, Value.int .i64 ic, Value.int .i64 hc] 67 :: tl) := hS12s5.front 1 rfl
    exact c_end (S := (fun x_ => St w0 x_ (Res.box b [Value.slice A n c, Value.int .i64 ic, Value.int .i64 hc] 67 :: Res.row (Value.slice A2 ln c2) 37 6 ln (L.map (Value.int .i64)) :: tl))) (rs := [.tmp 2]) rfl [] (v := Value.slice A2 ln c2) (C := True) (by kernel_rfl) trivial hS12 (⟨_, _, rfl, hS12s5s6, ic, hc, L, A2, c2, ln, rfl, rfl, hCl, hI, (by omega)⟩)
theorem l21Any_s_c (b : Nat) (A : Option Addr) (n c : Nat) (i h : Int)  (tl : List Res) (w0 w : World) (hS : St w0 w (Res.box b [Value.slice A n c, Value.int .i64 i, Value.int .i64 h] 67 :: tl)) (hC : CurI w0 A n i)  : Calls Try.prog 28 #[.pointer (some ⟨b, 0, none⟩)] w (fun e w' => ∃ v own', e = .returned v ∧ St w0 w' own' ∧ (∃ (i' h' : Int) (l_ : List Int) (l_A : Option Addr) (l_c : Nat) (l_n : Nat), v = Value.slice l_A l_n l_c ∧ own' = (Res.row (Value.slice l_A l_n l_c) 37 6 l_n (l_.map (Value.int .i64)) :: Res.box b [Value.slice A n c, Value.int .i64 i', Value.int .i64 h'] 67 :: tl) ∧ CurI w0 A n i' ∧ (∀ z ∈ l_, I64 z) ∧ (l_n ≤ 16))) := by
  obtain ⟨hClo, hChi, hCn, _⟩ := id hC
  refine calls_FA Try.func28 rfl (n := 33) rfl (l := [(0, Value.pointer (some ⟨b, 0, none⟩))]) rfl (by simp) (fun g => ?_)
  refine wp_seq ?_
  refine c_reg ?_
  refine q_seg (S := (fun x_ => St w0 x_ (Res.box b [Value.slice A n c, Value.int .i64 i, Value.int .i64 h] 67 :: tl))) [(2, Value.slice none 0 0)] [.no] True (by kernel_rfl) trivial hS ?_
  refine l_nil rfl ?_
  refine then_n ?_
  refine wp_seq ?_
  refine c_reg ?_
  refine q_seg (S := (fun x_ => St w0 x_ (Res.box b [Value.slice A n c, Value.int .i64 i, Value.int .i64 h] 67 :: tl))) [(4, Value.pointer (some ⟨b, 0, none⟩))] [.no] True (by kernel_rfl) trivial hS ?_
  refine l_op rfl rfl (fun K hK => op_callm (d := some 5) rfl rfl ⟨_, Try.func42, by kernel_rfl, by kernel_rfl⟩ (vs := [Value.pointer (some ⟨b, 0, none⟩)]) (by kernel_rfl) (l21Draw_s_c b A n c i h  _ w0 w hS hC ) (fun v2 new3 w1 Rw1 hS1 => ?_))
  obtain ⟨ix5, hx6, zd4, zd4A, zd4c, zd4n, rfl, rfl, hC7, hf8, hf9⟩ := Rw1
  refine hK _ _ ?_
  clear hK K
  refine q_seg (S := (fun x_ => St w0 x_ (Res.row (Value.slice zd4A zd4n zd4c) 37 6 zd4n (zd4.map (Value.int .i64)) :: Res.box b [Value.slice A n c, Value.int .i64 ix5, Value.int .i64 hx6] 67 :: tl))) [(3, Value.slice zd4A zd4n zd4c)] [.no] True (by kernel_rfl) trivial hS1 ?_
  refine l_nil rfl ?_
  refine then_n ?_
  refine wp_seq ?_
  refine wp_seq ?_
  refine c_reg ?_
  refine q_seg (S := (fun x_ => St w0 x_ (Res.row (Value.slice zd4A zd4n zd4c) 37 6 zd4n (zd4.map (Value.int .i64)) :: Res.box b [Value.slice A n c, Value.int .i64 ix5, Value.int .i64 hx6] 67 :: tl))) [(6, Value.pointer (some ⟨b, 0, none⟩))] [.no] True (by kernel_rfl) trivial hS1 ?_
  refine l_op rfl rfl (fun K hK => op_callm (d := some 7) rfl rfl ⟨_, Try.func43, by kernel_rfl, by kernel_rfl⟩ (vs := [Value.pointer (some ⟨b, 0, none⟩), Value.int .i64 10]) (by kernel_rfl) (l1Below_s_c b A n c ix5 hx6 (10 : Int) _ w0 w1 (hS1.front 1 rfl) hC7 (by omega)) (fun v11 new12 w10 Rw10 hS10 => ?_))
  obtain ⟨ix14, hx15, xd13, rfl, rfl, hC16, hf17, hf18⟩ := Rw10
  refine hK _ _ ?_
  clear hK K
  refine l_nil rfl ?_
  refine then_n ?_
  refine wp_block ?_
  refine wp_seq ?_
  refine c_reg ?_
  refine q_seg (S := (fun x_ => St w0 x_ (Res.box b [Value.slice A n c, Value.int .i64 ix14, Value.int .i64 hx15] 67 :: Res.row (Value.slice zd4A zd4n zd4c) 37 6 zd4n (zd4.map (Value.int .i64)) :: tl))) [(8, Value.bool (decide (xd13 = (0 : Int)))), (9, Value.bool (decide (xd13 = (0 : Int))))] [.no, .no] True (by kernel_rfl) trivial hS10 ?_
  refine l_nil rfl ?_
  refine then_n ?_
  rcases Bool.eq_false_or_eq_true (decide (xd13 = (0 : Int))) with hb19 | hb19
  · skip
    have hb19p := of_decide_eq_true hb19
    refine c_true (b := (decide (xd13 = (0 : Int)))) (by kernel_rfl) hb19 ?_
    refine c_reg ?_
    refine q_seg (S := (fun x_ => St w0 x_ (Res.box b [Value.slice A n c, Value.int .i64 ix14, Value.int .i64 hx15] 67 :: Res.row (Value.slice zd4A zd4n zd4c) 37 6 zd4n (zd4.map (Value.int .i64)) :: tl))) [(11, Value.pointer (some ⟨b, 0, none⟩)), (10, Value.slice zd4A zd4n zd4c)] [.no, .no] True (by kernel_rfl) trivial hS10 ?_
    refine l_op rfl rfl (fun K hK => op_callm (d := some 12) rfl rfl ⟨_, Try.func44, by kernel_rfl, by kernel_rfl⟩ (vs := [Value.pointer (some ⟨b, 0, none⟩)]) (by kernel_rfl) (l4Any_s_c b A n c ix14 hx15  _ w0 w10 hS10 hC16 ) (fun v21 new22 w20 Rw20 hS20 => ?_))
    obtain ⟨ix25, hx26, ad23, bd24, rfl, rfl, hC27, hf28, hf29, hf30, hf31⟩ := Rw20
    refine hK _ _ ?_
    clear hK K
    refine q_seg (S := (fun x_ => St w0 x_ (Res.box b [Value.slice A n c, Value.int .i64 ix25, Value.int .i64 hx26] 67 :: Res.row (Value.slice zd4A zd4n zd4c) 37 6 zd4n (zd4.map (Value.int .i64)) :: tl))) [(13, Value.pointer (some ⟨b, 0, none⟩))] [.no] True (by kernel_rfl) trivial hS20 ?_
    refine l_op rfl rfl (fun K hK => op_buildSlice (d := some 14) rfl rfl (e := 3) (by kernel_rfl) 1 (by kernel_rfl) (by decide) (by decide) [Value.int .i64 (-1), Value.int .i64 0, Value.int .i64 4] (by kernel_rfl) rfl hS20 (fun blk33 w32 hS32 => hK _ _ ?_))
    clear hK K
    refine l_op rfl rfl (fun K hK => op_callm (d := some 15) rfl rfl ⟨_, Try.func31, by kernel_rfl, by kernel_rfl⟩ (vs := [Value.pointer (some ⟨b, 0, none⟩), Value.slice (some ⟨blk33, 0, none⟩) 3 3]) (by kernel_rfl) (l1Int_s_c b A n c ix25 hx26 (some ⟨blk33, 0, none⟩) 3 ([(-1), 0, 4]) _ w0 w32 (hS32.front 1 rfl) hC27 (by first | omega | decide | simp)) (fun v35 new36 w34 Rw34 hS34 => ?_))
    obtain ⟨ix38, hx39, xd37, rfl, rfl, hC40, hf41⟩ := Rw34
    simp only [List.mem_cons, List.mem_nil_iff, or_false, List.not_mem_nil] at hf41
    have hf41b : -1 ≤ xd37 ∧ xd37 ≤ 4 := by omega
    refine hK _ _ ?_
    clear hK K
    refine q_seg (S := (fun x_ => St w0 x_ (Res.box b [Value.slice A n c, Value.int .i64 ix38, Value.int .i64 hx39] 67 :: Res.row (Value.slice (some ⟨blk33, 0, none⟩) 3 3) 3 1 3 ([Value.int .i64 (-1), Value.int .i64 0, Value.int .i64 4]) :: Res.row (Value.slice zd4A zd4n zd4c) 37 6 zd4n (zd4.map (Value.int .i64)) :: tl))) [(16, Value.pointer (some ⟨b, 0, none⟩))] [.no] True (by kernel_rfl) trivial hS34 ?_
    refine l_op rfl rfl (fun K hK => op_buildSlice (d := some 17) rfl rfl (e := 3) (by kernel_rfl) 1 (by kernel_rfl) (by decide) (by decide) [Value.int .i64 (-1), Value.int .i64 0, Value.int .i64 3] (by kernel_rfl) rfl hS34 (fun blk43 w42 hS42 => hK _ _ ?_))
    clear hK K
    refine l_op rfl rfl (fun K hK => op_callm (d := some 18) rfl rfl ⟨_, Try.func31, by kernel_rfl, by kernel_rfl⟩ (vs := [Value.pointer (some ⟨b, 0, none⟩), Value.slice (some ⟨blk43, 0, none⟩) 3 3]) (by kernel_rfl) (l1Int_s_c b A n c ix38 hx39 (some ⟨blk43, 0, none⟩) 3 ([(-1), 0, 3]) _ w0 w42 (hS42.front 1 rfl) hC40 (by first | omega | decide | simp)) (fun v45 new46 w44 Rw44 hS44 => ?_))
    obtain ⟨ix48, hx49, xd47, rfl, rfl, hC50, hf51⟩ := Rw44
    simp only [List.mem_cons, List.mem_nil_iff, or_false, List.not_mem_nil] at hf51
    have hf51b : -1 ≤ xd47 ∧ xd47 ≤ 3 := by omega
    refine hK _ _ ?_
    clear hK K
    refine q_seg (S := (fun x_ => St w0 x_ (Res.box b [Value.slice A n c, Value.int .i64 ix48, Value.int .i64 hx49] 67 :: Res.row (Value.slice (some ⟨blk43, 0, none⟩) 3 3) 3 1 3 ([Value.int .i64 (-1), Value.int .i64 0, Value.int .i64 3]) :: Res.row (Value.slice (some ⟨blk33, 0, none⟩) 3 3) 3 1 3 ([Value.int .i64 (-1), Value.int .i64 0, Value.int .i64 4]) :: Res.row (Value.slice zd4A zd4n zd4c) 37 6 zd4n (zd4.map (Value.int .i64)) :: tl))) [(19, Value.pointer (some ⟨b, 0, none⟩))] [.no] True (by kernel_rfl) trivial hS44 ?_
    refine l_op rfl rfl (fun K hK => op_buildSlice (d := some 20) rfl rfl (e := 3) (by kernel_rfl) 1 (by kernel_rfl) (by decide) (by decide) [Value.int .i64 0, Value.int .i64 (-1), Value.int .i64 10000] (by kernel_rfl) rfl hS44 (fun blk53 w52 hS52 => hK _ _ ?_))
    clear hK K
    refine l_op rfl rfl (fun K hK => op_callm (d := some 21) rfl rfl ⟨_, Try.func31, by kernel_rfl, by kernel_rfl⟩ (vs := [Value.pointer (some ⟨b, 0, none⟩), Value.slice (some ⟨blk53, 0, none⟩) 3 3]) (by kernel_rfl) (l1Int_s_c b A n c ix48 hx49 (some ⟨blk53, 0, none⟩) 3 ([0, (-1), 10000]) _ w0 w52 (hS52.front 1 rfl) hC50 (by first | omega | decide | simp)) (fun v55 new56 w54 Rw54 hS54 => ?_))
    obtain ⟨ix58, hx59, xd57, rfl, rfl, hC60, hf61⟩ := Rw54
    simp only [List.mem_cons, List.mem_nil_iff, or_false, List.not_mem_nil] at hf61
    have hf61b : -1 ≤ xd57 ∧ xd57 ≤ 10000 := by omega
    refine hK _ _ ?_
    clear hK K
    refine q_seg (S := (fun x_ => St w0 x_ (Res.box b [Value.slice A n c, Value.int .i64 ix58, Value.int .i64 hx59] 67 :: Res.row (Value.slice (some ⟨blk53, 0, none⟩) 3 3) 3 1 3 ([Value.int .i64 0, Value.int .i64 (-1), Value.int .i64 10000]) :: Res.row (Value.slice (some ⟨blk43, 0, none⟩) 3 3) 3 1 3 ([Value.int .i64 (-1), Value.int .i64 0, Value.int .i64 3]) :: Res.row (Value.slice (some ⟨blk33, 0, none⟩) 3 3) 3 1 3 ([Value.int .i64 (-1), Value.int .i64 0, Value.int .i64 4]) :: Res.row (Value.slice zd4A zd4n zd4c) 37 6 zd4n (zd4.map (Value.int .i64)) :: tl))) [(23, Value.agg #[Value.int .i64 ad23, Value.int .i64 bd24, Value.int .i64 xd37, Value.int .i64 xd47, Value.int .i64 0, Value.int .i64 xd57]), (22, Value.agg #[Value.int .i64 0, Value.int .i64 xd57])] [.no, .no] True (by kernel_rfl) trivial hS54 ?_
    refine l_op rfl rfl (fun K hK => op_buildSlice (d := some 24) rfl rfl (e := 37) (by kernel_rfl) 6 (by kernel_rfl) (by decide) (by decide) [Value.int .i64 ad23, Value.int .i64 bd24, Value.int .i64 xd37, Value.int .i64 xd47, Value.int .i64 0, Value.int .i64 xd57] (by kernel_rfl) rfl hS54 (fun blk63 w62 hS62 => hK _ _ ?_))
    clear hK K
    refine l_op rfl rfl (fun K hK => op_append (d := some 25) rfl rfl el_37 hS62 (i := 5) rfl rfl rfl (news := [Value.int .i64 ad23, Value.int .i64 bd24, Value.int .i64 xd37, Value.int .i64 xd47, Value.int .i64 0, Value.int .i64 xd57]) (hS62.rd (List.mem_of_getElem? (i := 0) rfl)) (all_one (by rfl)) (by omega) (by omega) (fun v65 w64 hS64 => hK _ _ ?_))
    clear hK K
    obtain ⟨hlv65, Av65, cv65, hvv65, hnv65, hmv65⟩ := hS64.row_slice (List.mem_of_getElem? (i := 5) rfl)
    subst hvv65
    replace hS64 := hS64.eqv (own' := (Res.row (Value.slice (some ⟨blk63, 0, none⟩) 1 1) 37 6 1 ([Value.int .i64 ad23, Value.int .i64 bd24, Value.int .i64 xd37, Value.int .i64 xd47, Value.int .i64 0, Value.int .i64 xd57]) :: Res.box b [Value.slice A n c, Value.int .i64 ix58, Value.int .i64 hx59] 67 :: Res.row (Value.slice (some ⟨blk53, 0, none⟩) 3 3) 3 1 3 ([Value.int .i64 0, Value.int .i64 (-1), Value.int .i64 10000]) :: Res.row (Value.slice (some ⟨blk43, 0, none⟩) 3 3) 3 1 3 ([Value.int .i64 (-1), Value.int .i64 0, Value.int .i64 3]) :: Res.row (Value.slice (some ⟨blk33, 0, none⟩) 3 3) 3 1 3 ([Value.int .i64 (-1), Value.int .i64 0, Value.int .i64 4]) :: Res.row (Value.slice Av65 (zd4n + 1) cv65) 37 6 (zd4n + 1) ((zd4 ++ [ad23, bd24, xd37, xd47, 0, xd57]).map (Value.int .i64)) :: tl)) (by simp)
    refine q_seg (S := (fun x_ => St w0 x_ (Res.row (Value.slice (some ⟨blk63, 0, none⟩) 1 1) 37 6 1 ([Value.int .i64 ad23, Value.int .i64 bd24, Value.int .i64 xd37, Value.int .i64 xd47, Value.int .i64 0, Value.int .i64 xd57]) :: Res.box b [Value.slice A n c, Value.int .i64 ix58, Value.int .i64 hx59] 67 :: Res.row (Value.slice (some ⟨blk53, 0, none⟩) 3 3) 3 1 3 ([Value.int .i64 0, Value.int .i64 (-1), Value.int .i64 10000]) :: Res.row (Value.slice (some ⟨blk43, 0, none⟩) 3 3) 3 1 3 ([Value.int .i64 (-1), Value.int .i64 0, Value.int .i64 3]) :: Res.row (Value.slice (some ⟨blk33, 0, none⟩) 3 3) 3 1 3 ([Value.int .i64 (-1), Value.int .i64 0, Value.int .i64 4]) :: Res.row (Value.slice Av65 (zd4n + 1) cv65) 37 6 (zd4n + 1) ((zd4 ++ [ad23, bd24, xd37, xd47, 0, xd57]).map (Value.int .i64)) :: tl))) [(3, Value.slice Av65 (zd4n + 1) cv65)] [.no] True (by kernel_rfl) trivial hS64 ?_
    refine l_nil rfl ?_
    refine blk_n ?_
    refine then_n ?_
    refine wp_seq ?_
    refine c_reg ?_
    refine q_seg (S := (fun x_ => St w0 x_ (Res.row (Value.slice (some ⟨blk63, 0, none⟩) 1 1) 37 6 1 ([Value.int .i64 ad23, Value.int .i64 bd24, Value.int .i64 xd37, Value.int .i64 xd47, Value.int .i64 0, Value.int .i64 xd57]) :: Res.box b [Value.slice A n c, Value.int .i64 ix58, Value.int .i64 hx59] 67 :: Res.row (Value.slice (some ⟨blk53, 0, none⟩) 3 3) 3 1 3 ([Value.int .i64 0, Value.int .i64 (-1), Value.int .i64 10000]) :: Res.row (Value.slice (some ⟨blk43, 0, none⟩) 3 3) 3 1 3 ([Value.int .i64 (-1), Value.int .i64 0, Value.int .i64 3]) :: Res.row (Value.slice (some ⟨blk33, 0, none⟩) 3 3) 3 1 3 ([Value.int .i64 (-1), Value.int .i64 0, Value.int .i64 4]) :: Res.row (Value.slice Av65 (zd4n + 1) cv65) 37 6 (zd4n + 1) ((zd4 ++ [ad23, bd24, xd37, xd47, 0, xd57]).map (Value.int .i64)) :: tl))) [(2, Value.slice Av65 (zd4n + 1) cv65), (32, Value.slice Av65 (zd4n + 1) cv65)] [.no, .no] True (by kernel_rfl) trivial hS64 ?_
    refine l_nil rfl ?_
    refine then_n ?_
    refine wp_ret ?_
    have hS64s1 : St w0 w64 (Res.box b [Value.slice A n c, Value.int .i64 ix58, Value.int .i64 hx59] 67 :: Res.row (Value.slice Av65 (zd4n + 1) cv65) 37 6 (zd4n + 1) ((zd4 ++ [ad23, bd24, xd37, xd47, 0, xd57]).map (Value.int .i64)) :: tl) := (hS64.sub (List.Sublist.cons _ (List.Sublist.cons_cons _ (List.Sublist.cons _ (List.Sublist.cons _ (List.Sublist.cons _ (List.Sublist.cons_cons _ (List.Sublist.refl _))))))))
    have hS64s1s2 : St w0 w64 (Res.box b [Value.slice A n c, Value.int .i64 ix58, Value.int .i64 hx59] 67 :: Res.row (Value.slice Av65 (zd4n + 1) cv65) 37 6 (zd4n + 1) ((zd4 ++ [ad23, bd24, xd37, xd47, 0, xd57]).map (Value.int .i64)) :: tl) := hS64s1.front 0 rfl
    have hS64s1s2s3 : St w0 w64 (Res.row (Value.slice Av65 (zd4n + 1) cv65) 37 6 (zd4n + 1) ((zd4 ++ [ad23, bd24, xd37, xd47, 0, xd57]).map (Value.int .i64)) :: Res.box b [Value.slice A n c, Value.int .i64 ix58, Value.int .i64 hx59] 67 :: tl) := hS64s1s2.front 1 rfl
    exact c_end (S := (fun x_ => St w0 x_ (Res.row (Value.slice (some ⟨blk63, 0, none⟩) 1 1) 37 6 1 ([Value.int .i64 ad23, Value.int .i64 bd24, Value.int .i64 xd37, Value.int .i64 xd47, Value.int .i64 0, Value.int .i64 xd57]) :: Res.box b [Value.slice A n c, Value.int .i64 ix58, Value.int .i64 hx59] 67 :: Res.row (Value.slice (some ⟨blk53, 0, none⟩) 3 3) 3 1 3 ([Value.int .i64 0, Value.int .i64 (-1), Value.int .i64 10000]) :: Res.row (Value.slice (some ⟨blk43, 0, none⟩) 3 3) 3 1 3 ([Value.int .i64 (-1), Value.int .i64 0, Value.int .i64 3]) :: Res.row (Value.slice (some ⟨blk33, 0, none⟩) 3 3) 3 1 3 ([Value.int .i64 (-1), Value.int .i64 0, Value.int .i64 4]) :: Res.row (Value.slice Av65 (zd4n + 1) cv65) 37 6 (zd4n + 1) ((zd4 ++ [ad23, bd24, xd37, xd47, 0, xd57]).map (Value.int .i64)) :: tl))) (rs := [.tmp 2]) rfl [] (v := Value.slice Av65 (zd4n + 1) cv65) (C := True) (by kernel_rfl) trivial hS64 (⟨_, _, rfl, hS64s1s2s3, ix58, hx59, (zd4 ++ [ad23, bd24, xd37, xd47, 0, xd57]), Av65, cv65, (zd4n + 1), rfl, rfl, hC60, (all_app hf8 (all64_cons (i64 (by omega) (by omega)) (all64_cons (i64 (by omega) (by omega)) (all64_cons (i64 (by omega) (by omega)) (all64_cons (i64 (by omega) (by omega)) (all64_cons (i64 (by omega) (by omega)) (all64_cons (i64 (by omega) (by omega)) all64_nil))))))), (by omega)⟩)
  · skip
    have hb19p := of_decide_eq_false hb19
    refine c_false (b := (decide (xd13 = (0 : Int)))) (by kernel_rfl) hb19 ?_
    refine wp_seq ?_
    refine c_reg ?_
    refine q_seg (S := (fun x_ => St w0 x_ (Res.box b [Value.slice A n c, Value.int .i64 ix14, Value.int .i64 hx15] 67 :: Res.row (Value.slice zd4A zd4n zd4c) 37 6 zd4n (zd4.map (Value.int .i64)) :: tl))) [(26, Value.bool (decide (xd13 = (1 : Int)))), (27, Value.bool (decide (xd13 = (1 : Int))))] [.no, .no] True (by kernel_rfl) trivial hS10 ?_
    refine l_nil rfl ?_
    refine then_n ?_
    rcases Bool.eq_false_or_eq_true (decide (xd13 = (1 : Int))) with hb66 | hb66
    · skip
      have hb66p := of_decide_eq_true hb66
      refine c_true (b := (decide (xd13 = (1 : Int)))) (by kernel_rfl) hb66 ?_
      refine c_reg ?_
      refine q_seg (S := (fun x_ => St w0 x_ (Res.box b [Value.slice A n c, Value.int .i64 ix14, Value.int .i64 hx15] 67 :: Res.row (Value.slice zd4A zd4n zd4c) 37 6 zd4n (zd4.map (Value.int .i64)) :: tl))) [(29, Value.slice zd4A zd4n zd4c), (28, Value.slice zd4A zd4n zd4c)] [.no, .no] True (by kernel_rfl) trivial hS10 ?_
      refine l_op rfl rfl (fun K hK => op_call (d := some 30) rfl rfl ⟨_, Try.func21, by kernel_rfl, by kernel_rfl⟩ (vs := [Value.slice zd4A zd4n zd4c]) (by kernel_rfl) (l21Copy_c zd4A zd4n zd4c zd4 w10 (by omega) (hS10.rd (List.mem_of_getElem? (i := 1) rfl))) hS10 (fun v68 new69 w67 Rw67 hS67 => hK _ _ ?_))
      clear hK K
      obtain ⟨Aq70, cq71, rfl, rfl⟩ := Rw67
      refine l_op rfl rfl (fun K hK => op_append (d := some 31) rfl rfl el_37 hS67 (i := 2) rfl rfl rfl (news := (zd4.map (Value.int .i64))) (hS67.rd (List.mem_of_getElem? (i := 0) rfl)) (ints_one _ _) (by omega) (by omega) (fun v73 w72 hS72 => hK _ _ ?_))
      clear hK K
      obtain ⟨hlv73, Av73, cv73, hvv73, hnv73, hmv73⟩ := hS72.row_slice (List.mem_of_getElem? (i := 2) rfl)
      subst hvv73
      replace hS72 := hS72.eqv (own' := (Res.row (Value.slice Aq70 zd4n cq71) 37 6 zd4n (zd4.map (Value.int .i64)) :: Res.box b [Value.slice A n c, Value.int .i64 ix14, Value.int .i64 hx15] 67 :: Res.row (Value.slice Av73 (zd4n + zd4n) cv73) 37 6 (zd4n + zd4n) ((zd4 ++ zd4).map (Value.int .i64)) :: tl)) (by simp)
      refine q_seg (S := (fun x_ => St w0 x_ (Res.row (Value.slice Aq70 zd4n cq71) 37 6 zd4n (zd4.map (Value.int .i64)) :: Res.box b [Value.slice A n c, Value.int .i64 ix14, Value.int .i64 hx15] 67 :: Res.row (Value.slice Av73 (zd4n + zd4n) cv73) 37 6 (zd4n + zd4n) ((zd4 ++ zd4).map (Value.int .i64)) :: tl))) [(3, Value.slice Av73 (zd4n + zd4n) cv73)] [.no] True (by kernel_rfl) trivial hS72 ?_
      refine l_nil rfl ?_
      refine blk_n ?_
      refine then_n ?_
      refine wp_seq ?_
      refine c_reg ?_
      refine q_seg (S := (fun x_ => St w0 x_ (Res.row (Value.slice Aq70 zd4n cq71) 37 6 zd4n (zd4.map (Value.int .i64)) :: Res.box b [Value.slice A n c, Value.int .i64 ix14, Value.int .i64 hx15] 67 :: Res.row (Value.slice Av73 (zd4n + zd4n) cv73) 37 6 (zd4n + zd4n) ((zd4 ++ zd4).map (Value.int .i64)) :: tl))) [(2, Value.slice Av73 (zd4n + zd4n) cv73), (32, Value.slice Av73 (zd4n + zd4n) cv73)] [.no, .no] True (by kernel_rfl) trivial hS72 ?_
      refine l_nil rfl ?_
      refine then_n ?_
      refine wp_ret ?_
      have hS72s4 : St w0 w72 (Res.box b [Value.slice A n c, Value.int .i64 ix14, Value.int .i64 hx15] 67 :: Res.row (Value.slice Av73 (zd4n + zd4n) cv73) 37 6 (zd4n + zd4n) ((zd4 ++ zd4).map (Value.int .i64)) :: tl) := (hS72.sub (List.Sublist.cons _ (List.Sublist.cons_cons _ (List.Sublist.cons_cons _ (List.Sublist.refl _)))))
      have hS72s4s5 : St w0 w72 (Res.box b [Value.slice A n c, Value.int .i64 ix14, Value.int .i64 hx15] 67 :: Res.row (Value.slice Av73 (zd4n + zd4n) cv73) 37 6 (zd4n + zd4n) ((zd4 ++ zd4).map (Value.int .i64)) :: tl) := hS72s4.front 0 rfl
      have hS72s4s5s6 : St w0 w72 (Res.row (Value.slice Av73 (zd4n + zd4n) cv73) 37 6 (zd4n + zd4n) ((zd4 ++ zd4).map (Value.int .i64)) :: Res.box b [Value.slice A n c, Value.int .i64 ix14, Value.int .i64 hx15] 67 :: tl) := hS72s4s5.front 1 rfl
      exact c_end (S := (fun x_ => St w0 x_ (Res.row (Value.slice Aq70 zd4n cq71) 37 6 zd4n (zd4.map (Value.int .i64)) :: Res.box b [Value.slice A n c, Value.int .i64 ix14, Value.int .i64 hx15] 67 :: Res.row (Value.slice Av73 (zd4n + zd4n) cv73) 37 6 (zd4n + zd4n) ((zd4 ++ zd4).map (Value.int .i64)) :: tl))) (rs := [.tmp 2]) rfl [] (v := Value.slice Av73 (zd4n + zd4n) cv73) (C := True) (by kernel_rfl) trivial hS72 (⟨_, _, rfl, hS72s4s5s6, ix14, hx15, (zd4 ++ zd4), Av73, cv73, (zd4n + zd4n), rfl, rfl, hC16, (all_app hf8 hf8), (by omega)⟩)
    · skip
      have hb66p := of_decide_eq_false hb66
      refine c_false (b := (decide (xd13 = (1 : Int)))) (by kernel_rfl) hb66 ?_
      refine wp_skip ?_
      refine blk_n ?_
      refine then_n ?_
      refine wp_seq ?_
      refine c_reg ?_
      refine q_seg (S := (fun x_ => St w0 x_ (Res.box b [Value.slice A n c, Value.int .i64 ix14, Value.int .i64 hx15] 67 :: Res.row (Value.slice zd4A zd4n zd4c) 37 6 zd4n (zd4.map (Value.int .i64)) :: tl))) [(2, Value.slice zd4A zd4n zd4c), (32, Value.slice zd4A zd4n zd4c)] [.no, .no] True (by kernel_rfl) trivial hS10 ?_
      refine l_nil rfl ?_
      refine then_n ?_
      refine wp_ret ?_
      have hS10s7 : St w0 w10 (Res.box b [Value.slice A n c, Value.int .i64 ix14, Value.int .i64 hx15] 67 :: Res.row (Value.slice zd4A zd4n zd4c) 37 6 zd4n (zd4.map (Value.int .i64)) :: tl) := hS10.front 0 rfl
      have hS10s7s8 : St w0 w10 (Res.row (Value.slice zd4A zd4n zd4c) 37 6 zd4n (zd4.map (Value.int .i64)) :: Res.box b [Value.slice A n c, Value.int .i64 ix14, Value.int .i64 hx15] 67 :: tl) := hS10s7.front 1 rfl
      exact c_end (S := (fun x_ => St w0 x_ (Res.box b [Value.slice A n c, Value.int .i64 ix14, Value.int .i64 hx15] 67 :: Res.row (Value.slice zd4A zd4n zd4c) 37 6 zd4n (zd4.map (Value.int .i64)) :: tl))) (rs := [.tmp 2]) rfl [] (v := Value.slice zd4A zd4n zd4c) (C := True) (by kernel_rfl) trivial hS10 (⟨_, _, rfl, hS10s7s8, ix14, hx15, zd4, zd4A, zd4c, zd4n, rfl, rfl, hC16, hf8, (by omega)⟩)
theorem DrawRegister_s_c (A : Option Addr) (n c : Nat) (zs : List Int) (w : World) (hn : n ≤ 1048576) (hz : okz .u8 zs) (hr : Rd w w.heap.size A n (zs.map (Value.int .u8))) : Calls Try.prog 14 #[.slice A n c] w (Ret w (fun v new => ∃ (l_ : List Int) (l_A : Option Addr) (l_c : Nat) (l_n : Nat) (e0_ : Int) (e1_ : Int) (e2_ : Int) (e3_ : Int) (e4_ : Int) (e5_ : Int), v = Value.tuple #[Value.slice l_A l_n l_c, Value.agg #[Value.int .i64 e0_, Value.int .i64 e1_, Value.int .i64 e2_, Value.int .i64 e3_, Value.int .i64 e4_, Value.int .i64 e5_]] ∧ new = (Res.row (Value.slice l_A l_n l_c) 37 6 l_n (l_.map (Value.int .i64)) :: []) ∧ (∀ z ∈ l_, I64 z) ∧ (l_n ≤ 16) ∧ (-1 ≤ e0_) ∧ (e0_ ≤ 10000) ∧ (-1 ≤ e1_) ∧ (e1_ ≤ 10000) ∧ (-1 ≤ e2_) ∧ (e2_ ≤ 10000) ∧ (-1 ≤ e3_) ∧ (e3_ ≤ 10000) ∧ (-1 ≤ e4_) ∧ (e4_ ≤ 10000) ∧ (-1 ≤ e5_) ∧ (e5_ ≤ 10000) ∧ (0 ≤ e2_) ∧ (e2_ ≤ 10))) := by
  have hzl := hr.len
  refine calls_FA Try.func14 rfl (n := 21) rfl (l := [(0, Value.slice A n c)]) rfl (by simp) (fun g => ?_)
  have hS := St.init w
  refine wp_seq ?_
  refine c_reg ?_
  refine q_seg (S := (fun x_ => St w x_ [])) [(2, Value.slice none 0 0)] [.no] True (by kernel_rfl) trivial hS ?_
  refine l_op rfl rfl (fun K hK => op_alloc (d := some 3) rfl rfl [Value.int .i64 0, Value.int .i64 0, Value.int .i64 0, Value.int .i64 0, Value.int .i64 0, Value.int .i64 0] (by kernel_rfl) hS (fun blk2 w1 hS1 => hK _ _ ?_))
  clear hK K
  refine l_nil rfl ?_
  refine then_n ?_
  refine wp_seq ?_
  refine c_reg ?_
  refine q_seg (S := (fun x_ => St w x_ [Res.box blk2 [Value.int .i64 0, Value.int .i64 0, Value.int .i64 0, Value.int .i64 0, Value.int .i64 0, Value.int .i64 0] 37])) [(7, Value.slice A n c)] [.no] True (by kernel_rfl) trivial hS1 ?_
  refine l_op rfl rfl (fun K hK => op_call (d := some 8) rfl rfl ⟨_, Try.func27, by kernel_rfl, by kernel_rfl⟩ (vs := [Value.slice A n c]) (by kernel_rfl) (l1New_c A n c zs w1 (by omega) hz (hS1.rdlow hr)) hS1 (fun v4 new5 w3 Rw3 hS3 => hK _ _ ?_))
  clear hK K
  obtain ⟨blk6, hx7, rfl, rfl⟩ := Rw3
  have hC8 : CurI w A n 0 := CurI.zero (by omega) hz hr
  refine q_seg (S := (fun x_ => St w x_ [Res.box blk6 [Value.slice A n c, Value.int .i64 0, Value.int .i64 hx7] 67, Res.box blk2 [Value.int .i64 0, Value.int .i64 0, Value.int .i64 0, Value.int .i64 0, Value.int .i64 0, Value.int .i64 0] 37])) [(4, Value.pointer (some ⟨blk6, 0, none⟩))] [.no] True (by kernel_rfl) trivial hS3 ?_
  refine l_nil rfl ?_
  refine then_n ?_
  refine wp_seq ?_
  refine c_reg ?_
  refine q_seg (S := (fun x_ => St w x_ [Res.box blk6 [Value.slice A n c, Value.int .i64 0, Value.int .i64 hx7] 67, Res.box blk2 [Value.int .i64 0, Value.int .i64 0, Value.int .i64 0, Value.int .i64 0, Value.int .i64 0, Value.int .i64 0] 37])) [(9, Value.pointer (some ⟨blk6, 0, none⟩))] [.no] True (by kernel_rfl) trivial hS3 ?_
  refine l_op rfl rfl (fun K hK => op_callm (d := some 10) rfl rfl ⟨_, Try.func28, by kernel_rfl, by kernel_rfl⟩ (vs := [Value.pointer (some ⟨blk6, 0, none⟩)]) (by kernel_rfl) (l21Any_s_c blk6 A n c 0 hx7  _ w w3 hS3 hC8 ) (fun v10 new11 w9 Rw9 hS9 => ?_))
  obtain ⟨ix13, hx14, zd12, zd12A, zd12c, zd12n, rfl, rfl, hC15, hf16, hf17⟩ := Rw9
  refine hK _ _ ?_
  clear hK K
  refine q_seg (S := (fun x_ => St w x_ [Res.row (Value.slice zd12A zd12n zd12c) 37 6 zd12n (zd12.map (Value.int .i64)), Res.box blk6 [Value.slice A n c, Value.int .i64 ix13, Value.int .i64 hx14] 67, Res.box blk2 [Value.int .i64 0, Value.int .i64 0, Value.int .i64 0, Value.int .i64 0, Value.int .i64 0, Value.int .i64 0] 37])) [(5, Value.slice zd12A zd12n zd12c)] [.no] True (by kernel_rfl) trivial hS9 ?_
  refine l_nil rfl ?_
  refine then_n ?_
  refine wp_seq ?_
  refine c_reg ?_
  refine q_seg (S := (fun x_ => St w x_ [Res.row (Value.slice zd12A zd12n zd12c) 37 6 zd12n (zd12.map (Value.int .i64)), Res.box blk6 [Value.slice A n c, Value.int .i64 ix13, Value.int .i64 hx14] 67, Res.box blk2 [Value.int .i64 0, Value.int .i64 0, Value.int .i64 0, Value.int .i64 0, Value.int .i64 0, Value.int .i64 0] 37])) [(11, Value.pointer (some ⟨blk6, 0, none⟩))] [.no] True (by kernel_rfl) trivial hS9 ?_
  refine l_op rfl rfl (fun K hK => op_callm (d := some 12) rfl rfl ⟨_, Try.func29, by kernel_rfl, by kernel_rfl⟩ (vs := [Value.pointer (some ⟨blk6, 0, none⟩)]) (by kernel_rfl) (l21One_s_c blk6 A n c ix13 hx14  _ w w9 (hS9.front 1 rfl) hC15 ) (fun v19 new20 w18 Rw18 hS18 => ?_))
  obtain ⟨ix27, hx28, ed21, ed22, ed23, ed24, ed25, ed26, rfl, rfl, hC29, hf30, hf31, hf32, hf33, hf34, hf35, hf36, hf37, hf38, hf39, hf40, hf41, hf42⟩ := Rw18
  refine hK _ _ ?_
  clear hK K
  refine l_op rfl rfl (fun K hK => op_alloc (d := some 6) rfl rfl [Value.int .i64 0, Value.int .i64 0, Value.int .i64 0, Value.int .i64 0, Value.int .i64 0, Value.int .i64 0] (by kernel_rfl) hS18 (fun blk44 w43 hS43 => hK _ _ ?_))
  clear hK K
  refine l_op rfl rfl (fun K hK => op_store (d := none) rfl rfl (i := 0) (b := blk44) (off := 0) (cs := [Value.int .i64 0, Value.int .i64 0, Value.int .i64 0, Value.int .i64 0, Value.int .i64 0, Value.int .i64 0]) (bt := 37) (by kernel_rfl) (by kernel_rfl) [Value.int .i64 ed21, Value.int .i64 ed22, Value.int .i64 ed23, Value.int .i64 ed24, Value.int .i64 ed25, Value.int .i64 ed26] (by kernel_rfl) (by kernel_rfl) (Nat.le_of_ble_eq_true (by kernel_rfl)) (by kernel_rfl) [Res.box blk44 [Value.int .i64 ed21, Value.int .i64 ed22, Value.int .i64 ed23, Value.int .i64 ed24, Value.int .i64 ed25, Value.int .i64 ed26] 37, Res.box blk6 [Value.slice A n c, Value.int .i64 ix27, Value.int .i64 hx28] 67, Res.row (Value.slice zd12A zd12n zd12c) 37 6 zd12n (zd12.map (Value.int .i64)), Res.box blk2 [Value.int .i64 0, Value.int .i64 0, Value.int .i64 0, Value.int .i64 0, Value.int .i64 0, Value.int .i64 0] 37] (by kernel_rfl) hS43 (fun w45 hS45 => hK _ _ ?_))
  clear hK K
  refine l_nil rfl ?_
  refine then_n ?_
  refine wp_seq ?_
  refine wp_seq ?_
  refine c_reg ?_
  refine q_seg (S := (fun x_ => St w x_ [Res.box blk44 [Value.int .i64 ed21, Value.int .i64 ed22, Value.int .i64 ed23, Value.int .i64 ed24, Value.int .i64 ed25, Value.int .i64 ed26] 37, Res.box blk6 [Value.slice A n c, Value.int .i64 ix27, Value.int .i64 hx28] 67, Res.row (Value.slice zd12A zd12n zd12c) 37 6 zd12n (zd12.map (Value.int .i64)), Res.box blk2 [Value.int .i64 0, Value.int .i64 0, Value.int .i64 0, Value.int .i64 0, Value.int .i64 0, Value.int .i64 0] 37])) [(13, Value.pointer (some ⟨blk6, 0, none⟩))] [.no] True (by kernel_rfl) trivial hS45 ?_
  refine l_op rfl rfl (fun K hK => op_callm (d := some 14) rfl rfl ⟨_, Try.func30, by kernel_rfl, by kernel_rfl⟩ (vs := [Value.pointer (some ⟨blk6, 0, none⟩), Value.int .i64 8]) (by kernel_rfl) (l1Once_s_c blk6 A n c ix27 hx28 (8 : Int) _ w w45 (hS45.front 1 rfl) hC29 (by omega)) (fun v47 new48 w46 Rw46 hS46 => ?_))
  obtain ⟨ix50, hx51, ed49, rfl, rfl, hC52⟩ := Rw46
  refine hK _ _ ?_
  clear hK K
  refine l_nil rfl ?_
  refine then_n ?_
  rcases Bool.eq_false_or_eq_true (ed49) with hb53 | hb53
  · skip
    refine c_true (b := ed49) (by kernel_rfl) hb53 ?_
    refine c_reg ?_
    refine q_seg (S := (fun x_ => St w x_ [Res.box blk6 [Value.slice A n c, Value.int .i64 ix50, Value.int .i64 hx51] 67, Res.box blk44 [Value.int .i64 ed21, Value.int .i64 ed22, Value.int .i64 ed23, Value.int .i64 ed24, Value.int .i64 ed25, Value.int .i64 ed26] 37, Res.row (Value.slice zd12A zd12n zd12c) 37 6 zd12n (zd12.map (Value.int .i64)), Res.box blk2 [Value.int .i64 0, Value.int .i64 0, Value.int .i64 0, Value.int .i64 0, Value.int .i64 0, Value.int .i64 0] 37])) [(15, Value.pointer (some ⟨blk6, 0, none⟩))] [.no] True (by kernel_rfl) trivial hS46 ?_
    refine l_op rfl rfl (fun K hK => op_buildSlice (d := some 16) rfl rfl (e := 3) (by kernel_rfl) 1 (by kernel_rfl) (by decide) (by decide) [Value.int .i64 (-1), Value.int .i64 3] (by kernel_rfl) rfl hS46 (fun blk55 w54 hS54 => hK _ _ ?_))
    clear hK K
    refine l_op rfl rfl (fun K hK => op_callm (d := some 17) rfl rfl ⟨_, Try.func31, by kernel_rfl, by kernel_rfl⟩ (vs := [Value.pointer (some ⟨blk6, 0, none⟩), Value.slice (some ⟨blk55, 0, none⟩) 2 2]) (by kernel_rfl) (l1Int_s_c blk6 A n c ix50 hx51 (some ⟨blk55, 0, none⟩) 2 ([(-1), 3]) _ w w54 (hS54.front 1 rfl) hC52 (by first | omega | decide | simp)) (fun v57 new58 w56 Rw56 hS56 => ?_))
    obtain ⟨ix60, hx61, xd59, rfl, rfl, hC62, hf63⟩ := Rw56
    simp only [List.mem_cons, List.mem_nil_iff, or_false, List.not_mem_nil] at hf63
    have hf63b : -1 ≤ xd59 ∧ xd59 ≤ 3 := by omega
    refine hK _ _ ?_
    clear hK K
    refine q_seg (S := (fun x_ => St w x_ [Res.box blk6 [Value.slice A n c, Value.int .i64 ix60, Value.int .i64 hx61] 67, Res.row (Value.slice (some ⟨blk55, 0, none⟩) 2 2) 3 1 2 ([Value.int .i64 (-1), Value.int .i64 3]), Res.box blk44 [Value.int .i64 ed21, Value.int .i64 ed22, Value.int .i64 ed23, Value.int .i64 ed24, Value.int .i64 ed25, Value.int .i64 ed26] 37, Res.row (Value.slice zd12A zd12n zd12c) 37 6 zd12n (zd12.map (Value.int .i64)), Res.box blk2 [Value.int .i64 0, Value.int .i64 0, Value.int .i64 0, Value.int .i64 0, Value.int .i64 0, Value.int .i64 0] 37])) [(18, Value.pointer (some ⟨blk44, 0 + 3, none⟩))] [.no] True (by kernel_rfl) trivial hS56 ?_
    refine l_op rfl rfl (fun K hK => op_store (d := none) rfl rfl (i := 2) (b := blk44) (off := 0 + 3) (cs := [Value.int .i64 ed21, Value.int .i64 ed22, Value.int .i64 ed23, Value.int .i64 ed24, Value.int .i64 ed25, Value.int .i64 ed26]) (bt := 37) (by kernel_rfl) (by kernel_rfl) [Value.int .i64 xd59] (by kernel_rfl) (by kernel_rfl) (Nat.le_of_ble_eq_true (by kernel_rfl)) (by kernel_rfl) [Res.box blk6 [Value.slice A n c, Value.int .i64 ix60, Value.int .i64 hx61] 67, Res.row (Value.slice (some ⟨blk55, 0, none⟩) 2 2) 3 1 2 ([Value.int .i64 (-1), Value.int .i64 3]), Res.box blk44 [Value.int .i64 ed21, Value.int .i64 ed22, Value.int .i64 ed23, Value.int .i64 xd59, Value.int .i64 ed25, Value.int .i64 ed26] 37, Res.row (Value.slice zd12A zd12n zd12c) 37 6 zd12n (zd12.map (Value.int .i64)), Res.box blk2 [Value.int .i64 0, Value.int .i64 0, Value.int .i64 0, Value.int .i64 0, Value.int .i64 0, Value.int .i64 0] 37] (by kernel_rfl) hS56 (fun w64 hS64 => hK _ _ ?_))
    clear hK K
    refine l_nil rfl ?_
    refine then_n ?_
    refine wp_seq ?_
    refine c_drawn [3] (by kernel_rfl) hS64 (fun w65 hS65 => ?_)
    refine t_seg (S := (fun x_ => St w x_ [Res.box blk6 [Value.slice A n c, Value.int .i64 ix60, Value.int .i64 hx61] 67, Res.row (Value.slice (some ⟨blk55, 0, none⟩) 2 2) 3 1 2 ([Value.int .i64 (-1), Value.int .i64 3]), Res.box blk44 [Value.int .i64 ed21, Value.int .i64 ed22, Value.int .i64 ed23, Value.int .i64 xd59, Value.int .i64 ed25, Value.int .i64 ed26] 37, Res.row (Value.slice zd12A zd12n zd12c) 37 6 zd12n (zd12.map (Value.int .i64)), Res.box blk2 [Value.int .i64 0, Value.int .i64 0, Value.int .i64 0, Value.int .i64 0, Value.int .i64 0, Value.int .i64 0] 37])) [(0, .no), (1, .v (Value.agg #[Value.int .i64 ed21, Value.int .i64 ed22, Value.int .i64 ed23, Value.int .i64 xd59, Value.int .i64 ed25, Value.int .i64 ed26])), (2, .no)] 1 #[true, true, true, false] [(2, Value.slice zd12A zd12n zd12c), (20, Value.agg #[Value.int .i64 ed21, Value.int .i64 ed22, Value.int .i64 ed23, Value.int .i64 xd59, Value.int .i64 ed25, Value.int .i64 ed26]), (19, Value.slice zd12A zd12n zd12c)] ((LoadsAt Try.prog (fun x_ => St w x_ [Res.box blk6 [Value.slice A n c, Value.int .i64 ix60, Value.int .i64 hx61] 67, Res.row (Value.slice (some ⟨blk55, 0, none⟩) 2 2) 3 1 2 ([Value.int .i64 (-1), Value.int .i64 3]), Res.box blk44 [Value.int .i64 ed21, Value.int .i64 ed22, Value.int .i64 ed23, Value.int .i64 xd59, Value.int .i64 ed25, Value.int .i64 ed26] 37, Res.row (Value.slice zd12A zd12n zd12c) 37 6 zd12n (zd12.map (Value.int .i64)), Res.box blk2 [Value.int .i64 0, Value.int .i64 0, Value.int .i64 0, Value.int .i64 0, Value.int .i64 0, Value.int .i64 0] 37]) 37 ⟨blk44, 0, none⟩ (Value.agg #[Value.int .i64 ed21, Value.int .i64 ed22, Value.int .i64 ed23, Value.int .i64 xd59, Value.int .i64 ed25, Value.int .i64 ed26]))) (by kernel_rfl) (Qpanic.then Qpanic.bp) rfl (by kernel_rfl) (ld_boxN (i := 2) (k := 6) rfl rfl rfl (by kernel_rfl)) hS65 ?_
    refine a_op (i := 3) (fuel := 0) (listed' := #[true, true, true, true]) rfl rfl (by kernel_rfl) (by kernel_rfl) rfl (fun K hK => op_store (d := none) rfl rfl (i := 4) (b := blk2) (off := 0) (cs := [Value.int .i64 0, Value.int .i64 0, Value.int .i64 0, Value.int .i64 0, Value.int .i64 0, Value.int .i64 0]) (bt := 37) (by kernel_rfl) (by kernel_rfl) [Value.int .i64 ed21, Value.int .i64 ed22, Value.int .i64 ed23, Value.int .i64 xd59, Value.int .i64 ed25, Value.int .i64 ed26] (by kernel_rfl) (by kernel_rfl) (Nat.le_of_ble_eq_true (by kernel_rfl)) (by kernel_rfl) [Res.box blk6 [Value.slice A n c, Value.int .i64 ix60, Value.int .i64 hx61] 67, Res.row (Value.slice (some ⟨blk55, 0, none⟩) 2 2) 3 1 2 ([Value.int .i64 (-1), Value.int .i64 3]), Res.box blk44 [Value.int .i64 ed21, Value.int .i64 ed22, Value.int .i64 ed23, Value.int .i64 xd59, Value.int .i64 ed25, Value.int .i64 ed26] 37, Res.row (Value.slice zd12A zd12n zd12c) 37 6 zd12n (zd12.map (Value.int .i64)), Res.box blk2 [Value.int .i64 ed21, Value.int .i64 ed22, Value.int .i64 ed23, Value.int .i64 xd59, Value.int .i64 ed25, Value.int .i64 ed26] 37] (by kernel_rfl) hS65 (fun w66 hS66 => hK _ _ (fun h => absurd h (by decide)) ?_))
    clear hK K
    refine a_done (by kernel_rfl) ?_
    refine then_n ?_
    refine wp_ret ?_
    have hS66s1 : St w w66 [Res.row (Value.slice zd12A zd12n zd12c) 37 6 zd12n (zd12.map (Value.int .i64))] := (hS66.sub (List.Sublist.cons _ (List.Sublist.cons _ (List.Sublist.cons _ (List.Sublist.cons_cons _ (List.Sublist.cons _ List.Sublist.slnil))))))
    exact c_end (S := (fun x_ => St w x_ [Res.box blk6 [Value.slice A n c, Value.int .i64 ix60, Value.int .i64 hx61] 67, Res.row (Value.slice (some ⟨blk55, 0, none⟩) 2 2) 3 1 2 ([Value.int .i64 (-1), Value.int .i64 3]), Res.box blk44 [Value.int .i64 ed21, Value.int .i64 ed22, Value.int .i64 ed23, Value.int .i64 xd59, Value.int .i64 ed25, Value.int .i64 ed26] 37, Res.row (Value.slice zd12A zd12n zd12c) 37 6 zd12n (zd12.map (Value.int .i64)), Res.box blk2 [Value.int .i64 ed21, Value.int .i64 ed22, Value.int .i64 ed23, Value.int .i64 xd59, Value.int .i64 ed25, Value.int .i64 ed26] 37])) (rs := [.tmp 2, .cell 3 37]) rfl [Value.agg #[Value.int .i64 ed21, Value.int .i64 ed22, Value.int .i64 ed23, Value.int .i64 xd59, Value.int .i64 ed25, Value.int .i64 ed26]] (v := Value.tuple #[Value.slice zd12A zd12n zd12c, Value.agg #[Value.int .i64 ed21, Value.int .i64 ed22, Value.int .i64 ed23, Value.int .i64 xd59, Value.int .i64 ed25, Value.int .i64 ed26]]) (C := ((LoadsAt Try.prog (fun x_ => St w x_ [Res.box blk6 [Value.slice A n c, Value.int .i64 ix60, Value.int .i64 hx61] 67, Res.row (Value.slice (some ⟨blk55, 0, none⟩) 2 2) 3 1 2 ([Value.int .i64 (-1), Value.int .i64 3]), Res.box blk44 [Value.int .i64 ed21, Value.int .i64 ed22, Value.int .i64 ed23, Value.int .i64 xd59, Value.int .i64 ed25, Value.int .i64 ed26] 37, Res.row (Value.slice zd12A zd12n zd12c) 37 6 zd12n (zd12.map (Value.int .i64)), Res.box blk2 [Value.int .i64 ed21, Value.int .i64 ed22, Value.int .i64 ed23, Value.int .i64 xd59, Value.int .i64 ed25, Value.int .i64 ed26] 37]) 37 ⟨blk2, 0, none⟩ (Value.agg #[Value.int .i64 ed21, Value.int .i64 ed22, Value.int .i64 ed23, Value.int .i64 xd59, Value.int .i64 ed25, Value.int .i64 ed26])))) (by kernel_rfl) (ld_boxN (i := 4) (k := 6) rfl rfl rfl (by kernel_rfl)) hS66 (hS66s1.rt ⟨zd12, zd12A, zd12c, zd12n, ed21, ed22, ed23, xd59, ed25, ed26, rfl, rfl, hf16, (by omega), (by omega), (by omega), (by omega), (by omega), (by omega), (by omega), (by omega), (by omega), (by omega), (by omega), (by omega), (by omega), (by omega), (by omega)⟩)
  · skip
    refine c_false (b := ed49) (by kernel_rfl) hb53 ?_
    refine wp_skip ?_
    refine then_n ?_
    refine wp_seq ?_
    refine c_drawn [3] (by kernel_rfl) hS46 (fun w67 hS67 => ?_)
    refine t_seg (S := (fun x_ => St w x_ [Res.box blk6 [Value.slice A n c, Value.int .i64 ix50, Value.int .i64 hx51] 67, Res.box blk44 [Value.int .i64 ed21, Value.int .i64 ed22, Value.int .i64 ed23, Value.int .i64 ed24, Value.int .i64 ed25, Value.int .i64 ed26] 37, Res.row (Value.slice zd12A zd12n zd12c) 37 6 zd12n (zd12.map (Value.int .i64)), Res.box blk2 [Value.int .i64 0, Value.int .i64 0, Value.int .i64 0, Value.int .i64 0, Value.int .i64 0, Value.int .i64 0] 37])) [(0, .no), (1, .v (Value.agg #[Value.int .i64 ed21, Value.int .i64 ed22, Value.int .i64 ed23, Value.int .i64 ed24, Value.int .i64 ed25, Value.int .i64 ed26])), (2, .no)] 1 #[true, true, true, false] [(2, Value.slice zd12A zd12n zd12c), (20, Value.agg #[Value.int .i64 ed21, Value.int .i64 ed22, Value.int .i64 ed23, Value.int .i64 ed24, Value.int .i64 ed25, Value.int .i64 ed26]), (19, Value.slice zd12A zd12n zd12c)] ((LoadsAt Try.prog (fun x_ => St w x_ [Res.box blk6 [Value.slice A n c, Value.int .i64 ix50, Value.int .i64 hx51] 67, Res.box blk44 [Value.int .i64 ed21, Value.int .i64 ed22, Value.int .i64 ed23, Value.int .i64 ed24, Value.int .i64 ed25, Value.int .i64 ed26] 37, Res.row (Value.slice zd12A zd12n zd12c) 37 6 zd12n (zd12.map (Value.int .i64)), Res.box blk2 [Value.int .i64 0, Value.int .i64 0, Value.int .i64 0, Value.int .i64 0, Value.int .i64 0, Value.int .i64 0] 37]) 37 ⟨blk44, 0, none⟩ (Value.agg #[Value.int .i64 ed21, Value.int .i64 ed22, Value.int .i64 ed23, Value.int .i64 ed24, Value.int .i64 ed25, Value.int .i64 ed26]))) (by kernel_rfl) (Qpanic.then Qpanic.bp) rfl (by kernel_rfl) (ld_boxN (i := 1) (k := 6) rfl rfl rfl (by kernel_rfl)) hS67 ?_
    refine a_op (i := 3) (fuel := 0) (listed' := #[true, true, true, true]) rfl rfl (by kernel_rfl) (by kernel_rfl) rfl (fun K hK => op_store (d := none) rfl rfl (i := 3) (b := blk2) (off := 0) (cs := [Value.int .i64 0, Value.int .i64 0, Value.int .i64 0, Value.int .i64 0, Value.int .i64 0, Value.int .i64 0]) (bt := 37) (by kernel_rfl) (by kernel_rfl) [Value.int .i64 ed21, Value.int .i64 ed22, Value.int .i64 ed23, Value.int .i64 ed24, Value.int .i64 ed25, Value.int .i64 ed26] (by kernel_rfl) (by kernel_rfl) (Nat.le_of_ble_eq_true (by kernel_rfl)) (by kernel_rfl) [Res.box blk6 [Value.slice A n c, Value.int .i64 ix50, Value.int .i64 hx51] 67, Res.box blk44 [Value.int .i64 ed21, Value.int .i64 ed22, Value.int .i64 ed23, Value.int .i64 ed24, Value.int .i64 ed25, Value.int .i64 ed26] 37, Res.row (Value.slice zd12A zd12n zd12c) 37 6 zd12n (zd12.map (Value.int .i64)), Res.box blk2 [Value.int .i64 ed21, Value.int .i64 ed22, Value.int .i64 ed23, Value.int .i64 ed24, Value.int .i64 ed25, Value.int .i64 ed26] 37] (by kernel_rfl) hS67 (fun w68 hS68 => hK _ _ (fun h => absurd h (by decide)) ?_))
    clear hK K
    refine a_done (by kernel_rfl) ?_
    refine then_n ?_
    refine wp_ret ?_
    have hS68s2 : St w w68 [Res.row (Value.slice zd12A zd12n zd12c) 37 6 zd12n (zd12.map (Value.int .i64))] := (hS68.sub (List.Sublist.cons _ (List.Sublist.cons _ (List.Sublist.cons_cons _ (List.Sublist.cons _ List.Sublist.slnil)))))
    exact c_end (S := (fun x_ => St w x_ [Res.box blk6 [Value.slice A n c, Value.int .i64 ix50, Value.int .i64 hx51] 67, Res.box blk44 [Value.int .i64 ed21, Value.int .i64 ed22, Value.int .i64 ed23, Value.int .i64 ed24, Value.int .i64 ed25, Value.int .i64 ed26] 37, Res.row (Value.slice zd12A zd12n zd12c) 37 6 zd12n (zd12.map (Value.int .i64)), Res.box blk2 [Value.int .i64 ed21, Value.int .i64 ed22, Value.int .i64 ed23, Value.int .i64 ed24, Value.int .i64 ed25, Value.int .i64 ed26] 37])) (rs := [.tmp 2, .cell 3 37]) rfl [Value.agg #[Value.int .i64 ed21, Value.int .i64 ed22, Value.int .i64 ed23, Value.int .i64 ed24, Value.int .i64 ed25, Value.int .i64 ed26]] (v := Value.tuple #[Value.slice zd12A zd12n zd12c, Value.agg #[Value.int .i64 ed21, Value.int .i64 ed22, Value.int .i64 ed23, Value.int .i64 ed24, Value.int .i64 ed25, Value.int .i64 ed26]]) (C := ((LoadsAt Try.prog (fun x_ => St w x_ [Res.box blk6 [Value.slice A n c, Value.int .i64 ix50, Value.int .i64 hx51] 67, Res.box blk44 [Value.int .i64 ed21, Value.int .i64 ed22, Value.int .i64 ed23, Value.int .i64 ed24, Value.int .i64 ed25, Value.int .i64 ed26] 37, Res.row (Value.slice zd12A zd12n zd12c) 37 6 zd12n (zd12.map (Value.int .i64)), Res.box blk2 [Value.int .i64 ed21, Value.int .i64 ed22, Value.int .i64 ed23, Value.int .i64 ed24, Value.int .i64 ed25, Value.int .i64 ed26] 37]) 37 ⟨blk2, 0, none⟩ (Value.agg #[Value.int .i64 ed21, Value.int .i64 ed22, Value.int .i64 ed23, Value.int .i64 ed24, Value.int .i64 ed25, Value.int .i64 ed26])))) (by kernel_rfl) (ld_boxN (i := 3) (k := 6) rfl rfl rfl (by kernel_rfl)) hS68 (hS68s2.rt ⟨zd12, zd12A, zd12c, zd12n, ed21, ed22, ed23, ed24, ed25, ed26, rfl, rfl, hf16, (by omega), (by omega), (by omega), (by omega), (by omega), (by omega), (by omega), (by omega), (by omega), (by omega), (by omega), (by omega), (by omega), (by omega), (by omega)⟩)
end Go.Proofs.Ytihecjcbgnpakaa
