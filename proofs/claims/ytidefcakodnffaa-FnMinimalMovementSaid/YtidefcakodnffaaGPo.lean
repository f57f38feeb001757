/-
  Contracts of the functions of the server pool.
-/
import Derived.Test.YtidefcakodnffaaGDr
import Derived.Test.YtidefcakodnffaaPoolN
namespace Go.Proofs.Ytidefcakodnffaa
open Go.RowKit
set_option maxRecDepth 100000

theorem big_c (A : Option Addr) (n c : Nat) (w : World) : Calls Try.prog 29 #[.slice A n c] w (RetV w (.bool (decide ((1048576 : Int) < ((n : Nat) : Int))))) := by
  refine calls_FA Try.func29 rfl (n := 6) rfl (l := [(0, Value.slice A n c)]) rfl (by simp) (fun g => ?_)
  have hS := St.init w
  refine wp_seq ?_
  refine c_reg ?_
  refine q_seg (S := (fun x_ => St w x_ [])) [(2, Value.bool false)] [.no] True (by kernel_rfl) trivial hS ?_
  refine l_nil rfl ?_
  refine then_n ?_
  refine wp_seq ?_
  refine c_reg ?_
  refine q_seg (S := (fun x_ => St w x_ [])) [(2, Value.bool (decide ((1048576 : Int) < ((n : Nat) : Int)))), (5, Value.bool (decide ((1048576 : Int) < ((n : Nat) : Int)))), (4, Value.int .i64 ((n : Nat) : Int)), (3, Value.slice A n c)] [.no, .no, .no, .no] True (by kernel_rfl) trivial hS ?_
  refine l_nil rfl ?_
  refine then_n ?_
  refine wp_ret ?_
  exact c_end (S := (fun x_ => St w x_ [])) (rs := [.tmp 2]) rfl [] (v := Value.bool (decide ((1048576 : Int) < ((n : Nat) : Int)))) (C := True) (by kernel_rfl) trivial hS ((hS.rv rfl))
theorem at_c (A : Option Addr) (n c : Nat) (zs : List Int) (i : Int) (w : World) (hn : n ≤ 1048576) (hi0 : 0 ≤ i) (hi1 : i ≤ 1048576) (hz : okz .u8 zs) (hr : Rd w w.heap.size A n (zs.map (Value.int .u8))) : Calls Try.prog 31 #[.slice A n c, .int .i64 i] w (Ret w (fun v new => ∃ x : Int, v = .int .i64 x ∧ new = [] ∧ 0 ≤ x ∧ x ≤ 255)) := by
  have hzl := hr.len
  refine calls_FA Try.func31 rfl (n := 21) rfl (l := [(0, Value.slice A n c), (1, Value.int .i64 i)]) rfl (by simp) (fun g => ?_)
  have hS := St.init w
  refine wp_seq ?_
  refine c_reg ?_
  refine q_seg (S := (fun x_ => St w x_ [])) [(4, Value.int .i64 0)] [.no] True (by kernel_rfl) trivial hS ?_
  refine l_nil rfl ?_
  refine then_n ?_
  refine wp_seq ?_
  refine wp_seq ?_
  refine c_reg ?_
  refine q_seg (S := (fun x_ => St w x_ [])) [(8, Value.bool (decide (i < ((n : Nat) : Int)))), (7, Value.int .i64 ((n : Nat) : Int)), (6, Value.slice A n c), (5, Value.int .i64 i)] [.no, .no, .no, .no] True (by kernel_rfl) trivial hS ?_
  refine l_nil rfl ?_
  refine then_n ?_
  rcases Bool.eq_false_or_eq_true (decide (i < ((n : Nat) : Int))) with hb1 | hb1
  · skip
    have hb1p := of_decide_eq_true hb1
    obtain ⟨bq, off, rfl, hbB, hcl⟩ := hr.2 (by omega)
    obtain ⟨z, hzk, hzm⟩ := get_int (zs := zs) hr.len (x := i) hi0 (by omega)
    obtain ⟨hz1, hz2⟩ := okz8 hz z hzm
    refine c_true (b := (decide (i < ((n : Nat) : Int)))) (by kernel_rfl) hb1 ?_
    refine wp_seq ?_
    refine c_reg ?_
    refine q_seg (S := (fun x_ => St w x_ [])) [(4, Value.int .i64 z), (13, Value.int .i64 z), (12, Value.int .u8 z), (11, Value.pointer (some ⟨bq, off + Int.toNat i * 1, none⟩)), (10, Value.int .i64 i), (9, Value.slice (some ⟨bq, off, none⟩) n c)] [.no, .no, .no, .v (Value.int .u8 z), .no, .no] (((0 : Int) ≤ i) ∧ (i < ((n : Nat) : Int)) ∧ (LoadsAt Try.prog (fun x_ => St w x_ []) 5 ⟨bq, off + Int.toNat i * 1, none⟩ (Value.int .u8 z)) ∧ (InK .i64 z)) (by kernel_rfl) ⟨(by omega), (by omega), (ld_low (hcl _ _ (by simp [hzk])) (by kernel_rfl)), (in64 (by omega) (by omega))⟩ hS ?_
    refine l_nil rfl ?_
    refine then_n ?_
    refine wp_ret ?_
    refine then_r ?_
    exact c_end (S := (fun x_ => St w x_ [])) (rs := [.tmp 4]) rfl [] (v := Value.int .i64 z) (C := True) (by kernel_rfl) trivial hS ((hS.sub List.Sublist.slnil).rt ⟨_, rfl, rfl, by omega, by omega⟩)
  · skip
    have hb1p := of_decide_eq_false hb1
    refine c_false (b := (decide (i < ((n : Nat) : Int)))) (by kernel_rfl) hb1 ?_
    refine wp_skip ?_
    refine then_n ?_
    refine wp_seq ?_
    refine c_reg ?_
    refine q_seg (S := (fun x_ => St w x_ [])) [(4, Value.int .i64 (((i * (31 : Int)) + (((n : Nat) : Int) * (7 : Int))) % (256 : Int))), (20, Value.int .i64 (((i * (31 : Int)) + (((n : Nat) : Int) * (7 : Int))) % (256 : Int))), (19, Value.int .i64 ((i * (31 : Int)) + (((n : Nat) : Int) * (7 : Int)))), (18, Value.int .i64 (((n : Nat) : Int) * (7 : Int))), (17, Value.int .i64 ((n : Nat) : Int)), (16, Value.slice A n c), (15, Value.int .i64 (i * (31 : Int))), (14, Value.int .i64 i)] [.no, .no, .no, .no, .no, .no, .no, .no] ((InK .i64 (i * (31 : Int))) ∧ (InK .i64 (((n : Nat) : Int) * (7 : Int))) ∧ (InK .i64 ((i * (31 : Int)) + (((n : Nat) : Int) * (7 : Int)))) ∧ ((0 : Int) ≤ ((i * (31 : Int)) + (((n : Nat) : Int) * (7 : Int)))) ∧ ((0 : Int) < (256 : Int))) (by kernel_rfl) ⟨(in64 (by omega) (by omega)), (in64 (by omega) (by omega)), (in64 (by omega) (by omega)), (by omega), (by omega)⟩ hS ?_
    refine l_nil rfl ?_
    refine then_n ?_
    refine wp_ret ?_
    exact c_end (S := (fun x_ => St w x_ [])) (rs := [.tmp 4]) rfl [] (v := Value.int .i64 (((i * (31 : Int)) + (((n : Nat) : Int) * (7 : Int))) % (256 : Int))) (C := True) (by kernel_rfl) trivial hS ((hS.sub List.Sublist.slnil).rt ⟨_, rfl, rfl, by omega, by omega⟩)

theorem IsValidPool_i_c (a0 : Int) (a1 : Int) (w : World) : Calls Try.prog 15 #[Value.agg #[Value.int .i64 a0, Value.int .i64 a1]] w (RetV w (Value.bool (vpool a0 a1))) := by
  refine calls_FA Try.func15 rfl (n := 15) rfl (l := [(0, Value.agg #[Value.int .i64 a0, Value.int .i64 a1])]) rfl (by simp) (fun g => ?_)
  have hS := St.init w
  refine wp_seq ?_
  refine c_reg ?_
  refine l_op rfl rfl (fun K hK => op_box (d := some 1) rfl rfl [Value.int .i64 a0, Value.int .i64 a1] (by kernel_rfl) hS (fun blk2 w1 hS1 => hK _ _ ?_))
  clear hK K
  refine q_seg (S := (fun x_ => St w x_ [Res.box blk2 [Value.int .i64 a0, Value.int .i64 a1] 25])) [(2, Value.bool false)] [.no] True (by kernel_rfl) trivial hS1 ?_
  refine l_nil rfl ?_
  refine then_n ?_
  refine wp_seq ?_
  refine c_drawn [] (by kernel_rfl) hS1 (fun w3 hS3 => ?_)
  refine t_seg (S := (fun x_ => St w x_ [Res.box blk2 [Value.int .i64 a0, Value.int .i64 a1] 25])) [(0, .no), (1, .v (Value.int .i64 a0))] 11 #[true, true, false, false, false, false, false, false, false, false, false, false, false] [(4, Value.int .i64 a0), (3, Value.pointer (some ⟨blk2, 0 + 0, none⟩))] ((LoadsAt Try.prog (fun x_ => St w x_ [Res.box blk2 [Value.int .i64 a0, Value.int .i64 a1] 25]) 3 ⟨blk2, 0 + 0, none⟩ (Value.int .i64 a0))) (by kernel_rfl) (Qpanic.then Qpanic.bp) rfl (by kernel_rfl) (ld_box (i := 0) rfl rfl (by kernel_rfl)) hS3 ?_
  refine a_op (i := 2) (fuel := 10) (listed' := #[true, true, true, false, false, false, false, false, false, false, false, false, false]) rfl rfl (by kernel_rfl) (by kernel_rfl) rfl (fun K hK => op_callv (d := some 5) rfl rfl ⟨_, Try.func40, by kernel_rfl, by kernel_rfl⟩ (vs := [Value.int .i64 a0, Value.int .i64 1, Value.int .i64 6]) (by kernel_rfl) (v := Value.bool (inR a0 1 6)) (InRange_c a0 1 6 _) hS3 (fun w4 hS4 => hK _ _ (fun _ => hS4) ?_))
  clear hK K
  refine t_seg (S := (fun x_ => St w x_ [Res.box blk2 [Value.int .i64 a0, Value.int .i64 a1] 25])) [(3, .no)] 9 #[true, true, true, true, false, false, false, false, false, false, false, false, false] [(6, Value.bool (inR a0 1 6))] True (by kernel_rfl) (Qpanic.then Qpanic.bp) rfl (by kernel_rfl) trivial hS4 ?_
  rcases Bool.eq_false_or_eq_true (inR a0 1 6) with hb5 | hb5
  · skip
    obtain ⟨hb5p, hb5q⟩ := inR_iff.1 hb5
    obtain ⟨hpw6, hpw6a, hpw6b, _⟩ := pw_of (e := a0) (by omega) (by omega)
    refine t_seg (S := (fun x_ => St w x_ [Res.box blk2 [Value.int .i64 a0, Value.int .i64 a1] 25])) [(4, .no), (6, .no), (5, .v (Value.int .i64 a1)), (7, .v (Value.int .i64 a0)), (8, .v (.int .i64 (pw a0))), (9, .no)] 3 #[true, true, true, true, true, true, true, true, true, true, false, false, false] [(12, Value.int .i64 ((pw a0) - (1 : Int))), (11, Value.int .i64 (pw a0)), (10, Value.int .i64 a0), (8, Value.int .i64 a1), (9, Value.pointer (some ⟨blk2, 0 + 0, none⟩)), (7, Value.pointer (some ⟨blk2, 0 + 1, none⟩))] (((inR a0 1 6) = true) ∧ ((inR a0 1 6) = true) ∧ ((inR a0 1 6) = true) ∧ (LoadsAt Try.prog (fun x_ => St w x_ [Res.box blk2 [Value.int .i64 a0, Value.int .i64 a1] 25]) 3 ⟨blk2, 0 + 1, none⟩ (Value.int .i64 a1)) ∧ ((inR a0 1 6) = true) ∧ (LoadsAt Try.prog (fun x_ => St w x_ [Res.box blk2 [Value.int .i64 a0, Value.int .i64 a1] 25]) 3 ⟨blk2, 0 + 0, none⟩ (Value.int .i64 a0)) ∧ ((inR a0 1 6) = true) ∧ ((0 : Int) ≤ a0) ∧ (IntKind.wrap .i64 ((1 : Int) * 2 ^ (min (Int.toNat a0) (IntKind.bits .i64))) = (pw a0)) ∧ ((inR a0 1 6) = true) ∧ (InK .i64 ((pw a0) - (1 : Int)))) (by kernel_rfl) (Qpanic.then Qpanic.bp) rfl (by kernel_rfl) ⟨hb5, hb5, hb5, (ld_box (i := 0) rfl rfl (by kernel_rfl)), hb5, (ld_box (i := 0) rfl rfl (by kernel_rfl)), hb5, (by omega), hpw6, hb5, (in64 (by omega) (by omega))⟩ hS4 ?_
    refine a_opg (i := 10) (fuel := 2) (listed' := #[true, true, true, true, true, true, true, true, true, true, true, false, false]) rfl rfl (by kernel_rfl) (by kernel_rfl) (b := (inR a0 1 6)) (want := true) (by kernel_rfl) hb5 (fun K hK => op_callv (d := some 13) rfl rfl ⟨_, Try.func40, by kernel_rfl, by kernel_rfl⟩ (vs := [Value.int .i64 a1, Value.int .i64 0, Value.int .i64 ((pw a0) - (1 : Int))]) (by kernel_rfl) (v := Value.bool (inR a1 0 ((pw a0) - (1 : Int)))) (InRange_c a1 0 ((pw a0) - (1 : Int)) _) hS4 (fun w7 hS7 => hK _ _ (fun _ => hS7) ?_))
    clear hK K
    refine t_seg (S := (fun x_ => St w x_ [Res.box blk2 [Value.int .i64 a0, Value.int .i64 a1] 25])) [(11, .v (.bool true)), (12, .no)] 0 #[true, true, true, true, true, true, true, true, true, true, true, true, true] [(2, Value.bool (inR a1 0 ((pw a0) - (1 : Int)))), (14, Value.bool (inR a1 0 ((pw a0) - (1 : Int))))] (((inR a0 1 6) = true)) (by kernel_rfl) (Qpanic.then Qpanic.bp) rfl (by kernel_rfl) hb5 hS7 ?_
    refine a_done (by kernel_rfl) ?_
    refine then_n ?_
    refine wp_ret ?_
    exact c_end (S := (fun x_ => St w x_ [Res.box blk2 [Value.int .i64 a0, Value.int .i64 a1] 25])) (rs := [.tmp 2]) rfl [] (v := Value.bool (inR a1 0 ((pw a0) - (1 : Int)))) (C := True) (by kernel_rfl) trivial hS7 ((hS7.rv (by simp [vpool, *])))
  · skip
    have hb5p := inR_neg hb5
    refine t_seg (S := (fun x_ => St w x_ [Res.box blk2 [Value.int .i64 a0, Value.int .i64 a1] 25])) [(4, .skip), (6, .skip), (5, .skip), (7, .skip), (8, .skip), (9, .skip), (10, .skip), (11, .v (.bool false)), (12, .no)] 0 #[true, true, true, true, true, true, true, true, true, true, true, true, true] [(2, Value.bool false), (14, Value.bool false), (13, undef), (12, undef), (11, undef), (10, undef), (8, undef), (9, undef), (7, undef)] (((inR a0 1 6) = !true) ∧ ((inR a0 1 6) = !true) ∧ ((inR a0 1 6) = !true) ∧ ((inR a0 1 6) = !true) ∧ ((inR a0 1 6) = !true) ∧ ((inR a0 1 6) = !true) ∧ ((inR a0 1 6) = !true) ∧ ((inR a0 1 6) = false)) (by kernel_rfl) (Qpanic.then Qpanic.bp) rfl (by kernel_rfl) ⟨hb5, hb5, hb5, hb5, hb5, hb5, hb5, hb5⟩ hS4 ?_
    refine a_done (by kernel_rfl) ?_
    refine then_n ?_
    refine wp_ret ?_
    exact c_end (S := (fun x_ => St w x_ [Res.box blk2 [Value.int .i64 a0, Value.int .i64 a1] 25])) (rs := [.tmp 2]) rfl [] (v := Value.bool false) (C := True) (by kernel_rfl) trivial hS4 ((hS4.rv (by simp [vpool, *])))

theorem IsValidPool_s_c (a0 : Int) (a1 : Int) (w : World) : Calls Try.prog 13 #[Value.agg #[Value.int .i64 a0, Value.int .i64 a1]] w (RetV w (Value.bool (vpool a0 a1))) := by
  refine calls_FA Try.func13 rfl (n := 15) rfl (l := [(0, Value.agg #[Value.int .i64 a0, Value.int .i64 a1])]) rfl (by simp) (fun g => ?_)
  have hS := St.init w
  refine wp_seq ?_
  refine c_reg ?_
  refine l_op rfl rfl (fun K hK => op_box (d := some 1) rfl rfl [Value.int .i64 a0, Value.int .i64 a1] (by kernel_rfl) hS (fun blk2 w1 hS1 => hK _ _ ?_))
  clear hK K
  refine q_seg (S := (fun x_ => St w x_ [Res.box blk2 [Value.int .i64 a0, Value.int .i64 a1] 25])) [(2, Value.bool false)] [.no] True (by kernel_rfl) trivial hS1 ?_
  refine l_nil rfl ?_
  refine then_n ?_
  refine wp_seq ?_
  refine c_drawn [] (by kernel_rfl) hS1 (fun w3 hS3 => ?_)
  refine t_seg (S := (fun x_ => St w x_ [Res.box blk2 [Value.int .i64 a0, Value.int .i64 a1] 25])) [(0, .no), (1, .v (Value.int .i64 a0))] 11 #[true, true, false, false, false, false, false, false, false, false, false, false, false] [(4, Value.int .i64 a0), (3, Value.pointer (some ⟨blk2, 0 + 0, none⟩))] ((LoadsAt Try.prog (fun x_ => St w x_ [Res.box blk2 [Value.int .i64 a0, Value.int .i64 a1] 25]) 3 ⟨blk2, 0 + 0, none⟩ (Value.int .i64 a0))) (by kernel_rfl) (Qpanic.then Qpanic.bp) rfl (by kernel_rfl) (ld_box (i := 0) rfl rfl (by kernel_rfl)) hS3 ?_
  refine a_op (i := 2) (fuel := 10) (listed' := #[true, true, true, false, false, false, false, false, false, false, false, false, false]) rfl rfl (by kernel_rfl) (by kernel_rfl) rfl (fun K hK => op_callv (d := some 5) rfl rfl ⟨_, Try.func39, by kernel_rfl, by kernel_rfl⟩ (vs := [Value.int .i64 a0, Value.int .i64 1, Value.int .i64 6]) (by kernel_rfl) (v := Value.bool (inR a0 1 6)) (l1In_c a0 1 6 _) hS3 (fun w4 hS4 => hK _ _ (fun _ => hS4) ?_))
  clear hK K
  refine t_seg (S := (fun x_ => St w x_ [Res.box blk2 [Value.int .i64 a0, Value.int .i64 a1] 25])) [(3, .no)] 9 #[true, true, true, true, false, false, false, false, false, false, false, false, false] [(6, Value.bool (inR a0 1 6))] True (by kernel_rfl) (Qpanic.then Qpanic.bp) rfl (by kernel_rfl) trivial hS4 ?_
  rcases Bool.eq_false_or_eq_true (inR a0 1 6) with hb5 | hb5
  · skip
    obtain ⟨hb5p, hb5q⟩ := inR_iff.1 hb5
    obtain ⟨hpw6, hpw6a, hpw6b, _⟩ := pw_of (e := a0) (by omega) (by omega)
    refine t_seg (S := (fun x_ => St w x_ [Res.box blk2 [Value.int .i64 a0, Value.int .i64 a1] 25])) [(4, .no), (6, .no), (5, .v (Value.int .i64 a1)), (7, .v (Value.int .i64 a0)), (8, .v (.int .i64 (pw a0))), (9, .no)] 3 #[true, true, true, true, true, true, true, true, true, true, false, false, false] [(12, Value.int .i64 ((pw a0) - (1 : Int))), (11, Value.int .i64 (pw a0)), (10, Value.int .i64 a0), (8, Value.int .i64 a1), (9, Value.pointer (some ⟨blk2, 0 + 0, none⟩)), (7, Value.pointer (some ⟨blk2, 0 + 1, none⟩))] (((inR a0 1 6) = true) ∧ ((inR a0 1 6) = true) ∧ ((inR a0 1 6) = true) ∧ (LoadsAt Try.prog (fun x_ => St w x_ [Res.box blk2 [Value.int .i64 a0, Value.int .i64 a1] 25]) 3 ⟨blk2, 0 + 1, none⟩ (Value.int .i64 a1)) ∧ ((inR a0 1 6) = true) ∧ (LoadsAt Try.prog (fun x_ => St w x_ [Res.box blk2 [Value.int .i64 a0, Value.int .i64 a1] 25]) 3 ⟨blk2, 0 + 0, none⟩ (Value.int .i64 a0)) ∧ ((inR a0 1 6) = true) ∧ ((0 : Int) ≤ a0) ∧ (IntKind.wrap .i64 ((1 : Int) * 2 ^ (min (Int.toNat a0) (IntKind.bits .i64))) = (pw a0)) ∧ ((inR a0 1 6) = true) ∧ (InK .i64 ((pw a0) - (1 : Int)))) (by kernel_rfl) (Qpanic.then Qpanic.bp) rfl (by kernel_rfl) ⟨hb5, hb5, hb5, (ld_box (i := 0) rfl rfl (by kernel_rfl)), hb5, (ld_box (i := 0) rfl rfl (by kernel_rfl)), hb5, (by omega), hpw6, hb5, (in64 (by omega) (by omega))⟩ hS4 ?_
    refine a_opg (i := 10) (fuel := 2) (listed' := #[true, true, true, true, true, true, true, true, true, true, true, false, false]) rfl rfl (by kernel_rfl) (by kernel_rfl) (b := (inR a0 1 6)) (want := true) (by kernel_rfl) hb5 (fun K hK => op_callv (d := some 13) rfl rfl ⟨_, Try.func39, by kernel_rfl, by kernel_rfl⟩ (vs := [Value.int .i64 a1, Value.int .i64 0, Value.int .i64 ((pw a0) - (1 : Int))]) (by kernel_rfl) (v := Value.bool (inR a1 0 ((pw a0) - (1 : Int)))) (l1In_c a1 0 ((pw a0) - (1 : Int)) _) hS4 (fun w7 hS7 => hK _ _ (fun _ => hS7) ?_))
    clear hK K
    refine t_seg (S := (fun x_ => St w x_ [Res.box blk2 [Value.int .i64 a0, Value.int .i64 a1] 25])) [(11, .v (.bool true)), (12, .no)] 0 #[true, true, true, true, true, true, true, true, true, true, true, true, true] [(2, Value.bool (inR a1 0 ((pw a0) - (1 : Int)))), (14, Value.bool (inR a1 0 ((pw a0) - (1 : Int))))] (((inR a0 1 6) = true)) (by kernel_rfl) (Qpanic.then Qpanic.bp) rfl (by kernel_rfl) hb5 hS7 ?_
    refine a_done (by kernel_rfl) ?_
    refine then_n ?_
    refine wp_ret ?_
    exact c_end (S := (fun x_ => St w x_ [Res.box blk2 [Value.int .i64 a0, Value.int .i64 a1] 25])) (rs := [.tmp 2]) rfl [] (v := Value.bool (inR a1 0 ((pw a0) - (1 : Int)))) (C := True) (by kernel_rfl) trivial hS7 ((hS7.rv (by simp [vpool, *])))
  · skip
    have hb5p := inR_neg hb5
    refine t_seg (S := (fun x_ => St w x_ [Res.box blk2 [Value.int .i64 a0, Value.int .i64 a1] 25])) [(4, .skip), (6, .skip), (5, .skip), (7, .skip), (8, .skip), (9, .skip), (10, .skip), (11, .v (.bool false)), (12, .no)] 0 #[true, true, true, true, true, true, true, true, true, true, true, true, true] [(2, Value.bool false), (14, Value.bool false), (13, undef), (12, undef), (11, undef), (10, undef), (8, undef), (9, undef), (7, undef)] (((inR a0 1 6) = !true) ∧ ((inR a0 1 6) = !true) ∧ ((inR a0 1 6) = !true) ∧ ((inR a0 1 6) = !true) ∧ ((inR a0 1 6) = !true) ∧ ((inR a0 1 6) = !true) ∧ ((inR a0 1 6) = !true) ∧ ((inR a0 1 6) = false)) (by kernel_rfl) (Qpanic.then Qpanic.bp) rfl (by kernel_rfl) ⟨hb5, hb5, hb5, hb5, hb5, hb5, hb5, hb5⟩ hS4 ?_
    refine a_done (by kernel_rfl) ?_
    refine then_n ?_
    refine wp_ret ?_
    exact c_end (S := (fun x_ => St w x_ [Res.box blk2 [Value.int .i64 a0, Value.int .i64 a1] 25])) (rs := [.tmp 2]) rfl [] (v := Value.bool false) (C := True) (by kernel_rfl) trivial hS4 ((hS4.rv (by simp [vpool, *])))

theorem IsServerUp_i_c (a0 : Int) (a1 : Int) (b : Int) (w : World) : Calls Try.prog 17 #[Value.agg #[Value.int .i64 a0, Value.int .i64 a1], Value.int .i64 b] w (RetV w (Value.bool (upB a0 a1 b))) := by
  refine calls_FA Try.func17 rfl (n := 22) rfl (l := [(0, Value.agg #[Value.int .i64 a0, Value.int .i64 a1]), (1, Value.int .i64 b)]) rfl (by simp) (fun g => ?_)
  have hS := St.init w
  refine wp_seq ?_
  refine c_reg ?_
  refine l_op rfl rfl (fun K hK => op_box (d := some 2) rfl rfl [Value.int .i64 a0, Value.int .i64 a1] (by kernel_rfl) hS (fun blk2 w1 hS1 => hK _ _ ?_))
  clear hK K
  refine q_seg (S := (fun x_ => St w x_ [Res.box blk2 [Value.int .i64 a0, Value.int .i64 a1] 25])) [(4, Value.bool false)] [.no] True (by kernel_rfl) trivial hS1 ?_
  refine l_nil rfl ?_
  refine then_n ?_
  refine wp_seq ?_
  refine c_reg ?_
  refine q_seg (S := (fun x_ => St w x_ [Res.box blk2 [Value.int .i64 a0, Value.int .i64 a1] 25])) [(5, Value.agg #[Value.int .i64 a0, Value.int .i64 a1])] [.v (Value.agg #[Value.int .i64 a0, Value.int .i64 a1])] ((LoadsAt Try.prog (fun x_ => St w x_ [Res.box blk2 [Value.int .i64 a0, Value.int .i64 a1] 25]) 25 ⟨blk2, 0, none⟩ (Value.agg #[Value.int .i64 a0, Value.int .i64 a1]))) (by kernel_rfl) (ld_boxN (i := 0) (k := 2) rfl rfl rfl (by kernel_rfl)) hS1 ?_
  refine l_op rfl rfl (fun K hK => op_callv (d := some 6) rfl rfl ⟨_, Try.func15, by kernel_rfl, by kernel_rfl⟩ (vs := [Value.agg #[Value.int .i64 a0, Value.int .i64 a1]]) (by kernel_rfl) (v := Value.bool (vpool a0 a1)) (IsValidPool_i_c a0 a1  _) hS1 (fun w3 hS3 => hK _ _ ?_))
  clear hK K
  refine q_seg (S := (fun x_ => St w x_ [Res.box blk2 [Value.int .i64 a0, Value.int .i64 a1] 25])) [(7, Value.bool (vpool a0 a1))] [.no] True (by kernel_rfl) trivial hS3 ?_
  rcases Bool.eq_false_or_eq_true (vpool a0 a1) with hb4 | hb4
  · skip
    obtain ⟨hb4v1, hb4v2, hb4v3, hb4v4, hb4v5⟩ := vpool_bd hb4
    refine q_seg (S := (fun x_ => St w x_ [Res.box blk2 [Value.int .i64 a0, Value.int .i64 a1] 25])) [(11, Value.int .i64 (a0 - (1 : Int))), (10, Value.int .i64 a0), (9, Value.pointer (some ⟨blk2, 0 + 0, none⟩)), (8, Value.int .i64 b)] [.no, .no, .v (Value.int .i64 a0), .no] (((vpool a0 a1) = true) ∧ ((vpool a0 a1) = true) ∧ ((vpool a0 a1) = true) ∧ (LoadsAt Try.prog (fun x_ => St w x_ [Res.box blk2 [Value.int .i64 a0, Value.int .i64 a1] 25]) 3 ⟨blk2, 0 + 0, none⟩ (Value.int .i64 a0)) ∧ ((vpool a0 a1) = true) ∧ (InK .i64 (a0 - (1 : Int)))) (by kernel_rfl) ⟨hb4, hb4, hb4, (ld_box (i := 0) rfl rfl (by kernel_rfl)), hb4, (in64 (by omega) (by omega))⟩ hS3 ?_
    refine l_opg rfl (b := (vpool a0 a1)) (want := true) (by kernel_rfl) hb4 (fun K hK => op_callv (d := some 12) rfl rfl ⟨_, Try.func40, by kernel_rfl, by kernel_rfl⟩ (vs := [Value.int .i64 b, Value.int .i64 0, Value.int .i64 (a0 - (1 : Int))]) (by kernel_rfl) (v := Value.bool (inR b 0 (a0 - (1 : Int)))) (InRange_c b 0 (a0 - (1 : Int)) _) hS3 (fun w5 hS5 => hK _ _ ?_))
    clear hK K
    refine q_seg (S := (fun x_ => St w x_ [Res.box blk2 [Value.int .i64 a0, Value.int .i64 a1] 25])) [(14, Value.bool (inR b 0 (a0 - (1 : Int)))), (13, Value.bool (inR b 0 (a0 - (1 : Int))))] [.v (.bool true), .no] (((vpool a0 a1) = true)) (by kernel_rfl) hb4 hS5 ?_
    rcases Bool.eq_false_or_eq_true (inR b 0 (a0 - (1 : Int))) with hb6 | hb6
    · skip
      obtain ⟨hb6p, hb6q⟩ := inR_iff.1 hb6
      refine q_seg (S := (fun x_ => St w x_ [Res.box blk2 [Value.int .i64 a0, Value.int .i64 a1] 25])) [(4, Value.bool (decide ((ibits .and .i64 (a1 / (pw b)) (1 : Int)) = (1 : Int)))), (21, Value.bool (decide ((ibits .and .i64 (a1 / (pw b)) (1 : Int)) = (1 : Int)))), (20, Value.bool (decide ((ibits .and .i64 (a1 / (pw b)) (1 : Int)) = (1 : Int)))), (19, Value.int .i64 (ibits .and .i64 (a1 / (pw b)) (1 : Int))), (18, Value.int .i64 (a1 / (pw b))), (17, Value.int .i64 b), (16, Value.int .i64 a1), (15, Value.pointer (some ⟨blk2, 0 + 1, none⟩))] [.no, .v (Value.int .i64 a1), .no, .v (.int .i64 (a1 / (pw b))), .v (.int .i64 (ibits .and .i64 (a1 / (pw b)) (1 : Int))), .no, .v (.bool true), .no] (((inR b 0 (a0 - (1 : Int))) = true) ∧ ((inR b 0 (a0 - (1 : Int))) = true) ∧ (LoadsAt Try.prog (fun x_ => St w x_ [Res.box blk2 [Value.int .i64 a0, Value.int .i64 a1] 25]) 3 ⟨blk2, 0 + 1, none⟩ (Value.int .i64 a1)) ∧ ((inR b 0 (a0 - (1 : Int))) = true) ∧ ((inR b 0 (a0 - (1 : Int))) = true) ∧ ((0 : Int) ≤ b) ∧ (Int.fdiv a1 (2 ^ (min (Int.toNat b) (IntKind.bits .i64))) = (a1 / (pw b))) ∧ ((inR b 0 (a0 - (1 : Int))) = true) ∧ (ibits .and .i64 (a1 / (pw b)) (1 : Int) = (ibits .and .i64 (a1 / (pw b)) (1 : Int))) ∧ ((inR b 0 (a0 - (1 : Int))) = true) ∧ ((inR b 0 (a0 - (1 : Int))) = true)) (by kernel_rfl) ⟨hb6, hb6, (ld_box (i := 0) rfl rfl (by kernel_rfl)), hb6, hb6, (by omega), (shr_of (by omega) (by omega)), hb6, rfl, hb6, hb6⟩ hS5 ?_
      refine l_nil rfl ?_
      refine then_n ?_
      refine wp_ret ?_
      exact c_end (S := (fun x_ => St w x_ [Res.box blk2 [Value.int .i64 a0, Value.int .i64 a1] 25])) (rs := [.tmp 4]) rfl [] (v := Value.bool (decide ((ibits .and .i64 (a1 / (pw b)) (1 : Int)) = (1 : Int)))) (C := True) (by kernel_rfl) trivial hS5 ((hS5.rv (by simp [upB, *])))
    · skip
      have hb6p := inR_neg hb6
      refine q_seg (S := (fun x_ => St w x_ [Res.box blk2 [Value.int .i64 a0, Value.int .i64 a1] 25])) [(4, Value.bool false), (21, Value.bool false), (20, undef), (19, undef), (18, undef), (17, undef), (16, undef), (15, undef)] [.skip, .skip, .skip, .skip, .skip, .skip, .v (.bool false), .no] (((inR b 0 (a0 - (1 : Int))) = !true) ∧ ((inR b 0 (a0 - (1 : Int))) = !true) ∧ ((inR b 0 (a0 - (1 : Int))) = !true) ∧ ((inR b 0 (a0 - (1 : Int))) = !true) ∧ ((inR b 0 (a0 - (1 : Int))) = !true) ∧ ((inR b 0 (a0 - (1 : Int))) = !true) ∧ ((inR b 0 (a0 - (1 : Int))) = false)) (by kernel_rfl) ⟨hb6, hb6, hb6, hb6, hb6, hb6, hb6⟩ hS5 ?_
      refine l_nil rfl ?_
      refine then_n ?_
      refine wp_ret ?_
      exact c_end (S := (fun x_ => St w x_ [Res.box blk2 [Value.int .i64 a0, Value.int .i64 a1] 25])) (rs := [.tmp 4]) rfl [] (v := Value.bool false) (C := True) (by kernel_rfl) trivial hS5 ((hS5.rv (by simp [upB, *])))
  · skip
    refine q_seg (S := (fun x_ => St w x_ [Res.box blk2 [Value.int .i64 a0, Value.int .i64 a1] 25])) [(4, Value.bool false), (21, Value.bool false), (20, undef), (19, undef), (18, undef), (17, undef), (16, undef), (15, undef), (14, Value.bool false), (13, Value.bool false), (12, undef), (11, undef), (10, undef), (9, undef), (8, undef)] [.skip, .skip, .skip, .skip, .skip, .v (.bool false), .no, .skip, .skip, .skip, .skip, .skip, .skip, .v (.bool false), .no] (((vpool a0 a1) = !true) ∧ ((vpool a0 a1) = !true) ∧ ((vpool a0 a1) = !true) ∧ ((vpool a0 a1) = !true) ∧ ((vpool a0 a1) = !true) ∧ ((vpool a0 a1) = false) ∧ (false = !true) ∧ (false = !true) ∧ (false = !true) ∧ (false = !true) ∧ (false = !true) ∧ (false = !true) ∧ (false = false)) (by kernel_rfl) ⟨hb4, hb4, hb4, hb4, hb4, hb4, rfl, rfl, rfl, rfl, rfl, rfl, rfl⟩ hS3 ?_
    refine l_nil rfl ?_
    refine then_n ?_
    refine wp_ret ?_
    exact c_end (S := (fun x_ => St w x_ [Res.box blk2 [Value.int .i64 a0, Value.int .i64 a1] 25])) (rs := [.tmp 4]) rfl [] (v := Value.bool false) (C := True) (by kernel_rfl) trivial hS3 ((hS3.rv (by simp [upB, *])))

theorem IsServerUp_s_c (a0 : Int) (a1 : Int) (b : Int) (w : World) : Calls Try.prog 16 #[Value.agg #[Value.int .i64 a0, Value.int .i64 a1], Value.int .i64 b] w (RetV w (Value.bool (upB a0 a1 b))) := by
  refine calls_FA Try.func16 rfl (n := 22) rfl (l := [(0, Value.agg #[Value.int .i64 a0, Value.int .i64 a1]), (1, Value.int .i64 b)]) rfl (by simp) (fun g => ?_)
  have hS := St.init w
  refine wp_seq ?_
  refine c_reg ?_
  refine l_op rfl rfl (fun K hK => op_box (d := some 2) rfl rfl [Value.int .i64 a0, Value.int .i64 a1] (by kernel_rfl) hS (fun blk2 w1 hS1 => hK _ _ ?_))
  clear hK K
  refine q_seg (S := (fun x_ => St w x_ [Res.box blk2 [Value.int .i64 a0, Value.int .i64 a1] 25])) [(4, Value.bool false)] [.no] True (by kernel_rfl) trivial hS1 ?_
  refine l_nil rfl ?_
  refine then_n ?_
  refine wp_seq ?_
  refine c_reg ?_
  refine q_seg (S := (fun x_ => St w x_ [Res.box blk2 [Value.int .i64 a0, Value.int .i64 a1] 25])) [(5, Value.agg #[Value.int .i64 a0, Value.int .i64 a1])] [.v (Value.agg #[Value.int .i64 a0, Value.int .i64 a1])] ((LoadsAt Try.prog (fun x_ => St w x_ [Res.box blk2 [Value.int .i64 a0, Value.int .i64 a1] 25]) 25 ⟨blk2, 0, none⟩ (Value.agg #[Value.int .i64 a0, Value.int .i64 a1]))) (by kernel_rfl) (ld_boxN (i := 0) (k := 2) rfl rfl rfl (by kernel_rfl)) hS1 ?_
  refine l_op rfl rfl (fun K hK => op_callv (d := some 6) rfl rfl ⟨_, Try.func13, by kernel_rfl, by kernel_rfl⟩ (vs := [Value.agg #[Value.int .i64 a0, Value.int .i64 a1]]) (by kernel_rfl) (v := Value.bool (vpool a0 a1)) (IsValidPool_s_c a0 a1  _) hS1 (fun w3 hS3 => hK _ _ ?_))
  clear hK K
  refine q_seg (S := (fun x_ => St w x_ [Res.box blk2 [Value.int .i64 a0, Value.int .i64 a1] 25])) [(7, Value.bool (vpool a0 a1))] [.no] True (by kernel_rfl) trivial hS3 ?_
  rcases Bool.eq_false_or_eq_true (vpool a0 a1) with hb4 | hb4
  · skip
    obtain ⟨hb4v1, hb4v2, hb4v3, hb4v4, hb4v5⟩ := vpool_bd hb4
    refine q_seg (S := (fun x_ => St w x_ [Res.box blk2 [Value.int .i64 a0, Value.int .i64 a1] 25])) [(11, Value.int .i64 (a0 - (1 : Int))), (10, Value.int .i64 a0), (9, Value.pointer (some ⟨blk2, 0 + 0, none⟩)), (8, Value.int .i64 b)] [.no, .no, .v (Value.int .i64 a0), .no] (((vpool a0 a1) = true) ∧ ((vpool a0 a1) = true) ∧ ((vpool a0 a1) = true) ∧ (LoadsAt Try.prog (fun x_ => St w x_ [Res.box blk2 [Value.int .i64 a0, Value.int .i64 a1] 25]) 3 ⟨blk2, 0 + 0, none⟩ (Value.int .i64 a0)) ∧ ((vpool a0 a1) = true) ∧ (InK .i64 (a0 - (1 : Int)))) (by kernel_rfl) ⟨hb4, hb4, hb4, (ld_box (i := 0) rfl rfl (by kernel_rfl)), hb4, (in64 (by omega) (by omega))⟩ hS3 ?_
    refine l_opg rfl (b := (vpool a0 a1)) (want := true) (by kernel_rfl) hb4 (fun K hK => op_callv (d := some 12) rfl rfl ⟨_, Try.func39, by kernel_rfl, by kernel_rfl⟩ (vs := [Value.int .i64 b, Value.int .i64 0, Value.int .i64 (a0 - (1 : Int))]) (by kernel_rfl) (v := Value.bool (inR b 0 (a0 - (1 : Int)))) (l1In_c b 0 (a0 - (1 : Int)) _) hS3 (fun w5 hS5 => hK _ _ ?_))
    clear hK K
    refine q_seg (S := (fun x_ => St w x_ [Res.box blk2 [Value.int .i64 a0, Value.int .i64 a1] 25])) [(14, Value.bool (inR b 0 (a0 - (1 : Int)))), (13, Value.bool (inR b 0 (a0 - (1 : Int))))] [.v (.bool true), .no] (((vpool a0 a1) = true)) (by kernel_rfl) hb4 hS5 ?_
    rcases Bool.eq_false_or_eq_true (inR b 0 (a0 - (1 : Int))) with hb6 | hb6
    · skip
      obtain ⟨hb6p, hb6q⟩ := inR_iff.1 hb6
      refine q_seg (S := (fun x_ => St w x_ [Res.box blk2 [Value.int .i64 a0, Value.int .i64 a1] 25])) [(4, Value.bool (decide ((ibits .and .i64 (a1 / (pw b)) (1 : Int)) = (1 : Int)))), (21, Value.bool (decide ((ibits .and .i64 (a1 / (pw b)) (1 : Int)) = (1 : Int)))), (20, Value.bool (decide ((ibits .and .i64 (a1 / (pw b)) (1 : Int)) = (1 : Int)))), (19, Value.int .i64 (ibits .and .i64 (a1 / (pw b)) (1 : Int))), (18, Value.int .i64 (a1 / (pw b))), (17, Value.int .i64 b), (16, Value.int .i64 a1), (15, Value.pointer (some ⟨blk2, 0 + 1, none⟩))] [.no, .v (Value.int .i64 a1), .no, .v (.int .i64 (a1 / (pw b))), .v (.int .i64 (ibits .and .i64 (a1 / (pw b)) (1 : Int))), .no, .v (.bool true), .no] (((inR b 0 (a0 - (1 : Int))) = true) ∧ ((inR b 0 (a0 - (1 : Int))) = true) ∧ (LoadsAt Try.prog (fun x_ => St w x_ [Res.box blk2 [Value.int .i64 a0, Value.int .i64 a1] 25]) 3 ⟨blk2, 0 + 1, none⟩ (Value.int .i64 a1)) ∧ ((inR b 0 (a0 - (1 : Int))) = true) ∧ ((inR b 0 (a0 - (1 : Int))) = true) ∧ ((0 : Int) ≤ b) ∧ (Int.fdiv a1 (2 ^ (min (Int.toNat b) (IntKind.bits .i64))) = (a1 / (pw b))) ∧ ((inR b 0 (a0 - (1 : Int))) = true) ∧ (ibits .and .i64 (a1 / (pw b)) (1 : Int) = (ibits .and .i64 (a1 / (pw b)) (1 : Int))) ∧ ((inR b 0 (a0 - (1 : Int))) = true) ∧ ((inR b 0 (a0 - (1 : Int))) = true)) (by kernel_rfl) ⟨hb6, hb6, (ld_box (i := 0) rfl rfl (by kernel_rfl)), hb6, hb6, (by omega), (shr_of (by omega) (by omega)), hb6, rfl, hb6, hb6⟩ hS5 ?_
      refine l_nil rfl ?_
      refine then_n ?_
      refine wp_ret ?_
      exact c_end (S := (fun x_ => St w x_ [Res.box blk2 [Value.int .i64 a0, Value.int .i64 a1] 25])) (rs := [.tmp 4]) rfl [] (v := Value.bool (decide ((ibits .and .i64 (a1 / (pw b)) (1 : Int)) = (1 : Int)))) (C := True) (by kernel_rfl) trivial hS5 ((hS5.rv (by simp [upB, *])))
    · skip
      have hb6p := inR_neg hb6
      refine q_seg (S := (fun x_ => St w x_ [Res.box blk2 [Value.int .i64 a0, Value.int .i64 a1] 25])) [(4, Value.bool false), (21, Value.bool false), (20, undef), (19, undef), (18, undef), (17, undef), (16, undef), (15, undef)] [.skip, .skip, .skip, .skip, .skip, .skip, .v (.bool false), .no] (((inR b 0 (a0 - (1 : Int))) = !true) ∧ ((inR b 0 (a0 - (1 : Int))) = !true) ∧ ((inR b 0 (a0 - (1 : Int))) = !true) ∧ ((inR b 0 (a0 - (1 : Int))) = !true) ∧ ((inR b 0 (a0 - (1 : Int))) = !true) ∧ ((inR b 0 (a0 - (1 : Int))) = !true) ∧ ((inR b 0 (a0 - (1 : Int))) = false)) (by kernel_rfl) ⟨hb6, hb6, hb6, hb6, hb6, hb6, hb6⟩ hS5 ?_
      refine l_nil rfl ?_
      refine then_n ?_
      refine wp_ret ?_
      exact c_end (S := (fun x_ => St w x_ [Res.box blk2 [Value.int .i64 a0, Value.int .i64 a1] 25])) (rs := [.tmp 4]) rfl [] (v := Value.bool false) (C := True) (by kernel_rfl) trivial hS5 ((hS5.rv (by simp [upB, *])))
  · skip
    refine q_seg (S := (fun x_ => St w x_ [Res.box blk2 [Value.int .i64 a0, Value.int .i64 a1] 25])) [(4, Value.bool false), (21, Value.bool false), (20, undef), (19, undef), (18, undef), (17, undef), (16, undef), (15, undef), (14, Value.bool false), (13, Value.bool false), (12, undef), (11, undef), (10, undef), (9, undef), (8, undef)] [.skip, .skip, .skip, .skip, .skip, .v (.bool false), .no, .skip, .skip, .skip, .skip, .skip, .skip, .v (.bool false), .no] (((vpool a0 a1) = !true) ∧ ((vpool a0 a1) = !true) ∧ ((vpool a0 a1) = !true) ∧ ((vpool a0 a1) = !true) ∧ ((vpool a0 a1) = !true) ∧ ((vpool a0 a1) = false) ∧ (false = !true) ∧ (false = !true) ∧ (false = !true) ∧ (false = !true) ∧ (false = !true) ∧ (false = !true) ∧ (false = false)) (by kernel_rfl) ⟨hb4, hb4, hb4, hb4, hb4, hb4, rfl, rfl, rfl, rfl, rfl, rfl, rfl⟩ hS3 ?_
    refine l_nil rfl ?_
    refine then_n ?_
    refine wp_ret ?_
    exact c_end (S := (fun x_ => St w x_ [Res.box blk2 [Value.int .i64 a0, Value.int .i64 a1] 25])) (rs := [.tmp 4]) rfl [] (v := Value.bool false) (C := True) (by kernel_rfl) trivial hS3 ((hS3.rv (by simp [upB, *])))

theorem RendezvousWeight_i_c (a : Int) (b : Int) (ha : I64 a) (hb : I64 b) (w : World) : Calls Try.prog 19 #[Value.int .i64 a, Value.int .i64 b] w (RetV w (Value.int .i64 (rweight a b))) := by
  obtain ⟨ha1, ha2⟩ := ha
  obtain ⟨hb1, hb2⟩ := hb
  refine calls_FA Try.func19 rfl (n := 14) rfl (l := [(0, Value.int .i64 a), (1, Value.int .i64 b)]) rfl (by simp) (fun g => ?_)
  have hS := St.init w
  refine wp_seq ?_
  refine c_reg ?_
  refine q_seg (S := (fun x_ => St w x_ [])) [(4, Value.int .i64 0)] [.no] True (by kernel_rfl) trivial hS ?_
  refine l_nil rfl ?_
  refine then_n ?_
  refine wp_seq ?_
  refine c_reg ?_
  refine q_seg (S := (fun x_ => St w x_ [])) [(7, Value.int .i64 b), (6, Value.int .i64 a)] [.no, .no] True (by kernel_rfl) trivial hS ?_
  refine l_op rfl rfl (fun K hK => op_buildSlice (d := some 8) rfl rfl (e := 3) (by kernel_rfl) 1 (by kernel_rfl) (by decide) (by decide) [Value.int .i64 a, Value.int .i64 b] (by kernel_rfl) rfl hS (fun blk2 w1 hS1 => hK _ _ ?_))
  clear hK K
  refine l_op rfl rfl (fun K hK => op_callv (d := some 9) rfl rfl ⟨_, Try.func42, by kernel_rfl, by kernel_rfl⟩ (vs := [Value.int .i64 17, Value.slice (some ⟨blk2, 0, none⟩) 2 2]) (by kernel_rfl) (v := Value.int .i64 (khash (17 : Int) [a, b])) (KeyedHashI_c (17 : Int) _ 2 2 [a, b] w1 (i64 (by omega) (by omega)) (all64_cons (i64 (by omega) (by omega)) (all64_cons (i64 (by omega) (by omega)) all64_nil)) (by decide) (hS1.rd (List.mem_of_getElem? (i := 0) rfl))) hS1 (fun w3 hS3 => hK _ _ ?_))
  clear hK K
  have hkq4 := khash_bd (17 : Int) [a, b]
  refine q_seg (S := (fun x_ => St w x_ [Res.row (Value.slice (some ⟨blk2, 0, none⟩) 2 2) 3 1 2 ([Value.int .i64 a, Value.int .i64 b])])) [(5, Value.int .i64 (khash (17 : Int) [a, b]))] [.no] True (by kernel_rfl) trivial hS3 ?_
  refine l_nil rfl ?_
  refine then_n ?_
  refine wp_seq ?_
  refine c_reg ?_
  have hsq5 := sq_bd (17 : Int) [a, b]
  refine q_seg (S := (fun x_ => St w x_ [Res.row (Value.slice (some ⟨blk2, 0, none⟩) 2 2) 3 1 2 ([Value.int .i64 a, Value.int .i64 b])])) [(4, Value.int .i64 (((khash (17 : Int) [a, b]) * (khash (17 : Int) [a, b])) % (2147483647 : Int))), (13, Value.int .i64 (((khash (17 : Int) [a, b]) * (khash (17 : Int) [a, b])) % (2147483647 : Int))), (12, Value.int .i64 ((khash (17 : Int) [a, b]) * (khash (17 : Int) [a, b]))), (11, Value.int .i64 (khash (17 : Int) [a, b])), (10, Value.int .i64 (khash (17 : Int) [a, b]))] [.no, .no, .v (.int .i64 ((khash (17 : Int) [a, b]) * (khash (17 : Int) [a, b]))), .no, .no] ((IntKind.wrap .i64 ((khash (17 : Int) [a, b]) * (khash (17 : Int) [a, b])) = ((khash (17 : Int) [a, b]) * (khash (17 : Int) [a, b]))) ∧ ((0 : Int) ≤ ((khash (17 : Int) [a, b]) * (khash (17 : Int) [a, b]))) ∧ ((0 : Int) < (2147483647 : Int))) (by kernel_rfl) ⟨(in64 (by omega) (by omega)), (by omega), (by omega)⟩ hS3 ?_
  refine l_nil rfl ?_
  refine then_n ?_
  refine wp_ret ?_
  exact c_end (S := (fun x_ => St w x_ [Res.row (Value.slice (some ⟨blk2, 0, none⟩) 2 2) 3 1 2 ([Value.int .i64 a, Value.int .i64 b])])) (rs := [.tmp 4]) rfl [] (v := Value.int .i64 (((khash (17 : Int) [a, b]) * (khash (17 : Int) [a, b])) % (2147483647 : Int))) (C := True) (by kernel_rfl) trivial hS3 ((hS3.rv rfl))

theorem RendezvousWeight_s_c (a : Int) (b : Int) (ha : I64 a) (hb : I64 b) (w : World) : Calls Try.prog 18 #[Value.int .i64 a, Value.int .i64 b] w (RetV w (Value.int .i64 (rweight a b))) := by
  obtain ⟨ha1, ha2⟩ := ha
  obtain ⟨hb1, hb2⟩ := hb
  refine calls_FA Try.func18 rfl (n := 14) rfl (l := [(0, Value.int .i64 a), (1, Value.int .i64 b)]) rfl (by simp) (fun g => ?_)
  have hS := St.init w
  refine wp_seq ?_
  refine c_reg ?_
  refine q_seg (S := (fun x_ => St w x_ [])) [(4, Value.int .i64 0)] [.no] True (by kernel_rfl) trivial hS ?_
  refine l_nil rfl ?_
  refine then_n ?_
  refine wp_seq ?_
  refine c_reg ?_
  refine q_seg (S := (fun x_ => St w x_ [])) [(7, Value.int .i64 b), (6, Value.int .i64 a)] [.no, .no] True (by kernel_rfl) trivial hS ?_
  refine l_op rfl rfl (fun K hK => op_buildSlice (d := some 8) rfl rfl (e := 3) (by kernel_rfl) 1 (by kernel_rfl) (by decide) (by decide) [Value.int .i64 a, Value.int .i64 b] (by kernel_rfl) rfl hS (fun blk2 w1 hS1 => hK _ _ ?_))
  clear hK K
  refine l_op rfl rfl (fun K hK => op_callv (d := some 9) rfl rfl ⟨_, Try.func41, by kernel_rfl, by kernel_rfl⟩ (vs := [Value.int .i64 17, Value.slice (some ⟨blk2, 0, none⟩) 2 2]) (by kernel_rfl) (v := Value.int .i64 (khash (17 : Int) [a, b])) (KeyedHashS_c (17 : Int) _ 2 2 [a, b] w1 (i64 (by omega) (by omega)) (all64_cons (i64 (by omega) (by omega)) (all64_cons (i64 (by omega) (by omega)) all64_nil)) (by decide) (hS1.rd (List.mem_of_getElem? (i := 0) rfl))) hS1 (fun w3 hS3 => hK _ _ ?_))
  clear hK K
  have hkq4 := khash_bd (17 : Int) [a, b]
  refine q_seg (S := (fun x_ => St w x_ [Res.row (Value.slice (some ⟨blk2, 0, none⟩) 2 2) 3 1 2 ([Value.int .i64 a, Value.int .i64 b])])) [(5, Value.int .i64 (khash (17 : Int) [a, b]))] [.no] True (by kernel_rfl) trivial hS3 ?_
  refine l_nil rfl ?_
  refine then_n ?_
  refine wp_seq ?_
  refine c_reg ?_
  have hsq5 := sq_bd (17 : Int) [a, b]
  refine q_seg (S := (fun x_ => St w x_ [Res.row (Value.slice (some ⟨blk2, 0, none⟩) 2 2) 3 1 2 ([Value.int .i64 a, Value.int .i64 b])])) [(4, Value.int .i64 (((khash (17 : Int) [a, b]) * (khash (17 : Int) [a, b])) % (2147483647 : Int))), (13, Value.int .i64 (((khash (17 : Int) [a, b]) * (khash (17 : Int) [a, b])) % (2147483647 : Int))), (12, Value.int .i64 ((khash (17 : Int) [a, b]) * (khash (17 : Int) [a, b]))), (11, Value.int .i64 (khash (17 : Int) [a, b])), (10, Value.int .i64 (khash (17 : Int) [a, b]))] [.no, .no, .v (.int .i64 ((khash (17 : Int) [a, b]) * (khash (17 : Int) [a, b]))), .no, .no] ((IntKind.wrap .i64 ((khash (17 : Int) [a, b]) * (khash (17 : Int) [a, b])) = ((khash (17 : Int) [a, b]) * (khash (17 : Int) [a, b]))) ∧ ((0 : Int) ≤ ((khash (17 : Int) [a, b]) * (khash (17 : Int) [a, b]))) ∧ ((0 : Int) < (2147483647 : Int))) (by kernel_rfl) ⟨(in64 (by omega) (by omega)), (by omega), (by omega)⟩ hS3 ?_
  refine l_nil rfl ?_
  refine then_n ?_
  refine wp_ret ?_
  exact c_end (S := (fun x_ => St w x_ [Res.row (Value.slice (some ⟨blk2, 0, none⟩) 2 2) 3 1 2 ([Value.int .i64 a, Value.int .i64 b])])) (rs := [.tmp 4]) rfl [] (v := Value.int .i64 (((khash (17 : Int) [a, b]) * (khash (17 : Int) [a, b])) % (2147483647 : Int))) (C := True) (by kernel_rfl) trivial hS3 ((hS3.rv rfl))

theorem SetServerUp_i_c (a0 : Int) (a1 : Int) (b : Int) (c : Bool) (w : World) : Calls Try.prog 23 #[Value.agg #[Value.int .i64 a0, Value.int .i64 a1], Value.int .i64 b, Value.bool c] w (RetV w (Value.agg #[Value.int .i64 a0, Value.int .i64 (setU a0 a1 b c)])) := by
  refine calls_FA Try.func23 rfl (n := 33) rfl (l := [(0, Value.agg #[Value.int .i64 a0, Value.int .i64 a1]), (1, Value.int .i64 b), (2, Value.bool c)]) rfl (by simp) (fun g => ?_)
  have hS := St.init w
  refine wp_seq ?_
  refine c_reg ?_
  refine l_op rfl rfl (fun K hK => op_box (d := some 3) rfl rfl [Value.int .i64 a0, Value.int .i64 a1] (by kernel_rfl) hS (fun blk2 w1 hS1 => hK _ _ ?_))
  clear hK K
  refine l_op rfl rfl (fun K hK => op_alloc (d := some 6) rfl rfl [Value.int .i64 0, Value.int .i64 0] (by kernel_rfl) hS1 (fun blk4 w3 hS3 => hK _ _ ?_))
  clear hK K
  refine l_nil rfl ?_
  refine then_n ?_
  refine wp_seq ?_
  refine wp_seq ?_
  refine c_reg ?_
  refine q_seg (S := (fun x_ => St w x_ [Res.box blk4 [Value.int .i64 0, Value.int .i64 0] 25, Res.box blk2 [Value.int .i64 a0, Value.int .i64 a1] 25])) [(7, Value.agg #[Value.int .i64 a0, Value.int .i64 a1])] [.v (Value.agg #[Value.int .i64 a0, Value.int .i64 a1])] ((LoadsAt Try.prog (fun x_ => St w x_ [Res.box blk4 [Value.int .i64 0, Value.int .i64 0] 25, Res.box blk2 [Value.int .i64 a0, Value.int .i64 a1] 25]) 25 ⟨blk2, 0, none⟩ (Value.agg #[Value.int .i64 a0, Value.int .i64 a1]))) (by kernel_rfl) (ld_boxN (i := 1) (k := 2) rfl rfl rfl (by kernel_rfl)) hS3 ?_
  refine l_op rfl rfl (fun K hK => op_callv (d := some 8) rfl rfl ⟨_, Try.func15, by kernel_rfl, by kernel_rfl⟩ (vs := [Value.agg #[Value.int .i64 a0, Value.int .i64 a1]]) (by kernel_rfl) (v := Value.bool (vpool a0 a1)) (IsValidPool_i_c a0 a1  _) hS3 (fun w5 hS5 => hK _ _ ?_))
  clear hK K
  refine q_seg (S := (fun x_ => St w x_ [Res.box blk4 [Value.int .i64 0, Value.int .i64 0] 25, Res.box blk2 [Value.int .i64 a0, Value.int .i64 a1] 25])) [(10, Value.bool (!(vpool a0 a1))), (9, Value.bool (!(vpool a0 a1)))] [.no, .no] True (by kernel_rfl) trivial hS5 ?_
  rcases Bool.eq_false_or_eq_true (vpool a0 a1) with hb6 | hb6
  · skip
    obtain ⟨hb6v1, hb6v2, hb6v3, hb6v4, hb6v5⟩ := vpool_bd hb6
    refine q_seg (S := (fun x_ => St w x_ [Res.box blk4 [Value.int .i64 0, Value.int .i64 0] 25, Res.box blk2 [Value.int .i64 a0, Value.int .i64 a1] 25])) [(14, Value.int .i64 (a0 - (1 : Int))), (13, Value.int .i64 a0), (12, Value.pointer (some ⟨blk2, 0 + 0, none⟩)), (11, Value.int .i64 b)] [.no, .no, .v (Value.int .i64 a0), .no] (((!(vpool a0 a1)) = false) ∧ ((!(vpool a0 a1)) = false) ∧ ((!(vpool a0 a1)) = false) ∧ (LoadsAt Try.prog (fun x_ => St w x_ [Res.box blk4 [Value.int .i64 0, Value.int .i64 0] 25, Res.box blk2 [Value.int .i64 a0, Value.int .i64 a1] 25]) 3 ⟨blk2, 0 + 0, none⟩ (Value.int .i64 a0)) ∧ ((!(vpool a0 a1)) = false) ∧ (InK .i64 (a0 - (1 : Int)))) (by kernel_rfl) ⟨(nb (v := true) hb6), (nb (v := true) hb6), (nb (v := true) hb6), (ld_box (i := 1) rfl rfl (by kernel_rfl)), (nb (v := true) hb6), (in64 (by omega) (by omega))⟩ hS5 ?_
    refine l_opg rfl (b := (!(vpool a0 a1))) (want := false) (by kernel_rfl) (nb (v := true) hb6) (fun K hK => op_callv (d := some 15) rfl rfl ⟨_, Try.func40, by kernel_rfl, by kernel_rfl⟩ (vs := [Value.int .i64 b, Value.int .i64 0, Value.int .i64 (a0 - (1 : Int))]) (by kernel_rfl) (v := Value.bool (inR b 0 (a0 - (1 : Int)))) (InRange_c b 0 (a0 - (1 : Int)) _) hS5 (fun w7 hS7 => hK _ _ ?_))
    clear hK K
    refine q_seg (S := (fun x_ => St w x_ [Res.box blk4 [Value.int .i64 0, Value.int .i64 0] 25, Res.box blk2 [Value.int .i64 a0, Value.int .i64 a1] 25])) [(17, Value.bool (!(inR b 0 (a0 - (1 : Int))))), (16, Value.bool (!(inR b 0 (a0 - (1 : Int)))))] [.no, .v (.bool false)] (((!(vpool a0 a1)) = false) ∧ ((!(vpool a0 a1)) = false)) (by kernel_rfl) ⟨(nb (v := true) hb6), (nb (v := true) hb6)⟩ hS7 ?_
    refine l_nil rfl ?_
    refine then_n ?_
    rcases Bool.eq_false_or_eq_true (inR b 0 (a0 - (1 : Int))) with hb8 | hb8
    · skip
      obtain ⟨hb8p, hb8q⟩ := inR_iff.1 hb8
      refine c_false (b := (!(inR b 0 (a0 - (1 : Int))))) (by kernel_rfl) (nb (v := true) hb8) ?_
      refine wp_skip ?_
      refine then_n ?_
      refine wp_seq ?_
      refine wp_seq ?_
      refine c_reg ?_
      refine q_seg (S := (fun x_ => St w x_ [Res.box blk4 [Value.int .i64 0, Value.int .i64 0] 25, Res.box blk2 [Value.int .i64 a0, Value.int .i64 a1] 25])) [(19, Value.bool c)] [.no] True (by kernel_rfl) trivial hS7 ?_
      refine l_nil rfl ?_
      refine then_n ?_
      rcases Bool.eq_false_or_eq_true (c) with hb9 | hb9
      · skip
        refine c_true (b := c) (by kernel_rfl) hb9 ?_
        refine c_drawn [6] (by kernel_rfl) hS7 (fun w10 hS10 => ?_)
        obtain ⟨hpw11, hpw11a, hpw11b, _⟩ := pw_of (e := b) (by omega) (by omega)
        refine t_seg (S := (fun x_ => St w x_ [Res.box blk4 [Value.int .i64 0, Value.int .i64 0] 25, Res.box blk2 [Value.int .i64 a0, Value.int .i64 a1] 25])) [(0, .no), (2, .no), (1, .v (Value.int .i64 a1)), (3, .v (.int .i64 (pw b))), (4, .v (.int .i64 (ibits .or .i64 a1 (pw b)))), (5, .no)] 1 #[true, true, true, true, true, true, false] [(25, Value.pointer (some ⟨blk2, 0 + 1, none⟩)), (24, Value.int .i64 (ibits .or .i64 a1 (pw b))), (23, Value.int .i64 (pw b)), (21, Value.int .i64 a1), (22, Value.int .i64 b), (20, Value.pointer (some ⟨blk2, 0 + 1, none⟩))] ((LoadsAt Try.prog (fun x_ => St w x_ [Res.box blk4 [Value.int .i64 0, Value.int .i64 0] 25, Res.box blk2 [Value.int .i64 a0, Value.int .i64 a1] 25]) 3 ⟨blk2, 0 + 1, none⟩ (Value.int .i64 a1)) ∧ ((0 : Int) ≤ b) ∧ (IntKind.wrap .i64 ((1 : Int) * 2 ^ (min (Int.toNat b) (IntKind.bits .i64))) = (pw b)) ∧ (ibits .or .i64 a1 (pw b) = (ibits .or .i64 a1 (pw b)))) (by kernel_rfl) (Qpanic.then Qpanic.bp) rfl (by kernel_rfl) ⟨(ld_box (i := 1) rfl rfl (by kernel_rfl)), (by omega), hpw11, rfl⟩ hS10 ?_
        refine a_op (i := 6) (fuel := 0) (listed' := #[true, true, true, true, true, true, true]) rfl rfl (by kernel_rfl) (by kernel_rfl) rfl (fun K hK => op_store (d := none) rfl rfl (i := 1) (b := blk2) (off := 0 + 1) (cs := [Value.int .i64 a0, Value.int .i64 a1]) (bt := 25) (by kernel_rfl) (by kernel_rfl) [Value.int .i64 (ibits .or .i64 a1 (pw b))] (by kernel_rfl) (by kernel_rfl) (Nat.le_of_ble_eq_true (by kernel_rfl)) (by kernel_rfl) [Res.box blk4 [Value.int .i64 0, Value.int .i64 0] 25, Res.box blk2 [Value.int .i64 a0, Value.int .i64 (ibits .or .i64 a1 (pw b))] 25] (by kernel_rfl) hS10 (fun w12 hS12 => hK _ _ (fun h => absurd h (by decide)) ?_))
        clear hK K
        refine a_done (by kernel_rfl) ?_
        refine then_n ?_
        refine wp_seq ?_
        refine c_reg ?_
        refine q_seg (S := (fun x_ => St w x_ [Res.box blk4 [Value.int .i64 0, Value.int .i64 0] 25, Res.box blk2 [Value.int .i64 a0, Value.int .i64 (ibits .or .i64 a1 (pw b))] 25])) [(32, Value.agg #[Value.int .i64 a0, Value.int .i64 (ibits .or .i64 a1 (pw b))])] [.v (Value.agg #[Value.int .i64 a0, Value.int .i64 (ibits .or .i64 a1 (pw b))])] ((LoadsAt Try.prog (fun x_ => St w x_ [Res.box blk4 [Value.int .i64 0, Value.int .i64 0] 25, Res.box blk2 [Value.int .i64 a0, Value.int .i64 (ibits .or .i64 a1 (pw b))] 25]) 25 ⟨blk2, 0, none⟩ (Value.agg #[Value.int .i64 a0, Value.int .i64 (ibits .or .i64 a1 (pw b))]))) (by kernel_rfl) (ld_boxN (i := 1) (k := 2) rfl rfl rfl (by kernel_rfl)) hS12 ?_
        refine l_op rfl rfl (fun K hK => op_store (d := none) rfl rfl (i := 0) (b := blk4) (off := 0) (cs := [Value.int .i64 0, Value.int .i64 0]) (bt := 25) (by kernel_rfl) (by kernel_rfl) [Value.int .i64 a0, Value.int .i64 (ibits .or .i64 a1 (pw b))] (by kernel_rfl) (by kernel_rfl) (Nat.le_of_ble_eq_true (by kernel_rfl)) (by kernel_rfl) [Res.box blk4 [Value.int .i64 a0, Value.int .i64 (ibits .or .i64 a1 (pw b))] 25, Res.box blk2 [Value.int .i64 a0, Value.int .i64 (ibits .or .i64 a1 (pw b))] 25] (by kernel_rfl) hS12 (fun w13 hS13 => hK _ _ ?_))
        clear hK K
        refine l_nil rfl ?_
        refine then_n ?_
        refine wp_ret ?_
        exact c_end (S := (fun x_ => St w x_ [Res.box blk4 [Value.int .i64 a0, Value.int .i64 (ibits .or .i64 a1 (pw b))] 25, Res.box blk2 [Value.int .i64 a0, Value.int .i64 (ibits .or .i64 a1 (pw b))] 25])) (rs := [.cell 6 25]) rfl [Value.agg #[Value.int .i64 a0, Value.int .i64 (ibits .or .i64 a1 (pw b))]] (v := Value.agg #[Value.int .i64 a0, Value.int .i64 (ibits .or .i64 a1 (pw b))]) (C := ((LoadsAt Try.prog (fun x_ => St w x_ [Res.box blk4 [Value.int .i64 a0, Value.int .i64 (ibits .or .i64 a1 (pw b))] 25, Res.box blk2 [Value.int .i64 a0, Value.int .i64 (ibits .or .i64 a1 (pw b))] 25]) 25 ⟨blk4, 0, none⟩ (Value.agg #[Value.int .i64 a0, Value.int .i64 (ibits .or .i64 a1 (pw b))])))) (by kernel_rfl) (ld_boxN (i := 0) (k := 2) rfl rfl rfl (by kernel_rfl)) hS13 ((hS13.rv (by simp [setU, *])))
      · skip
        refine c_false (b := c) (by kernel_rfl) hb9 ?_
        refine c_drawn [6] (by kernel_rfl) hS7 (fun w14 hS14 => ?_)
        obtain ⟨hpw15, hpw15a, hpw15b, _⟩ := pw_of (e := b) (by omega) (by omega)
        refine t_seg (S := (fun x_ => St w x_ [Res.box blk4 [Value.int .i64 0, Value.int .i64 0] 25, Res.box blk2 [Value.int .i64 a0, Value.int .i64 a1] 25])) [(0, .no), (2, .no), (1, .v (Value.int .i64 a1)), (3, .v (.int .i64 (pw b))), (4, .v (.int .i64 (ibits .andNot .i64 a1 (pw b)))), (5, .no)] 1 #[true, true, true, true, true, true, false] [(31, Value.pointer (some ⟨blk2, 0 + 1, none⟩)), (30, Value.int .i64 (ibits .andNot .i64 a1 (pw b))), (29, Value.int .i64 (pw b)), (27, Value.int .i64 a1), (28, Value.int .i64 b), (26, Value.pointer (some ⟨blk2, 0 + 1, none⟩))] ((LoadsAt Try.prog (fun x_ => St w x_ [Res.box blk4 [Value.int .i64 0, Value.int .i64 0] 25, Res.box blk2 [Value.int .i64 a0, Value.int .i64 a1] 25]) 3 ⟨blk2, 0 + 1, none⟩ (Value.int .i64 a1)) ∧ ((0 : Int) ≤ b) ∧ (IntKind.wrap .i64 ((1 : Int) * 2 ^ (min (Int.toNat b) (IntKind.bits .i64))) = (pw b)) ∧ (ibits .andNot .i64 a1 (pw b) = (ibits .andNot .i64 a1 (pw b)))) (by kernel_rfl) (Qpanic.then Qpanic.bp) rfl (by kernel_rfl) ⟨(ld_box (i := 1) rfl rfl (by kernel_rfl)), (by omega), hpw15, rfl⟩ hS14 ?_
        refine a_op (i := 6) (fuel := 0) (listed' := #[true, true, true, true, true, true, true]) rfl rfl (by kernel_rfl) (by kernel_rfl) rfl (fun K hK => op_store (d := none) rfl rfl (i := 1) (b := blk2) (off := 0 + 1) (cs := [Value.int .i64 a0, Value.int .i64 a1]) (bt := 25) (by kernel_rfl) (by kernel_rfl) [Value.int .i64 (ibits .andNot .i64 a1 (pw b))] (by kernel_rfl) (by kernel_rfl) (Nat.le_of_ble_eq_true (by kernel_rfl)) (by kernel_rfl) [Res.box blk4 [Value.int .i64 0, Value.int .i64 0] 25, Res.box blk2 [Value.int .i64 a0, Value.int .i64 (ibits .andNot .i64 a1 (pw b))] 25] (by kernel_rfl) hS14 (fun w16 hS16 => hK _ _ (fun h => absurd h (by decide)) ?_))
        clear hK K
        refine a_done (by kernel_rfl) ?_
        refine then_n ?_
        refine wp_seq ?_
        refine c_reg ?_
        refine q_seg (S := (fun x_ => St w x_ [Res.box blk4 [Value.int .i64 0, Value.int .i64 0] 25, Res.box blk2 [Value.int .i64 a0, Value.int .i64 (ibits .andNot .i64 a1 (pw b))] 25])) [(32, Value.agg #[Value.int .i64 a0, Value.int .i64 (ibits .andNot .i64 a1 (pw b))])] [.v (Value.agg #[Value.int .i64 a0, Value.int .i64 (ibits .andNot .i64 a1 (pw b))])] ((LoadsAt Try.prog (fun x_ => St w x_ [Res.box blk4 [Value.int .i64 0, Value.int .i64 0] 25, Res.box blk2 [Value.int .i64 a0, Value.int .i64 (ibits .andNot .i64 a1 (pw b))] 25]) 25 ⟨blk2, 0, none⟩ (Value.agg #[Value.int .i64 a0, Value.int .i64 (ibits .andNot .i64 a1 (pw b))]))) (by kernel_rfl) (ld_boxN (i := 1) (k := 2) rfl rfl rfl (by kernel_rfl)) hS16 ?_
        refine l_op rfl rfl (fun K hK => op_store (d := none) rfl rfl (i := 0) (b := blk4) (off := 0) (cs := [Value.int .i64 0, Value.int .i64 0]) (bt := 25) (by kernel_rfl) (by kernel_rfl) [Value.int .i64 a0, Value.int .i64 (ibits .andNot .i64 a1 (pw b))] (by kernel_rfl) (by kernel_rfl) (Nat.le_of_ble_eq_true (by kernel_rfl)) (by kernel_rfl) [Res.box blk4 [Value.int .i64 a0, Value.int .i64 (ibits .andNot .i64 a1 (pw b))] 25, Res.box blk2 [Value.int .i64 a0, Value.int .i64 (ibits .andNot .i64 a1 (pw b))] 25] (by kernel_rfl) hS16 (fun w17 hS17 => hK _ _ ?_))
        clear hK K
        refine l_nil rfl ?_
        refine then_n ?_
        refine wp_ret ?_
        exact c_end (S := (fun x_ => St w x_ [Res.box blk4 [Value.int .i64 a0, Value.int .i64 (ibits .andNot .i64 a1 (pw b))] 25, Res.box blk2 [Value.int .i64 a0, Value.int .i64 (ibits .andNot .i64 a1 (pw b))] 25])) (rs := [.cell 6 25]) rfl [Value.agg #[Value.int .i64 a0, Value.int .i64 (ibits .andNot .i64 a1 (pw b))]] (v := Value.agg #[Value.int .i64 a0, Value.int .i64 (ibits .andNot .i64 a1 (pw b))]) (C := ((LoadsAt Try.prog (fun x_ => St w x_ [Res.box blk4 [Value.int .i64 a0, Value.int .i64 (ibits .andNot .i64 a1 (pw b))] 25, Res.box blk2 [Value.int .i64 a0, Value.int .i64 (ibits .andNot .i64 a1 (pw b))] 25]) 25 ⟨blk4, 0, none⟩ (Value.agg #[Value.int .i64 a0, Value.int .i64 (ibits .andNot .i64 a1 (pw b))])))) (by kernel_rfl) (ld_boxN (i := 0) (k := 2) rfl rfl rfl (by kernel_rfl)) hS17 ((hS17.rv (by simp [setU, *])))
    · skip
      have hb8p := inR_neg hb8
      refine c_true (b := (!(inR b 0 (a0 - (1 : Int))))) (by kernel_rfl) (nb (v := false) hb8) ?_
      refine wp_seq ?_
      refine c_reg ?_
      refine q_seg (S := (fun x_ => St w x_ [Res.box blk4 [Value.int .i64 0, Value.int .i64 0] 25, Res.box blk2 [Value.int .i64 a0, Value.int .i64 a1] 25])) [(18, Value.agg #[Value.int .i64 a0, Value.int .i64 a1])] [.v (Value.agg #[Value.int .i64 a0, Value.int .i64 a1])] ((LoadsAt Try.prog (fun x_ => St w x_ [Res.box blk4 [Value.int .i64 0, Value.int .i64 0] 25, Res.box blk2 [Value.int .i64 a0, Value.int .i64 a1] 25]) 25 ⟨blk2, 0, none⟩ (Value.agg #[Value.int .i64 a0, Value.int .i64 a1]))) (by kernel_rfl) (ld_boxN (i := 1) (k := 2) rfl rfl rfl (by kernel_rfl)) hS7 ?_
      refine l_op rfl rfl (fun K hK => op_store (d := none) rfl rfl (i := 0) (b := blk4) (off := 0) (cs := [Value.int .i64 0, Value.int .i64 0]) (bt := 25) (by kernel_rfl) (by kernel_rfl) [Value.int .i64 a0, Value.int .i64 a1] (by kernel_rfl) (by kernel_rfl) (Nat.le_of_ble_eq_true (by kernel_rfl)) (by kernel_rfl) [Res.box blk4 [Value.int .i64 a0, Value.int .i64 a1] 25, Res.box blk2 [Value.int .i64 a0, Value.int .i64 a1] 25] (by kernel_rfl) hS7 (fun w18 hS18 => hK _ _ ?_))
      clear hK K
      refine l_nil rfl ?_
      refine then_n ?_
      refine wp_ret ?_
      refine then_r ?_
      exact c_end (S := (fun x_ => St w x_ [Res.box blk4 [Value.int .i64 a0, Value.int .i64 a1] 25, Res.box blk2 [Value.int .i64 a0, Value.int .i64 a1] 25])) (rs := [.cell 6 25]) rfl [Value.agg #[Value.int .i64 a0, Value.int .i64 a1]] (v := Value.agg #[Value.int .i64 a0, Value.int .i64 a1]) (C := ((LoadsAt Try.prog (fun x_ => St w x_ [Res.box blk4 [Value.int .i64 a0, Value.int .i64 a1] 25, Res.box blk2 [Value.int .i64 a0, Value.int .i64 a1] 25]) 25 ⟨blk4, 0, none⟩ (Value.agg #[Value.int .i64 a0, Value.int .i64 a1])))) (by kernel_rfl) (ld_boxN (i := 0) (k := 2) rfl rfl rfl (by kernel_rfl)) hS18 ((hS18.rv (by simp [setU, *])))
  · skip
    refine q_seg (S := (fun x_ => St w x_ [Res.box blk4 [Value.int .i64 0, Value.int .i64 0] 25, Res.box blk2 [Value.int .i64 a0, Value.int .i64 a1] 25])) [(17, Value.bool true), (16, undef), (15, undef), (14, undef), (13, undef), (12, undef), (11, undef)] [.skip, .skip, .skip, .skip, .skip, .skip, .v (.bool true)] (((!(vpool a0 a1)) = !false) ∧ ((!(vpool a0 a1)) = !false) ∧ ((!(vpool a0 a1)) = !false) ∧ ((!(vpool a0 a1)) = !false) ∧ ((!(vpool a0 a1)) = !false) ∧ ((!(vpool a0 a1)) = !false) ∧ ((!(vpool a0 a1)) = true)) (by kernel_rfl) ⟨(nb (v := false) hb6), (nb (v := false) hb6), (nb (v := false) hb6), (nb (v := false) hb6), (nb (v := false) hb6), (nb (v := false) hb6), (nb (v := false) hb6)⟩ hS5 ?_
    refine l_nil rfl ?_
    refine then_n ?_
    refine c_true (b := true) (by kernel_rfl) rfl ?_
    refine wp_seq ?_
    refine c_reg ?_
    refine q_seg (S := (fun x_ => St w x_ [Res.box blk4 [Value.int .i64 0, Value.int .i64 0] 25, Res.box blk2 [Value.int .i64 a0, Value.int .i64 a1] 25])) [(18, Value.agg #[Value.int .i64 a0, Value.int .i64 a1])] [.v (Value.agg #[Value.int .i64 a0, Value.int .i64 a1])] ((LoadsAt Try.prog (fun x_ => St w x_ [Res.box blk4 [Value.int .i64 0, Value.int .i64 0] 25, Res.box blk2 [Value.int .i64 a0, Value.int .i64 a1] 25]) 25 ⟨blk2, 0, none⟩ (Value.agg #[Value.int .i64 a0, Value.int .i64 a1]))) (by kernel_rfl) (ld_boxN (i := 1) (k := 2) rfl rfl rfl (by kernel_rfl)) hS5 ?_
    refine l_op rfl rfl (fun K hK => op_store (d := none) rfl rfl (i := 0) (b := blk4) (off := 0) (cs := [Value.int .i64 0, Value.int .i64 0]) (bt := 25) (by kernel_rfl) (by kernel_rfl) [Value.int .i64 a0, Value.int .i64 a1] (by kernel_rfl) (by kernel_rfl) (Nat.le_of_ble_eq_true (by kernel_rfl)) (by kernel_rfl) [Res.box blk4 [Value.int .i64 a0, Value.int .i64 a1] 25, Res.box blk2 [Value.int .i64 a0, Value.int .i64 a1] 25] (by kernel_rfl) hS5 (fun w19 hS19 => hK _ _ ?_))
    clear hK K
    refine l_nil rfl ?_
    refine then_n ?_
    refine wp_ret ?_
    refine then_r ?_
    exact c_end (S := (fun x_ => St w x_ [Res.box blk4 [Value.int .i64 a0, Value.int .i64 a1] 25, Res.box blk2 [Value.int .i64 a0, Value.int .i64 a1] 25])) (rs := [.cell 6 25]) rfl [Value.agg #[Value.int .i64 a0, Value.int .i64 a1]] (v := Value.agg #[Value.int .i64 a0, Value.int .i64 a1]) (C := ((LoadsAt Try.prog (fun x_ => St w x_ [Res.box blk4 [Value.int .i64 a0, Value.int .i64 a1] 25, Res.box blk2 [Value.int .i64 a0, Value.int .i64 a1] 25]) 25 ⟨blk4, 0, none⟩ (Value.agg #[Value.int .i64 a0, Value.int .i64 a1])))) (by kernel_rfl) (ld_boxN (i := 0) (k := 2) rfl rfl rfl (by kernel_rfl)) hS19 ((hS19.rv (by simp [setU, *])))
theorem SelectServer_i_c (a0 a1 b : Int) (w : World) (hv : vpool a0 a1 = true) (hb : I64 b) : Calls Try.prog 26 #[.agg #[.int .i64 a0, .int .i64 a1], .int .i64 b] w (RetV w (.int .i64 (select a0 a1 b))) := by
  obtain ⟨hv1, hv2, hv3, hv4, hv5⟩ := vpool_bd hv
  obtain ⟨hb1, hb2⟩ := hb
  refine calls_FA Try.func26 rfl (n := 31) rfl (l := [(0, Value.agg #[Value.int .i64 a0, Value.int .i64 a1]), (1, Value.int .i64 b)]) rfl (by simp) (fun g => ?_)
  have hS := St.init w
  refine wp_seq ?_
  refine c_reg ?_
  refine l_op rfl rfl (fun K hK => op_box (d := some 2) rfl rfl [Value.int .i64 a0, Value.int .i64 a1] (by kernel_rfl) hS (fun blk2 w1 hS1 => hK _ _ ?_))
  clear hK K
  refine q_seg (S := (fun x_ => St w x_ [Res.box blk2 [Value.int .i64 a0, Value.int .i64 a1] 25])) [(4, Value.int .i64 0)] [.no] True (by kernel_rfl) trivial hS1 ?_
  refine l_nil rfl ?_
  refine then_n ?_
  refine wp_seq ?_
  refine wp_seq ?_
  refine c_reg ?_
  refine q_seg (S := (fun x_ => St w x_ [Res.box blk2 [Value.int .i64 a0, Value.int .i64 a1] 25])) [(9, Value.agg #[Value.int .i64 a0, Value.int .i64 a1])] [.v (Value.agg #[Value.int .i64 a0, Value.int .i64 a1])] ((LoadsAt Try.prog (fun x_ => St w x_ [Res.box blk2 [Value.int .i64 a0, Value.int .i64 a1] 25]) 25 ⟨blk2, 0, none⟩ (Value.agg #[Value.int .i64 a0, Value.int .i64 a1]))) (by kernel_rfl) (ld_boxN (i := 0) (k := 2) rfl rfl rfl (by kernel_rfl)) hS1 ?_
  refine l_op rfl rfl (fun K hK => op_callv (d := some 10) rfl rfl ⟨_, Try.func15, by kernel_rfl, by kernel_rfl⟩ (vs := [Value.agg #[Value.int .i64 a0, Value.int .i64 a1]]) (by kernel_rfl) (v := Value.bool (vpool a0 a1)) (IsValidPool_i_c a0 a1  _) hS1 (fun w3 hS3 => hK _ _ ?_))
  clear hK K
  refine q_seg (S := (fun x_ => St w x_ [Res.box blk2 [Value.int .i64 a0, Value.int .i64 a1] 25])) [(11, Value.bool (!(vpool a0 a1)))] [.no] True (by kernel_rfl) trivial hS3 ?_
  refine l_nil rfl ?_
  refine then_n ?_
  refine c_false (b := (!(vpool a0 a1))) (by kernel_rfl) (nb (v := true) hv) ?_
  refine wp_skip ?_
  refine then_n ?_
  refine wp_seq ?_
  refine c_reg ?_
  refine q_seg (S := (fun x_ => St w x_ [Res.box blk2 [Value.int .i64 a0, Value.int .i64 a1] 25])) [(5, Value.int .i64 (-1))] [.no] True (by kernel_rfl) trivial hS3 ?_
  refine l_nil rfl ?_
  refine then_n ?_
  refine wp_seq ?_
  refine c_reg ?_
  refine q_seg (S := (fun x_ => St w x_ [Res.box blk2 [Value.int .i64 a0, Value.int .i64 a1] 25])) [(6, Value.int .i64 (-1))] [.no] True (by kernel_rfl) trivial hS3 ?_
  refine l_nil rfl ?_
  refine then_n ?_
  refine wp_seq ?_
  refine wp_seq ?_
  refine c_reg ?_
  refine q_seg (S := (fun x_ => St w x_ [Res.box blk2 [Value.int .i64 a0, Value.int .i64 a1] 25])) [(7, Value.int .i64 0)] [.no] True (by kernel_rfl) trivial hS3 ?_
  refine l_nil rfl ?_
  refine then_n ?_
  refine wp_block ?_
  refine c_loop (X := Nat) (fun (k : Nat) => [(1, Value.int .i64 b), (2, Value.pointer (some ⟨blk2, 0, none⟩)), (5, Value.int .i64 (Prod.fst (selP a0 a1 b k))), (6, Value.int .i64 (Prod.snd (selP a0 a1 b k))), (7, Value.int .i64 ((k : Nat) : Int))]) (fun (k : Nat) (wr : World) => (k ≤ Int.toNat a0) ∧ St w wr [Res.box blk2 [Value.int .i64 a0, Value.int .i64 a1] 25]) (fun (k : Nat) => Int.toNat a0 - k) 0 ?_ ?_ ?_
  · exact (agree_cons (by kernel_rfl) (agree_cons (by kernel_rfl) (agree_cons (by kernel_rfl) (agree_cons (by kernel_rfl) (agree_cons (by kernel_rfl) agree_nil)))))
  · exact ⟨Nat.zero_le _, hS3⟩
  rintro k g5 w4 ⟨hkn, hS4⟩
  have hsb := selP_bd a0 a1 b k
  refine wp_seq ?_
  refine wp_seq ?_
  refine c_reg ?_
  refine q_seg (S := (fun x_ => St w x_ [Res.box blk2 [Value.int .i64 a0, Value.int .i64 a1] 25])) [(15, Value.bool (decide (((k : Nat) : Int) < a0))), (14, Value.int .i64 a0), (13, Value.pointer (some ⟨blk2, 0 + 0, none⟩)), (12, Value.int .i64 ((k : Nat) : Int))] [.no, .no, .v (Value.int .i64 a0), .no] ((LoadsAt Try.prog (fun x_ => St w x_ [Res.box blk2 [Value.int .i64 a0, Value.int .i64 a1] 25]) 3 ⟨blk2, 0 + 0, none⟩ (Value.int .i64 a0))) (by kernel_rfl) (ld_box (i := 0) rfl rfl (by kernel_rfl)) hS4 ?_
  refine l_nil rfl ?_
  refine then_n ?_
  rcases Bool.eq_false_or_eq_true (decide (((k : Nat) : Int) < a0)) with hb6 | hb6
  · skip
    have hb6p := of_decide_eq_true hb6
    refine c_true (b := (decide (((k : Nat) : Int) < a0))) (by kernel_rfl) hb6 ?_
    refine wp_skip ?_
    refine then_n ?_
    refine wp_seq ?_
    refine wp_block ?_
    refine wp_seq ?_
    refine wp_seq ?_
    refine c_reg ?_
    refine q_seg (S := (fun x_ => St w x_ [Res.box blk2 [Value.int .i64 a0, Value.int .i64 a1] 25])) [(19, Value.int .i64 ((k : Nat) : Int)), (18, Value.agg #[Value.int .i64 a0, Value.int .i64 a1])] [.v (Value.agg #[Value.int .i64 a0, Value.int .i64 a1]), .no] ((LoadsAt Try.prog (fun x_ => St w x_ [Res.box blk2 [Value.int .i64 a0, Value.int .i64 a1] 25]) 25 ⟨blk2, 0, none⟩ (Value.agg #[Value.int .i64 a0, Value.int .i64 a1]))) (by kernel_rfl) (ld_boxN (i := 0) (k := 2) rfl rfl rfl (by kernel_rfl)) hS4 ?_
    refine l_op rfl rfl (fun K hK => op_callv (d := some 20) rfl rfl ⟨_, Try.func17, by kernel_rfl, by kernel_rfl⟩ (vs := [Value.agg #[Value.int .i64 a0, Value.int .i64 a1], Value.int .i64 ((k : Nat) : Int)]) (by kernel_rfl) (v := Value.bool (upB a0 a1 ((k : Nat) : Int))) (IsServerUp_i_c a0 a1 ((k : Nat) : Int)  _) hS4 (fun w7 hS7 => hK _ _ ?_))
    clear hK K
    refine q_seg (S := (fun x_ => St w x_ [Res.box blk2 [Value.int .i64 a0, Value.int .i64 a1] 25])) [(21, Value.bool (!(upB a0 a1 ((k : Nat) : Int))))] [.no] True (by kernel_rfl) trivial hS7 ?_
    refine l_nil rfl ?_
    refine then_n ?_
    rcases Bool.eq_false_or_eq_true (upB a0 a1 ((k : Nat) : Int)) with hb8 | hb8
    · skip
      refine c_false (b := (!(upB a0 a1 ((k : Nat) : Int)))) (by kernel_rfl) (nb (v := true) hb8) ?_
      refine wp_skip ?_
      refine then_n ?_
      refine wp_seq ?_
      refine c_reg ?_
      refine q_seg (S := (fun x_ => St w x_ [Res.box blk2 [Value.int .i64 a0, Value.int .i64 a1] 25])) [(23, Value.int .i64 b), (22, Value.int .i64 ((k : Nat) : Int))] [.no, .no] True (by kernel_rfl) trivial hS7 ?_
      refine l_op rfl rfl (fun K hK => op_callv (d := some 24) rfl rfl ⟨_, Try.func19, by kernel_rfl, by kernel_rfl⟩ (vs := [Value.int .i64 ((k : Nat) : Int), Value.int .i64 b]) (by kernel_rfl) (v := Value.int .i64 (rweight ((k : Nat) : Int) b)) (RendezvousWeight_i_c ((k : Nat) : Int) b (i64 (by omega) (by omega)) (i64 (by omega) (by omega)) _) hS7 (fun w9 hS9 => hK _ _ ?_))
      clear hK K
      have hrwq10 := rweight_bd ((k : Nat) : Int) b
      refine q_seg (S := (fun x_ => St w x_ [Res.box blk2 [Value.int .i64 a0, Value.int .i64 a1] 25])) [(8, Value.int .i64 (rweight ((k : Nat) : Int) b))] [.no] True (by kernel_rfl) trivial hS9 ?_
      refine l_nil rfl ?_
      refine then_n ?_
      refine wp_seq ?_
      refine c_reg ?_
      refine q_seg (S := (fun x_ => St w x_ [Res.box blk2 [Value.int .i64 a0, Value.int .i64 a1] 25])) [(27, Value.bool (decide ((Prod.snd (selP a0 a1 b k)) < (rweight ((k : Nat) : Int) b)))), (26, Value.int .i64 (Prod.snd (selP a0 a1 b k))), (25, Value.int .i64 (rweight ((k : Nat) : Int) b))] [.no, .no, .no] True (by kernel_rfl) trivial hS9 ?_
      refine l_nil rfl ?_
      refine then_n ?_
      rcases Bool.eq_false_or_eq_true (decide ((Prod.snd (selP a0 a1 b k)) < (rweight ((k : Nat) : Int) b))) with hb11 | hb11
      · skip
        have hb11p := of_decide_eq_true hb11
        refine c_true (b := (decide ((Prod.snd (selP a0 a1 b k)) < (rweight ((k : Nat) : Int) b)))) (by kernel_rfl) hb11 ?_
        refine wp_seq ?_
        refine c_reg ?_
        refine q_seg (S := (fun x_ => St w x_ [Res.box blk2 [Value.int .i64 a0, Value.int .i64 a1] 25])) [(5, Value.int .i64 ((k : Nat) : Int)), (28, Value.int .i64 ((k : Nat) : Int))] [.no, .no] True (by kernel_rfl) trivial hS9 ?_
        refine l_nil rfl ?_
        refine then_n ?_
        refine c_reg ?_
        refine q_seg (S := (fun x_ => St w x_ [Res.box blk2 [Value.int .i64 a0, Value.int .i64 a1] 25])) [(6, Value.int .i64 (rweight ((k : Nat) : Int) b)), (29, Value.int .i64 (rweight ((k : Nat) : Int) b))] [.no, .no] True (by kernel_rfl) trivial hS9 ?_
        refine l_nil rfl ?_
        refine blk_n ?_
        refine then_n ?_
        refine c_reg ?_
        refine q_seg (S := (fun x_ => St w x_ [Res.box blk2 [Value.int .i64 a0, Value.int .i64 a1] 25])) [(7, Value.int .i64 (((k : Nat) : Int) + (1 : Int))), (17, Value.int .i64 (((k : Nat) : Int) + (1 : Int))), (16, Value.int .i64 ((k : Nat) : Int))] [.no, .no, .no] ((InK .i64 (((k : Nat) : Int) + (1 : Int)))) (by kernel_rfl) (in64 (by omega) (by omega)) hS9 ?_
        refine l_nil rfl ?_
        refine then_n ?_
        have hsp := selP_take hb8 hb11p
        refine round_end (k + 1) ?_ ?_ ?_
        · exact (agree_cons (by kernel_rfl) (agree_cons (by kernel_rfl) (agree_eq (v0 := Value.int .i64 ((k : Nat) : Int)) (by kernel_rfl) (congrArg (fun p => Value.int .i64 p.1) hsp.symm) (agree_eq (v0 := Value.int .i64 (rweight ((k : Nat) : Int) b)) (by kernel_rfl) (congrArg (fun p => Value.int .i64 p.2) hsp.symm) (agree_cons (by kernel_rfl) agree_nil)))))
        · exact ⟨(by omega), hS9⟩
        · exact (by first | omega | (dsimp only; omega))
      · skip
        have hb11p := of_decide_eq_false hb11
        refine c_false (b := (decide ((Prod.snd (selP a0 a1 b k)) < (rweight ((k : Nat) : Int) b)))) (by kernel_rfl) hb11 ?_
        refine wp_skip ?_
        refine blk_n ?_
        refine then_n ?_
        refine c_reg ?_
        refine q_seg (S := (fun x_ => St w x_ [Res.box blk2 [Value.int .i64 a0, Value.int .i64 a1] 25])) [(7, Value.int .i64 (((k : Nat) : Int) + (1 : Int))), (17, Value.int .i64 (((k : Nat) : Int) + (1 : Int))), (16, Value.int .i64 ((k : Nat) : Int))] [.no, .no, .no] ((InK .i64 (((k : Nat) : Int) + (1 : Int)))) (by kernel_rfl) (in64 (by omega) (by omega)) hS9 ?_
        refine l_nil rfl ?_
        refine then_n ?_
        have hsp := selP_keep hb11p
        refine round_end (k + 1) ?_ ?_ ?_
        · exact (agree_cons (by kernel_rfl) (agree_cons (by kernel_rfl) (agree_eq (v0 := Value.int .i64 (Prod.fst (selP a0 a1 b k))) (by kernel_rfl) (congrArg (fun p => Value.int .i64 p.1) hsp.symm) (agree_eq (v0 := Value.int .i64 (Prod.snd (selP a0 a1 b k))) (by kernel_rfl) (congrArg (fun p => Value.int .i64 p.2) hsp.symm) (agree_cons (by kernel_rfl) agree_nil)))))
        · exact ⟨(by omega), hS9⟩
        · exact (by first | omega | (dsimp only; omega))
    · skip
      refine c_true (b := (!(upB a0 a1 ((k : Nat) : Int)))) (by kernel_rfl) (nb (v := false) hb8) ?_
      refine wp_exit ?_
      refine then_x ?_
      refine blk_hit ?_
      refine then_n ?_
      refine c_reg ?_
      refine q_seg (S := (fun x_ => St w x_ [Res.box blk2 [Value.int .i64 a0, Value.int .i64 a1] 25])) [(7, Value.int .i64 (((k : Nat) : Int) + (1 : Int))), (17, Value.int .i64 (((k : Nat) : Int) + (1 : Int))), (16, Value.int .i64 ((k : Nat) : Int))] [.no, .no, .no] ((InK .i64 (((k : Nat) : Int) + (1 : Int)))) (by kernel_rfl) (in64 (by omega) (by omega)) hS7 ?_
      refine l_nil rfl ?_
      refine then_n ?_
      have hsp := selP_skip (key := b) hb8
      refine round_end (k + 1) ?_ ?_ ?_
      · exact (agree_cons (by kernel_rfl) (agree_cons (by kernel_rfl) (agree_eq (v0 := Value.int .i64 (Prod.fst (selP a0 a1 b k))) (by kernel_rfl) (congrArg (fun p => Value.int .i64 p.1) hsp.symm) (agree_eq (v0 := Value.int .i64 (Prod.snd (selP a0 a1 b k))) (by kernel_rfl) (congrArg (fun p => Value.int .i64 p.2) hsp.symm) (agree_cons (by kernel_rfl) agree_nil)))))
      · exact ⟨(by omega), hS7⟩
      · exact (by first | omega | (dsimp only; omega))
  · skip
    have hb6p := of_decide_eq_false hb6
    refine c_false (b := (decide (((k : Nat) : Int) < a0))) (by kernel_rfl) hb6 ?_
    refine wp_exit ?_
    refine then_x ?_
    refine then_x ?_
    refine blk_hit ?_
    refine then_n ?_
    refine wp_seq ?_
    refine c_reg ?_
    refine q_seg (S := (fun x_ => St w x_ [Res.box blk2 [Value.int .i64 a0, Value.int .i64 a1] 25])) [(4, Value.int .i64 (Prod.fst (selP a0 a1 b k))), (30, Value.int .i64 (Prod.fst (selP a0 a1 b k)))] [.no, .no] True (by kernel_rfl) trivial hS4 ?_
    refine l_nil rfl ?_
    refine then_n ?_
    refine wp_ret ?_
    have hkn2 : k = Int.toNat a0 := by omega
    exact c_end (S := (fun x_ => St w x_ [Res.box blk2 [Value.int .i64 a0, Value.int .i64 a1] 25])) (rs := [.tmp 4]) rfl [] (v := Value.int .i64 (Prod.fst (selP a0 a1 b k))) (C := True) (by kernel_rfl) trivial hS4 ((hS4.rv (congrArg (Value.int .i64) (by rw [select_eq hv, hkn2]))))
theorem SelectServer_s_c (a0 a1 b : Int) (w : World) (hv : vpool a0 a1 = true) (hb : I64 b) : Calls Try.prog 25 #[.agg #[.int .i64 a0, .int .i64 a1], .int .i64 b] w (RetV w (.int .i64 (select a0 a1 b))) := by
  obtain ⟨hv1, hv2, hv3, hv4, hv5⟩ := vpool_bd hv
  obtain ⟨hb1, hb2⟩ := hb
  refine calls_FA Try.func25 rfl (n := 35) rfl (l := [(0, Value.agg #[Value.int .i64 a0, Value.int .i64 a1]), (1, Value.int .i64 b)]) rfl (by simp) (fun g => ?_)
  have hS := St.init w
  refine wp_seq ?_
  refine c_reg ?_
  refine l_op rfl rfl (fun K hK => op_box (d := some 2) rfl rfl [Value.int .i64 a0, Value.int .i64 a1] (by kernel_rfl) hS (fun blk2 w1 hS1 => hK _ _ ?_))
  clear hK K
  refine q_seg (S := (fun x_ => St w x_ [Res.box blk2 [Value.int .i64 a0, Value.int .i64 a1] 25])) [(4, Value.int .i64 0)] [.no] True (by kernel_rfl) trivial hS1 ?_
  refine l_nil rfl ?_
  refine then_n ?_
  refine wp_seq ?_
  refine c_reg ?_
  refine q_seg (S := (fun x_ => St w x_ [Res.box blk2 [Value.int .i64 a0, Value.int .i64 a1] 25])) [(5, Value.int .i64 (-1))] [.no] True (by kernel_rfl) trivial hS1 ?_
  refine l_nil rfl ?_
  refine then_n ?_
  refine wp_seq ?_
  refine wp_seq ?_
  refine c_reg ?_
  refine q_seg (S := (fun x_ => St w x_ [Res.box blk2 [Value.int .i64 a0, Value.int .i64 a1] 25])) [(6, Value.int .i64 0)] [.no] True (by kernel_rfl) trivial hS1 ?_
  refine l_nil rfl ?_
  refine then_n ?_
  refine wp_block ?_
  refine c_loop (X := Nat) (fun (k : Nat) => [(1, Value.int .i64 b), (2, Value.pointer (some ⟨blk2, 0, none⟩)), (5, Value.int .i64 (Prod.fst (selP a0 a1 b k))), (6, Value.int .i64 ((k : Nat) : Int))]) (fun (k : Nat) (wr : World) => (k ≤ Int.toNat a0) ∧ St w wr [Res.box blk2 [Value.int .i64 a0, Value.int .i64 a1] 25]) (fun (k : Nat) => Int.toNat a0 - k) 0 ?_ ?_ ?_
  · exact (agree_cons (by kernel_rfl) (agree_cons (by kernel_rfl) (agree_cons (by kernel_rfl) (agree_cons (by kernel_rfl) agree_nil))))
  · exact ⟨Nat.zero_le _, hS1⟩
  rintro k g4 w3 ⟨hkn, hS3⟩
  have hsb := selP_bd a0 a1 b k
  refine wp_seq ?_
  refine wp_seq ?_
  refine c_reg ?_
  refine q_seg (S := (fun x_ => St w x_ [Res.box blk2 [Value.int .i64 a0, Value.int .i64 a1] 25])) [(11, Value.bool (decide (((k : Nat) : Int) < a0))), (10, Value.bool (decide (((k : Nat) : Int) < a0))), (9, Value.int .i64 a0), (8, Value.pointer (some ⟨blk2, 0 + 0, none⟩)), (7, Value.int .i64 ((k : Nat) : Int))] [.no, .no, .v (Value.int .i64 a0), .no, .no] ((LoadsAt Try.prog (fun x_ => St w x_ [Res.box blk2 [Value.int .i64 a0, Value.int .i64 a1] 25]) 3 ⟨blk2, 0 + 0, none⟩ (Value.int .i64 a0))) (by kernel_rfl) (ld_box (i := 0) rfl rfl (by kernel_rfl)) hS3 ?_
  rcases Bool.eq_false_or_eq_true (decide (((k : Nat) : Int) < a0)) with hb5 | hb5
  · skip
    have hb5p := of_decide_eq_true hb5
    refine q_seg (S := (fun x_ => St w x_ [Res.box blk2 [Value.int .i64 a0, Value.int .i64 a1] 25])) [(14, Value.bool (decide (((k : Nat) : Int) < (6 : Int)))), (13, Value.bool (decide (((k : Nat) : Int) < (6 : Int)))), (12, Value.int .i64 ((k : Nat) : Int))] [.no, .no, .v (.bool true)] (((decide (((k : Nat) : Int) < a0)) = true) ∧ ((decide (((k : Nat) : Int) < a0)) = true) ∧ ((decide (((k : Nat) : Int) < a0)) = true)) (by kernel_rfl) ⟨hb5, hb5, hb5⟩ hS3 ?_
    refine l_nil rfl ?_
    refine then_n ?_
    rcases Bool.eq_false_or_eq_true (decide (((k : Nat) : Int) < (6 : Int))) with hb6 | hb6
    · skip
      have hb6p := of_decide_eq_true hb6
      refine c_true (b := (decide (((k : Nat) : Int) < (6 : Int)))) (by kernel_rfl) hb6 ?_
      refine wp_skip ?_
      refine then_n ?_
      refine wp_seq ?_
      refine wp_block ?_
      refine wp_seq ?_
      refine c_reg ?_
      refine q_seg (S := (fun x_ => St w x_ [Res.box blk2 [Value.int .i64 a0, Value.int .i64 a1] 25])) [(18, Value.int .i64 ((k : Nat) : Int)), (17, Value.agg #[Value.int .i64 a0, Value.int .i64 a1])] [.v (Value.agg #[Value.int .i64 a0, Value.int .i64 a1]), .no] ((LoadsAt Try.prog (fun x_ => St w x_ [Res.box blk2 [Value.int .i64 a0, Value.int .i64 a1] 25]) 25 ⟨blk2, 0, none⟩ (Value.agg #[Value.int .i64 a0, Value.int .i64 a1]))) (by kernel_rfl) (ld_boxN (i := 0) (k := 2) rfl rfl rfl (by kernel_rfl)) hS3 ?_
      refine l_op rfl rfl (fun K hK => op_callv (d := some 19) rfl rfl ⟨_, Try.func16, by kernel_rfl, by kernel_rfl⟩ (vs := [Value.agg #[Value.int .i64 a0, Value.int .i64 a1], Value.int .i64 ((k : Nat) : Int)]) (by kernel_rfl) (v := Value.bool (upB a0 a1 ((k : Nat) : Int))) (IsServerUp_s_c a0 a1 ((k : Nat) : Int)  _) hS3 (fun w7 hS7 => hK _ _ ?_))
      clear hK K
      refine q_seg (S := (fun x_ => St w x_ [Res.box blk2 [Value.int .i64 a0, Value.int .i64 a1] 25])) [(20, Value.bool (upB a0 a1 ((k : Nat) : Int)))] [.no] True (by kernel_rfl) trivial hS7 ?_
      rcases Bool.eq_false_or_eq_true (upB a0 a1 ((k : Nat) : Int)) with hb8 | hb8
      · skip
        refine q_seg (S := (fun x_ => St w x_ [Res.box blk2 [Value.int .i64 a0, Value.int .i64 a1] 25])) [(23, Value.bool (decide ((Prod.fst (selP a0 a1 b k)) < (0 : Int)))), (22, Value.bool (decide ((Prod.fst (selP a0 a1 b k)) < (0 : Int)))), (21, Value.int .i64 (Prod.fst (selP a0 a1 b k)))] [.no, .no, .no] (((upB a0 a1 ((k : Nat) : Int)) = true) ∧ ((upB a0 a1 ((k : Nat) : Int)) = true) ∧ ((upB a0 a1 ((k : Nat) : Int)) = true)) (by kernel_rfl) ⟨hb8, hb8, hb8⟩ hS7 ?_
        rcases Bool.eq_false_or_eq_true (decide ((Prod.fst (selP a0 a1 b k)) < (0 : Int))) with hb9 | hb9
        · skip
          have hb9p := of_decide_eq_true hb9
          refine q_seg (S := (fun x_ => St w x_ [Res.box blk2 [Value.int .i64 a0, Value.int .i64 a1] 25])) [(32, Value.bool true), (31, Value.bool true), (30, undef), (29, undef), (28, undef), (27, undef), (26, undef), (25, undef), (24, undef)] [.skip, .skip, .skip, .skip, .skip, .skip, .skip, .v (.bool true), .v (.bool true)] (((decide ((Prod.fst (selP a0 a1 b k)) < (0 : Int))) = !false) ∧ ((decide ((Prod.fst (selP a0 a1 b k)) < (0 : Int))) = !false) ∧ ((decide ((Prod.fst (selP a0 a1 b k)) < (0 : Int))) = !false) ∧ ((decide ((Prod.fst (selP a0 a1 b k)) < (0 : Int))) = !false) ∧ ((decide ((Prod.fst (selP a0 a1 b k)) < (0 : Int))) = !false) ∧ ((decide ((Prod.fst (selP a0 a1 b k)) < (0 : Int))) = !false) ∧ ((decide ((Prod.fst (selP a0 a1 b k)) < (0 : Int))) = !false) ∧ ((upB a0 a1 ((k : Nat) : Int)) = true) ∧ ((decide ((Prod.fst (selP a0 a1 b k)) < (0 : Int))) = true) ∧ ((upB a0 a1 ((k : Nat) : Int)) = true)) (by kernel_rfl) ⟨hb9, hb9, hb9, hb9, hb9, hb9, hb9, hb8, hb9, hb8⟩ hS7 ?_
          refine l_nil rfl ?_
          refine then_n ?_
          refine c_true (b := true) (by kernel_rfl) rfl ?_
          refine c_reg ?_
          refine q_seg (S := (fun x_ => St w x_ [Res.box blk2 [Value.int .i64 a0, Value.int .i64 a1] 25])) [(5, Value.int .i64 ((k : Nat) : Int)), (33, Value.int .i64 ((k : Nat) : Int))] [.no, .no] True (by kernel_rfl) trivial hS7 ?_
          refine l_nil rfl ?_
          refine blk_n ?_
          refine then_n ?_
          refine c_reg ?_
          refine q_seg (S := (fun x_ => St w x_ [Res.box blk2 [Value.int .i64 a0, Value.int .i64 a1] 25])) [(6, Value.int .i64 (((k : Nat) : Int) + (1 : Int))), (16, Value.int .i64 (((k : Nat) : Int) + (1 : Int))), (15, Value.int .i64 ((k : Nat) : Int))] [.no, .no, .no] ((InK .i64 (((k : Nat) : Int) + (1 : Int)))) (by kernel_rfl) (in64 (by omega) (by omega)) hS7 ?_
          refine l_nil rfl ?_
          refine then_n ?_
          have hsp := selP_first hb8 hb9p
          refine round_end (k + 1) ?_ ?_ ?_
          · exact (agree_cons (by kernel_rfl) (agree_cons (by kernel_rfl) (agree_eq (v0 := Value.int .i64 ((k : Nat) : Int)) (by kernel_rfl) (congrArg (fun p => Value.int .i64 p.1) hsp.symm) (agree_cons (by kernel_rfl) agree_nil))))
          · exact ⟨(by omega), hS7⟩
          · exact (by first | omega | (dsimp only; omega))
        · skip
          have hb9p := of_decide_eq_false hb9
          refine q_seg (S := (fun x_ => St w x_ [Res.box blk2 [Value.int .i64 a0, Value.int .i64 a1] 25])) [(25, Value.int .i64 b), (24, Value.int .i64 ((k : Nat) : Int))] [.no, .no] (((decide ((Prod.fst (selP a0 a1 b k)) < (0 : Int))) = false) ∧ ((decide ((Prod.fst (selP a0 a1 b k)) < (0 : Int))) = false)) (by kernel_rfl) ⟨hb9, hb9⟩ hS7 ?_
          refine l_opg rfl (b := (decide ((Prod.fst (selP a0 a1 b k)) < (0 : Int)))) (want := false) (by kernel_rfl) hb9 (fun K hK => op_callv (d := some 26) rfl rfl ⟨_, Try.func18, by kernel_rfl, by kernel_rfl⟩ (vs := [Value.int .i64 ((k : Nat) : Int), Value.int .i64 b]) (by kernel_rfl) (v := Value.int .i64 (rweight ((k : Nat) : Int) b)) (RendezvousWeight_s_c ((k : Nat) : Int) b (i64 (by omega) (by omega)) (i64 (by omega) (by omega)) _) hS7 (fun w10 hS10 => hK _ _ ?_))
          clear hK K
          have hrwq11 := rweight_bd ((k : Nat) : Int) b
          refine q_seg (S := (fun x_ => St w x_ [Res.box blk2 [Value.int .i64 a0, Value.int .i64 a1] 25])) [(28, Value.int .i64 b), (27, Value.int .i64 (Prod.fst (selP a0 a1 b k)))] [.no, .no] (((decide ((Prod.fst (selP a0 a1 b k)) < (0 : Int))) = false) ∧ ((decide ((Prod.fst (selP a0 a1 b k)) < (0 : Int))) = false)) (by kernel_rfl) ⟨hb9, hb9⟩ hS10 ?_
          refine l_opg rfl (b := (decide ((Prod.fst (selP a0 a1 b k)) < (0 : Int)))) (want := false) (by kernel_rfl) hb9 (fun K hK => op_callv (d := some 29) rfl rfl ⟨_, Try.func18, by kernel_rfl, by kernel_rfl⟩ (vs := [Value.int .i64 (Prod.fst (selP a0 a1 b k)), Value.int .i64 b]) (by kernel_rfl) (v := Value.int .i64 (rweight (Prod.fst (selP a0 a1 b k)) b)) (RendezvousWeight_s_c (Prod.fst (selP a0 a1 b k)) b (i64 (by omega) (by omega)) (i64 (by omega) (by omega)) _) hS10 (fun w12 hS12 => hK _ _ ?_))
          clear hK K
          have hrwq13 := rweight_bd (Prod.fst (selP a0 a1 b k)) b
          refine q_seg (S := (fun x_ => St w x_ [Res.box blk2 [Value.int .i64 a0, Value.int .i64 a1] 25])) [(32, Value.bool (decide ((rweight (Prod.fst (selP a0 a1 b k)) b) < (rweight ((k : Nat) : Int) b)))), (31, Value.bool (decide ((rweight (Prod.fst (selP a0 a1 b k)) b) < (rweight ((k : Nat) : Int) b)))), (30, Value.bool (decide ((rweight (Prod.fst (selP a0 a1 b k)) b) < (rweight ((k : Nat) : Int) b))))] [.no, .v (.bool false), .v (.bool true)] (((decide ((Prod.fst (selP a0 a1 b k)) < (0 : Int))) = false) ∧ ((upB a0 a1 ((k : Nat) : Int)) = true) ∧ ((decide ((Prod.fst (selP a0 a1 b k)) < (0 : Int))) = false) ∧ ((upB a0 a1 ((k : Nat) : Int)) = true)) (by kernel_rfl) ⟨hb9, hb8, hb9, hb8⟩ hS12 ?_
          refine l_nil rfl ?_
          refine then_n ?_
          rcases Bool.eq_false_or_eq_true (decide ((rweight (Prod.fst (selP a0 a1 b k)) b) < (rweight ((k : Nat) : Int) b))) with hb14 | hb14
          · skip
            have hb14p := of_decide_eq_true hb14
            refine c_true (b := (decide ((rweight (Prod.fst (selP a0 a1 b k)) b) < (rweight ((k : Nat) : Int) b)))) (by kernel_rfl) hb14 ?_
            refine c_reg ?_
            refine q_seg (S := (fun x_ => St w x_ [Res.box blk2 [Value.int .i64 a0, Value.int .i64 a1] 25])) [(5, Value.int .i64 ((k : Nat) : Int)), (33, Value.int .i64 ((k : Nat) : Int))] [.no, .no] True (by kernel_rfl) trivial hS12 ?_
            refine l_nil rfl ?_
            refine blk_n ?_
            refine then_n ?_
            refine c_reg ?_
            refine q_seg (S := (fun x_ => St w x_ [Res.box blk2 [Value.int .i64 a0, Value.int .i64 a1] 25])) [(6, Value.int .i64 (((k : Nat) : Int) + (1 : Int))), (16, Value.int .i64 (((k : Nat) : Int) + (1 : Int))), (15, Value.int .i64 ((k : Nat) : Int))] [.no, .no, .no] ((InK .i64 (((k : Nat) : Int) + (1 : Int)))) (by kernel_rfl) (in64 (by omega) (by omega)) hS12 ?_
            refine l_nil rfl ?_
            refine then_n ?_
            have hsp := selP_more hb8 hb9p hb14p
            refine round_end (k + 1) ?_ ?_ ?_
            · exact (agree_cons (by kernel_rfl) (agree_cons (by kernel_rfl) (agree_eq (v0 := Value.int .i64 ((k : Nat) : Int)) (by kernel_rfl) (congrArg (fun p => Value.int .i64 p.1) hsp.symm) (agree_cons (by kernel_rfl) agree_nil))))
            · exact ⟨(by omega), hS12⟩
            · exact (by first | omega | (dsimp only; omega))
          · skip
            have hb14p := of_decide_eq_false hb14
            refine c_false (b := (decide ((rweight (Prod.fst (selP a0 a1 b k)) b) < (rweight ((k : Nat) : Int) b)))) (by kernel_rfl) hb14 ?_
            refine wp_skip ?_
            refine blk_n ?_
            refine then_n ?_
            refine c_reg ?_
            refine q_seg (S := (fun x_ => St w x_ [Res.box blk2 [Value.int .i64 a0, Value.int .i64 a1] 25])) [(6, Value.int .i64 (((k : Nat) : Int) + (1 : Int))), (16, Value.int .i64 (((k : Nat) : Int) + (1 : Int))), (15, Value.int .i64 ((k : Nat) : Int))] [.no, .no, .no] ((InK .i64 (((k : Nat) : Int) + (1 : Int)))) (by kernel_rfl) (in64 (by omega) (by omega)) hS12 ?_
            refine l_nil rfl ?_
            refine then_n ?_
            have hsp := selP_less hb9p hb14p
            refine round_end (k + 1) ?_ ?_ ?_
            · exact (agree_cons (by kernel_rfl) (agree_cons (by kernel_rfl) (agree_eq (v0 := Value.int .i64 (Prod.fst (selP a0 a1 b k))) (by kernel_rfl) (congrArg (fun p => Value.int .i64 p.1) hsp.symm) (agree_cons (by kernel_rfl) agree_nil))))
            · exact ⟨(by omega), hS12⟩
            · exact (by first | omega | (dsimp only; omega))
      · skip
        refine q_seg (S := (fun x_ => St w x_ [Res.box blk2 [Value.int .i64 a0, Value.int .i64 a1] 25])) [(32, Value.bool false), (31, undef), (30, undef), (29, undef), (28, undef), (27, undef), (26, undef), (25, undef), (24, undef), (23, undef), (22, undef), (21, undef)] [.skip, .skip, .skip, .skip, .skip, .skip, .skip, .skip, .skip, .skip, .skip, .v (.bool false)] (((upB a0 a1 ((k : Nat) : Int)) = !true) ∧ ((upB a0 a1 ((k : Nat) : Int)) = !true) ∧ ((upB a0 a1 ((k : Nat) : Int)) = !true) ∧ ((upB a0 a1 ((k : Nat) : Int)) = !true) ∧ ((upB a0 a1 ((k : Nat) : Int)) = false)) (by kernel_rfl) ⟨hb8, hb8, hb8, hb8, hb8⟩ hS7 ?_
        refine l_nil rfl ?_
        refine then_n ?_
        refine c_false (b := false) (by kernel_rfl) rfl ?_
        refine wp_skip ?_
        refine blk_n ?_
        refine then_n ?_
        refine c_reg ?_
        refine q_seg (S := (fun x_ => St w x_ [Res.box blk2 [Value.int .i64 a0, Value.int .i64 a1] 25])) [(6, Value.int .i64 (((k : Nat) : Int) + (1 : Int))), (16, Value.int .i64 (((k : Nat) : Int) + (1 : Int))), (15, Value.int .i64 ((k : Nat) : Int))] [.no, .no, .no] ((InK .i64 (((k : Nat) : Int) + (1 : Int)))) (by kernel_rfl) (in64 (by omega) (by omega)) hS7 ?_
        refine l_nil rfl ?_
        refine then_n ?_
        have hsp := selP_skip (key := b) hb8
        refine round_end (k + 1) ?_ ?_ ?_
        · exact (agree_cons (by kernel_rfl) (agree_cons (by kernel_rfl) (agree_eq (v0 := Value.int .i64 (Prod.fst (selP a0 a1 b k))) (by kernel_rfl) (congrArg (fun p => Value.int .i64 p.1) hsp.symm) (agree_cons (by kernel_rfl) agree_nil))))
        · exact ⟨(by omega), hS7⟩
        · exact (by first | omega | (dsimp only; omega))
    · skip
      have hb6p := of_decide_eq_false hb6
      refine c_false (b := (decide (((k : Nat) : Int) < (6 : Int)))) (by kernel_rfl) hb6 ?_
      refine wp_exit ?_
      refine then_x ?_
      refine then_x ?_
      refine blk_hit ?_
      refine then_n ?_
      refine wp_seq ?_
      refine c_reg ?_
      refine q_seg (S := (fun x_ => St w x_ [Res.box blk2 [Value.int .i64 a0, Value.int .i64 a1] 25])) [(4, Value.int .i64 (Prod.fst (selP a0 a1 b k))), (34, Value.int .i64 (Prod.fst (selP a0 a1 b k)))] [.no, .no] True (by kernel_rfl) trivial hS3 ?_
      refine l_nil rfl ?_
      refine then_n ?_
      refine wp_ret ?_
      have hkn2 : k = Int.toNat a0 := by omega
      exact c_end (S := (fun x_ => St w x_ [Res.box blk2 [Value.int .i64 a0, Value.int .i64 a1] 25])) (rs := [.tmp 4]) rfl [] (v := Value.int .i64 (Prod.fst (selP a0 a1 b k))) (C := True) (by kernel_rfl) trivial hS3 ((hS3.rv (congrArg (Value.int .i64) (by rw [select_eq hv, hkn2]))))
  · skip
    have hb5p := of_decide_eq_false hb5
    refine q_seg (S := (fun x_ => St w x_ [Res.box blk2 [Value.int .i64 a0, Value.int .i64 a1] 25])) [(14, Value.bool false), (13, undef), (12, undef)] [.skip, .skip, .v (.bool false)] (((decide (((k : Nat) : Int) < a0)) = !true) ∧ ((decide (((k : Nat) : Int) < a0)) = !true) ∧ ((decide (((k : Nat) : Int) < a0)) = false)) (by kernel_rfl) ⟨hb5, hb5, hb5⟩ hS3 ?_
    refine l_nil rfl ?_
    refine then_n ?_
    refine c_false (b := false) (by kernel_rfl) rfl ?_
    refine wp_exit ?_
    refine then_x ?_
    refine then_x ?_
    refine blk_hit ?_
    refine then_n ?_
    refine wp_seq ?_
    refine c_reg ?_
    refine q_seg (S := (fun x_ => St w x_ [Res.box blk2 [Value.int .i64 a0, Value.int .i64 a1] 25])) [(4, Value.int .i64 (Prod.fst (selP a0 a1 b k))), (34, Value.int .i64 (Prod.fst (selP a0 a1 b k)))] [.no, .no] True (by kernel_rfl) trivial hS3 ?_
    refine l_nil rfl ?_
    refine then_n ?_
    refine wp_ret ?_
    have hkn2 : k = Int.toNat a0 := by omega
    exact c_end (S := (fun x_ => St w x_ [Res.box blk2 [Value.int .i64 a0, Value.int .i64 a1] 25])) (rs := [.tmp 4]) rfl [] (v := Value.int .i64 (Prod.fst (selP a0 a1 b k))) (C := True) (by kernel_rfl) trivial hS3 ((hS3.rv (congrArg (Value.int .i64) (by rw [select_eq hv, hkn2]))))
theorem BackupServer_i_c (a0 a1 b : Int) (w : World) (hv : vpool a0 a1 = true) (hb : I64 b) : Calls Try.prog 28 #[.agg #[.int .i64 a0, .int .i64 a1], .int .i64 b] w (RetV w (.int .i64 (backup a0 a1 b))) := by
  obtain ⟨hv1, hv2, hv3, hv4, hv5⟩ := vpool_bd hv
  obtain ⟨hb1, hb2⟩ := hb
  refine calls_FA Try.func28 rfl (n := 12) rfl (l := [(0, Value.agg #[Value.int .i64 a0, Value.int .i64 a1]), (1, Value.int .i64 b)]) rfl (by simp) (fun g => ?_)
  have hS := St.init w
  refine wp_seq ?_
  refine c_reg ?_
  refine l_op rfl rfl (fun K hK => op_box (d := some 2) rfl rfl [Value.int .i64 a0, Value.int .i64 a1] (by kernel_rfl) hS (fun blk2 w1 hS1 => hK _ _ ?_))
  clear hK K
  refine q_seg (S := (fun x_ => St w x_ [Res.box blk2 [Value.int .i64 a0, Value.int .i64 a1] 25])) [(4, Value.int .i64 0)] [.no] True (by kernel_rfl) trivial hS1 ?_
  refine l_nil rfl ?_
  refine then_n ?_
  refine wp_seq ?_
  refine c_drawn [] (by kernel_rfl) hS1 (fun w3 hS3 => ?_)
  refine t_seg (S := (fun x_ => St w x_ [Res.box blk2 [Value.int .i64 a0, Value.int .i64 a1] 25])) [(0, .v (Value.agg #[Value.int .i64 a0, Value.int .i64 a1])), (1, .v (Value.agg #[Value.int .i64 a0, Value.int .i64 a1])), (2, .no), (5, .no)] 4 #[true, true, true, false, false, true, false, false] [(10, Value.int .i64 b), (7, Value.int .i64 b), (6, Value.agg #[Value.int .i64 a0, Value.int .i64 a1]), (5, Value.agg #[Value.int .i64 a0, Value.int .i64 a1])] ((LoadsAt Try.prog (fun x_ => St w x_ [Res.box blk2 [Value.int .i64 a0, Value.int .i64 a1] 25]) 25 ⟨blk2, 0, none⟩ (Value.agg #[Value.int .i64 a0, Value.int .i64 a1])) ∧ (LoadsAt Try.prog (fun x_ => St w x_ [Res.box blk2 [Value.int .i64 a0, Value.int .i64 a1] 25]) 25 ⟨blk2, 0, none⟩ (Value.agg #[Value.int .i64 a0, Value.int .i64 a1]))) (by kernel_rfl) (Qpanic.then Qpanic.bp) rfl (by kernel_rfl) ⟨(ld_boxN (i := 0) (k := 2) rfl rfl rfl (by kernel_rfl)), (ld_boxN (i := 0) (k := 2) rfl rfl rfl (by kernel_rfl))⟩ hS3 ?_
  refine a_op (i := 3) (fuel := 3) (listed' := #[true, true, true, true, false, true, false, false]) rfl rfl (by kernel_rfl) (by kernel_rfl) rfl (fun K hK => op_callv (d := some 8) rfl rfl ⟨_, Try.func26, by kernel_rfl, by kernel_rfl⟩ (vs := [Value.agg #[Value.int .i64 a0, Value.int .i64 a1], Value.int .i64 b]) (by kernel_rfl) (v := Value.int .i64 (select a0 a1 b)) (SelectServer_i_c a0 a1 b w3 hv (i64 (by omega) (by omega))) hS3 (fun w4 hS4 => hK _ _ (fun _ => hS4) ?_))
  clear hK K
  obtain ⟨hsl51, hsl52⟩ := select_bd a0 a1 b
  refine a_op (i := 4) (fuel := 2) (listed' := #[true, true, true, true, true, true, false, false]) rfl rfl (by kernel_rfl) (by kernel_rfl) rfl (fun K hK => op_callv (d := some 9) rfl rfl ⟨_, Try.func23, by kernel_rfl, by kernel_rfl⟩ (vs := [Value.agg #[Value.int .i64 a0, Value.int .i64 a1], Value.int .i64 (select a0 a1 b), Value.bool false]) (by kernel_rfl) (v := Value.agg #[Value.int .i64 a0, Value.int .i64 (setU a0 a1 (select a0 a1 b) false)]) (SetServerUp_i_c a0 a1 (select a0 a1 b) false  _) hS4 (fun w6 hS6 => hK _ _ (fun _ => hS6) ?_))
  clear hK K
  refine a_op (i := 6) (fuel := 1) (listed' := #[true, true, true, true, true, true, true, false]) rfl rfl (by kernel_rfl) (by kernel_rfl) rfl (fun K hK => op_callv (d := some 11) rfl rfl ⟨_, Try.func26, by kernel_rfl, by kernel_rfl⟩ (vs := [Value.agg #[Value.int .i64 a0, Value.int .i64 (setU a0 a1 (select a0 a1 b) false)], Value.int .i64 b]) (by kernel_rfl) (v := Value.int .i64 (select a0 (setU a0 a1 (select a0 a1 b) false) b)) (SelectServer_i_c a0 (setU a0 a1 (select a0 a1 b) false) b w6 (setU_v hv) (i64 (by omega) (by omega))) hS6 (fun w7 hS7 => hK _ _ (fun _ => hS7) ?_))
  clear hK K
  obtain ⟨hsl81, hsl82⟩ := select_bd a0 (setU a0 a1 (select a0 a1 b) false) b
  refine t_seg (S := (fun x_ => St w x_ [Res.box blk2 [Value.int .i64 a0, Value.int .i64 a1] 25])) [(7, .no)] 0 #[true, true, true, true, true, true, true, true] [(4, Value.int .i64 (select a0 (setU a0 a1 (select a0 a1 b) false) b))] True (by kernel_rfl) (Qpanic.then Qpanic.bp) rfl (by kernel_rfl) trivial hS7 ?_
  refine a_done (by kernel_rfl) ?_
  refine then_n ?_
  refine wp_ret ?_
  exact c_end (S := (fun x_ => St w x_ [Res.box blk2 [Value.int .i64 a0, Value.int .i64 a1] 25])) (rs := [.tmp 4]) rfl [] (v := Value.int .i64 (select a0 (setU a0 a1 (select a0 a1 b) false) b)) (C := True) (by kernel_rfl) trivial hS7 ((hS7.rv rfl))
theorem backup_bd (s u key : Int) : -1 ≤ backup s u key ∧ backup s u key ≤ 5 := select_bd _ _ _
theorem FormatPool_i_c (a0 a1 : Int) (w : World) (hv : vpool a0 a1 = true) : Calls Try.prog 21 #[.agg #[.int .i64 a0, .int .i64 a1]] w (RetV w (.string (fmtB a0 a1 (Int.toNat a0)))) := by
  obtain ⟨hv1, hv2, hv3, hv4, hv5⟩ := vpool_bd hv
  refine calls_FA Try.func21 rfl (n := 22) rfl (l := [(0, Value.agg #[Value.int .i64 a0, Value.int .i64 a1])]) rfl (by simp) (fun g => ?_)
  have hS := St.init w
  refine wp_seq ?_
  refine c_reg ?_
  refine l_op rfl rfl (fun K hK => op_box (d := some 1) rfl rfl [Value.int .i64 a0, Value.int .i64 a1] (by kernel_rfl) hS (fun blk2 w1 hS1 => hK _ _ ?_))
  clear hK K
  refine q_seg (S := (fun x_ => St w x_ [Res.box blk2 [Value.int .i64 a0, Value.int .i64 a1] 25])) [(2, Value.string (⟨#[]⟩ : ByteArray))] [.no] True (by kernel_rfl) trivial hS1 ?_
  refine l_nil rfl ?_
  refine then_n ?_
  refine wp_seq ?_
  refine wp_seq ?_
  refine c_reg ?_
  refine q_seg (S := (fun x_ => St w x_ [Res.box blk2 [Value.int .i64 a0, Value.int .i64 a1] 25])) [(5, Value.agg #[Value.int .i64 a0, Value.int .i64 a1])] [.v (Value.agg #[Value.int .i64 a0, Value.int .i64 a1])] ((LoadsAt Try.prog (fun x_ => St w x_ [Res.box blk2 [Value.int .i64 a0, Value.int .i64 a1] 25]) 25 ⟨blk2, 0, none⟩ (Value.agg #[Value.int .i64 a0, Value.int .i64 a1]))) (by kernel_rfl) (ld_boxN (i := 0) (k := 2) rfl rfl rfl (by kernel_rfl)) hS1 ?_
  refine l_op rfl rfl (fun K hK => op_callv (d := some 6) rfl rfl ⟨_, Try.func15, by kernel_rfl, by kernel_rfl⟩ (vs := [Value.agg #[Value.int .i64 a0, Value.int .i64 a1]]) (by kernel_rfl) (v := Value.bool (vpool a0 a1)) (IsValidPool_i_c a0 a1  _) hS1 (fun w3 hS3 => hK _ _ ?_))
  clear hK K
  refine q_seg (S := (fun x_ => St w x_ [Res.box blk2 [Value.int .i64 a0, Value.int .i64 a1] 25])) [(7, Value.bool (!(vpool a0 a1)))] [.no] True (by kernel_rfl) trivial hS3 ?_
  refine l_nil rfl ?_
  refine then_n ?_
  refine c_false (b := (!(vpool a0 a1))) (by kernel_rfl) (nb (v := true) hv) ?_
  refine wp_skip ?_
  refine then_n ?_
  refine wp_seq ?_
  refine c_reg ?_
  refine q_seg (S := (fun x_ => St w x_ [Res.box blk2 [Value.int .i64 a0, Value.int .i64 a1] 25])) [(3, Value.string (⟨#[]⟩ : ByteArray))] [.no] True (by kernel_rfl) trivial hS3 ?_
  refine l_nil rfl ?_
  refine then_n ?_
  refine wp_seq ?_
  refine wp_seq ?_
  refine c_reg ?_
  refine q_seg (S := (fun x_ => St w x_ [Res.box blk2 [Value.int .i64 a0, Value.int .i64 a1] 25])) [(4, Value.int .i64 0)] [.no] True (by kernel_rfl) trivial hS3 ?_
  refine l_nil rfl ?_
  refine then_n ?_
  refine wp_block ?_
  refine c_loop (X := Nat) (fun (k : Nat) => [(1, Value.pointer (some ⟨blk2, 0, none⟩)), (3, Value.string (fmtB a0 a1 k)), (4, Value.int .i64 ((k : Nat) : Int))]) (fun (k : Nat) (wr : World) => (k ≤ Int.toNat a0) ∧ St w wr [Res.box blk2 [Value.int .i64 a0, Value.int .i64 a1] 25]) (fun (k : Nat) => Int.toNat a0 - k) 0 ?_ ?_ ?_
  · exact (agree_cons (by kernel_rfl) (agree_cons (by kernel_rfl) (agree_cons (by kernel_rfl) agree_nil)))
  · exact ⟨Nat.zero_le _, hS3⟩
  rintro k g5 w4 ⟨hkn, hS4⟩
  refine wp_seq ?_
  refine wp_seq ?_
  refine c_reg ?_
  refine q_seg (S := (fun x_ => St w x_ [Res.box blk2 [Value.int .i64 a0, Value.int .i64 a1] 25])) [(11, Value.bool (decide (((k : Nat) : Int) < a0))), (10, Value.int .i64 a0), (9, Value.pointer (some ⟨blk2, 0 + 0, none⟩)), (8, Value.int .i64 ((k : Nat) : Int))] [.no, .no, .v (Value.int .i64 a0), .no] ((LoadsAt Try.prog (fun x_ => St w x_ [Res.box blk2 [Value.int .i64 a0, Value.int .i64 a1] 25]) 3 ⟨blk2, 0 + 0, none⟩ (Value.int .i64 a0))) (by kernel_rfl) (ld_box (i := 0) rfl rfl (by kernel_rfl)) hS4 ?_
  refine l_nil rfl ?_
  refine then_n ?_
  rcases Bool.eq_false_or_eq_true (decide (((k : Nat) : Int) < a0)) with hb6 | hb6
  · skip
    have hb6p := of_decide_eq_true hb6
    refine c_true (b := (decide (((k : Nat) : Int) < a0))) (by kernel_rfl) hb6 ?_
    refine wp_skip ?_
    refine then_n ?_
    refine wp_seq ?_
    refine wp_block ?_
    refine wp_seq ?_
    refine c_reg ?_
    refine q_seg (S := (fun x_ => St w x_ [Res.box blk2 [Value.int .i64 a0, Value.int .i64 a1] 25])) [(15, Value.int .i64 ((k : Nat) : Int)), (14, Value.agg #[Value.int .i64 a0, Value.int .i64 a1])] [.v (Value.agg #[Value.int .i64 a0, Value.int .i64 a1]), .no] ((LoadsAt Try.prog (fun x_ => St w x_ [Res.box blk2 [Value.int .i64 a0, Value.int .i64 a1] 25]) 25 ⟨blk2, 0, none⟩ (Value.agg #[Value.int .i64 a0, Value.int .i64 a1]))) (by kernel_rfl) (ld_boxN (i := 0) (k := 2) rfl rfl rfl (by kernel_rfl)) hS4 ?_
    refine l_op rfl rfl (fun K hK => op_callv (d := some 16) rfl rfl ⟨_, Try.func17, by kernel_rfl, by kernel_rfl⟩ (vs := [Value.agg #[Value.int .i64 a0, Value.int .i64 a1], Value.int .i64 ((k : Nat) : Int)]) (by kernel_rfl) (v := Value.bool (upB a0 a1 ((k : Nat) : Int))) (IsServerUp_i_c a0 a1 ((k : Nat) : Int)  _) hS4 (fun w7 hS7 => hK _ _ ?_))
    clear hK K
    refine l_nil rfl ?_
    refine then_n ?_
    rcases Bool.eq_false_or_eq_true (upB a0 a1 ((k : Nat) : Int)) with hb8 | hb8
    · skip
      refine c_true (b := (upB a0 a1 ((k : Nat) : Int))) (by kernel_rfl) hb8 ?_
      refine c_reg ?_
      refine q_seg (S := (fun x_ => St w x_ [Res.box blk2 [Value.int .i64 a0, Value.int .i64 a1] 25])) [(3, Value.string ((fmtB a0 a1 k) ++ (⟨#[35]⟩ : ByteArray))), (18, Value.string ((fmtB a0 a1 k) ++ (⟨#[35]⟩ : ByteArray))), (17, Value.string (fmtB a0 a1 k))] [.no, .no, .no] ((ByteArray.size (fmtB a0 a1 k) + ByteArray.size (⟨#[35]⟩ : ByteArray) ≤ 9223372036854775807)) (by kernel_rfl) (by rw [fmtB_size]; show k + 1 ≤ _; omega) hS7 ?_
      refine l_nil rfl ?_
      refine blk_n ?_
      refine then_n ?_
      refine c_reg ?_
      refine q_seg (S := (fun x_ => St w x_ [Res.box blk2 [Value.int .i64 a0, Value.int .i64 a1] 25])) [(4, Value.int .i64 (((k : Nat) : Int) + (1 : Int))), (13, Value.int .i64 (((k : Nat) : Int) + (1 : Int))), (12, Value.int .i64 ((k : Nat) : Int))] [.no, .no, .no] ((InK .i64 (((k : Nat) : Int) + (1 : Int)))) (by kernel_rfl) (in64 (by omega) (by omega)) hS7 ?_
      refine l_nil rfl ?_
      refine then_n ?_
      refine round_end (k + 1) ?_ ?_ ?_
      · exact (agree_cons (by kernel_rfl) (agree_eq (v0 := Value.string ((fmtB a0 a1 k) ++ (⟨#[35]⟩ : ByteArray))) (by kernel_rfl) (congrArg Value.string (fmtB_yes hb8).symm) (agree_cons (by kernel_rfl) agree_nil)))
      · exact ⟨(by omega), hS7⟩
      · exact (by first | omega | (dsimp only; omega))
    · skip
      refine c_false (b := (upB a0 a1 ((k : Nat) : Int))) (by kernel_rfl) hb8 ?_
      refine c_reg ?_
      refine q_seg (S := (fun x_ => St w x_ [Res.box blk2 [Value.int .i64 a0, Value.int .i64 a1] 25])) [(3, Value.string ((fmtB a0 a1 k) ++ (⟨#[46]⟩ : ByteArray))), (20, Value.string ((fmtB a0 a1 k) ++ (⟨#[46]⟩ : ByteArray))), (19, Value.string (fmtB a0 a1 k))] [.no, .no, .no] ((ByteArray.size (fmtB a0 a1 k) + ByteArray.size (⟨#[46]⟩ : ByteArray) ≤ 9223372036854775807)) (by kernel_rfl) (by rw [fmtB_size]; show k + 1 ≤ _; omega) hS7 ?_
      refine l_nil rfl ?_
      refine blk_n ?_
      refine then_n ?_
      refine c_reg ?_
      refine q_seg (S := (fun x_ => St w x_ [Res.box blk2 [Value.int .i64 a0, Value.int .i64 a1] 25])) [(4, Value.int .i64 (((k : Nat) : Int) + (1 : Int))), (13, Value.int .i64 (((k : Nat) : Int) + (1 : Int))), (12, Value.int .i64 ((k : Nat) : Int))] [.no, .no, .no] ((InK .i64 (((k : Nat) : Int) + (1 : Int)))) (by kernel_rfl) (in64 (by omega) (by omega)) hS7 ?_
      refine l_nil rfl ?_
      refine then_n ?_
      refine round_end (k + 1) ?_ ?_ ?_
      · exact (agree_cons (by kernel_rfl) (agree_eq (v0 := Value.string ((fmtB a0 a1 k) ++ (⟨#[46]⟩ : ByteArray))) (by kernel_rfl) (congrArg Value.string (fmtB_no hb8).symm) (agree_cons (by kernel_rfl) agree_nil)))
      · exact ⟨(by omega), hS7⟩
      · exact (by first | omega | (dsimp only; omega))
  · skip
    have hb6p := of_decide_eq_false hb6
    refine c_false (b := (decide (((k : Nat) : Int) < a0))) (by kernel_rfl) hb6 ?_
    refine wp_exit ?_
    refine then_x ?_
    refine then_x ?_
    refine blk_hit ?_
    refine then_n ?_
    refine wp_seq ?_
    refine c_reg ?_
    refine q_seg (S := (fun x_ => St w x_ [Res.box blk2 [Value.int .i64 a0, Value.int .i64 a1] 25])) [(2, Value.string (fmtB a0 a1 k)), (21, Value.string (fmtB a0 a1 k))] [.no, .no] True (by kernel_rfl) trivial hS4 ?_
    refine l_nil rfl ?_
    refine then_n ?_
    refine wp_ret ?_
    have hkn2 : k = Int.toNat a0 := by omega
    exact c_end (S := (fun x_ => St w x_ [Res.box blk2 [Value.int .i64 a0, Value.int .i64 a1] 25])) (rs := [.tmp 2]) rfl [] (v := Value.string (fmtB a0 a1 k)) (C := True) (by kernel_rfl) trivial hS4 ((hS4.rv (congrArg Value.string (by rw [hkn2]))))
theorem MovedSessions_i_c (a0 a1 b0 b1 : Int) (A : Option Addr) (n c : Nat) (zs : List Int) (w : World) (hv : vpool a0 a1 = true) (hw : vpool b0 b1 = true) (hz : ∀ z ∈ zs, I64 z) (hn : n ≤ 1048576) (hr : Rd w w.heap.size A n (zs.map (Value.int .i64))) : Calls Try.prog 34 #[.agg #[.int .i64 a0, .int .i64 a1], .agg #[.int .i64 b0, .int .i64 b1], .slice A n c] w (Ret w (fun v new => ∃ (A_ : Option Addr) (c_ : Nat), v = .slice A_ ((moved a0 a1 b0 b1 zs)).length c_ ∧ new = [.row (.slice A_ ((moved a0 a1 b0 b1 zs)).length c_) 3 1 ((moved a0 a1 b0 b1 zs)).length (((moved a0 a1 b0 b1 zs)).map (.int .i64))])) := by
  refine calls_FA Try.func34 rfl (n := 30) rfl (l := [(0, Value.agg #[Value.int .i64 a0, Value.int .i64 a1]), (1, Value.agg #[Value.int .i64 b0, Value.int .i64 b1]), (2, Value.slice A n c)]) rfl (by simp) (fun g => ?_)
  have hS := St.init w
  refine wp_seq ?_
  refine c_reg ?_
  refine l_op rfl rfl (fun K hK => op_box (d := some 3) rfl rfl [Value.int .i64 a0, Value.int .i64 a1] (by kernel_rfl) hS (fun blk2 w1 hS1 => hK _ _ ?_))
  clear hK K
  refine l_op rfl rfl (fun K hK => op_box (d := some 4) rfl rfl [Value.int .i64 b0, Value.int .i64 b1] (by kernel_rfl) hS1 (fun blk4 w3 hS3 => hK _ _ ?_))
  clear hK K
  refine q_seg (S := (fun x_ => St w x_ [Res.box blk4 [Value.int .i64 b0, Value.int .i64 b1] 25, Res.box blk2 [Value.int .i64 a0, Value.int .i64 a1] 25])) [(6, Value.slice none 0 0)] [.no] True (by kernel_rfl) trivial hS3 ?_
  refine l_nil rfl ?_
  refine then_n ?_
  refine wp_seq ?_
  refine c_reg ?_
  refine l_op rfl rfl (fun K hK => op_buildSlice (d := some 10) rfl rfl (e := 3) (by kernel_rfl) 1 (by kernel_rfl) (by decide) (by decide) [] (by kernel_rfl) rfl hS3 (fun blk6 w5 hS5 => hK _ _ ?_))
  clear hK K
  refine q_seg (S := (fun x_ => St w x_ [Res.row (Value.slice (some ⟨blk6, 0, none⟩) 0 0) 3 1 0 ([]), Res.box blk4 [Value.int .i64 b0, Value.int .i64 b1] 25, Res.box blk2 [Value.int .i64 a0, Value.int .i64 a1] 25])) [(7, Value.slice (some ⟨blk6, 0, none⟩) 0 0)] [.no] True (by kernel_rfl) trivial hS5 ?_
  refine l_nil rfl ?_
  refine then_n ?_
  refine wp_seq ?_
  refine wp_seq ?_
  refine c_reg ?_
  refine q_seg (S := (fun x_ => St w x_ [Res.row (Value.slice (some ⟨blk6, 0, none⟩) 0 0) 3 1 0 ([]), Res.box blk4 [Value.int .i64 b0, Value.int .i64 b1] 25, Res.box blk2 [Value.int .i64 a0, Value.int .i64 a1] 25])) [(13, Value.int .i64 0), (12, Value.int .i64 ((n : Nat) : Int)), (11, Value.slice A n c)] [.no, .no, .no] True (by kernel_rfl) trivial hS5 ?_
  refine l_nil rfl ?_
  refine then_n ?_
  refine wp_block ?_
  refine c_loop (X := Nat × Option Addr × Nat) (fun (x_ : Nat × Option Addr × Nat) => match x_ with | (k, A2, c2) => [(3, Value.pointer (some ⟨blk2, 0, none⟩)), (4, Value.pointer (some ⟨blk4, 0, none⟩)), (7, Value.slice A2 (List.length (List.filter (movedB a0 a1 b0 b1) (zs.take k))) c2), (11, Value.slice A n c), (12, Value.int .i64 ((n : Nat) : Int)), (13, Value.int .i64 ((k : Nat) : Int))]) (fun (x_ : Nat × Option Addr × Nat) (wr : World) => match x_ with | (k, A2, c2) => (k ≤ n) ∧ St w wr [Res.row (Value.slice A2 (List.length (List.filter (movedB a0 a1 b0 b1) (zs.take k))) c2) 3 1 (List.length (List.filter (movedB a0 a1 b0 b1) (zs.take k))) ((List.filter (movedB a0 a1 b0 b1) (zs.take k)).map (Value.int .i64)), Res.box blk4 [Value.int .i64 b0, Value.int .i64 b1] 25, Res.box blk2 [Value.int .i64 a0, Value.int .i64 a1] 25]) (fun (x_ : Nat × Option Addr × Nat) => match x_ with | (k, A2, c2) => n - k) ((0, (some ⟨blk6, 0, none⟩), 0)) ?_ ?_ ?_
  · exact (agree_cons (by kernel_rfl) (agree_cons (by kernel_rfl) (agree_cons (by kernel_rfl) (agree_cons (by kernel_rfl) (agree_cons (by kernel_rfl) (agree_cons (by kernel_rfl) agree_nil))))))
  · exact ⟨Nat.zero_le _, (hS5.eqv (by simp))⟩
  rintro ⟨k, A2, c2⟩ g8 w7 ⟨hkn, hS7⟩
  have hfl := filter_len (p := movedB a0 a1 b0 b1) zs k
  refine wp_seq ?_
  refine c_reg ?_
  refine q_seg (S := (fun x_ => St w x_ [Res.row (Value.slice A2 (List.length (List.filter (movedB a0 a1 b0 b1) (zs.take k))) c2) 3 1 (List.length (List.filter (movedB a0 a1 b0 b1) (zs.take k))) ((List.filter (movedB a0 a1 b0 b1) (zs.take k)).map (Value.int .i64)), Res.box blk4 [Value.int .i64 b0, Value.int .i64 b1] 25, Res.box blk2 [Value.int .i64 a0, Value.int .i64 a1] 25])) [(14, Value.bool (decide (((k : Nat) : Int) < ((n : Nat) : Int))))] [.no] True (by kernel_rfl) trivial hS7 ?_
  refine l_nil rfl ?_
  refine then_n ?_
  refine wp_seq ?_
  rcases Bool.eq_false_or_eq_true (decide (((k : Nat) : Int) < ((n : Nat) : Int))) with hb9 | hb9
  · skip
    have hb9p := of_decide_eq_true hb9
    obtain ⟨b, off, rfl, hbB, hcl⟩ := hr.2 (by omega)
    obtain ⟨z, hzk, hzm⟩ := get_of_lt (l := zs) (k := k) (by have := hr.len; omega)
    obtain ⟨hz1, hz2⟩ := hz _ hzm
    refine c_true (b := (decide (((k : Nat) : Int) < ((n : Nat) : Int)))) (by kernel_rfl) hb9 ?_
    refine wp_skip ?_
    refine then_n ?_
    refine wp_seq ?_
    refine wp_block ?_
    refine wp_seq ?_
    refine c_reg ?_
    refine q_seg (S := (fun x_ => St w x_ [Res.row (Value.slice A2 (List.length (List.filter (movedB a0 a1 b0 b1) (zs.take k))) c2) 3 1 (List.length (List.filter (movedB a0 a1 b0 b1) (zs.take k))) ((List.filter (movedB a0 a1 b0 b1) (zs.take k)).map (Value.int .i64)), Res.box blk4 [Value.int .i64 b0, Value.int .i64 b1] 25, Res.box blk2 [Value.int .i64 a0, Value.int .i64 a1] 25])) [(9, Value.int .i64 z), (16, Value.int .i64 z), (15, Value.pointer (some ⟨b, off + Int.toNat ((k : Nat) : Int) * 1, none⟩))] [.no, .v (Value.int .i64 z), .no] (((0 : Int) ≤ ((k : Nat) : Int)) ∧ (((k : Nat) : Int) < ((n : Nat) : Int)) ∧ (LoadsAt Try.prog (fun x_ => St w x_ [Res.row (Value.slice A2 (List.length (List.filter (movedB a0 a1 b0 b1) (zs.take k))) c2) 3 1 (List.length (List.filter (movedB a0 a1 b0 b1) (zs.take k))) ((List.filter (movedB a0 a1 b0 b1) (zs.take k)).map (Value.int .i64)), Res.box blk4 [Value.int .i64 b0, Value.int .i64 b1] 25, Res.box blk2 [Value.int .i64 a0, Value.int .i64 a1] 25]) 3 ⟨b, off + Int.toNat ((k : Nat) : Int) * 1, none⟩ (Value.int .i64 z))) (by kernel_rfl) ⟨(by omega), (by omega), (ld_low (hcl _ _ (by simp [hzk])) (by kernel_rfl))⟩ hS7 ?_
    refine l_nil rfl ?_
    refine then_n ?_
    refine wp_seq ?_
    refine c_drawn [] (by kernel_rfl) hS7 (fun w10 hS10 => ?_)
    refine t_seg (S := (fun x_ => St w x_ [Res.row (Value.slice A2 (List.length (List.filter (movedB a0 a1 b0 b1) (zs.take k))) c2) 3 1 (List.length (List.filter (movedB a0 a1 b0 b1) (zs.take k))) ((List.filter (movedB a0 a1 b0 b1) (zs.take k)).map (Value.int .i64)), Res.box blk4 [Value.int .i64 b0, Value.int .i64 b1] 25, Res.box blk2 [Value.int .i64 a0, Value.int .i64 a1] 25])) [(0, .v (Value.agg #[Value.int .i64 a0, Value.int .i64 a1])), (1, .no), (3, .v (Value.agg #[Value.int .i64 b0, Value.int .i64 b1])), (4, .no)] 3 #[true, true, false, true, true, false, false] [(21, Value.int .i64 z), (20, Value.agg #[Value.int .i64 b0, Value.int .i64 b1]), (18, Value.int .i64 z), (17, Value.agg #[Value.int .i64 a0, Value.int .i64 a1])] ((LoadsAt Try.prog (fun x_ => St w x_ [Res.row (Value.slice A2 (List.length (List.filter (movedB a0 a1 b0 b1) (zs.take k))) c2) 3 1 (List.length (List.filter (movedB a0 a1 b0 b1) (zs.take k))) ((List.filter (movedB a0 a1 b0 b1) (zs.take k)).map (Value.int .i64)), Res.box blk4 [Value.int .i64 b0, Value.int .i64 b1] 25, Res.box blk2 [Value.int .i64 a0, Value.int .i64 a1] 25]) 25 ⟨blk2, 0, none⟩ (Value.agg #[Value.int .i64 a0, Value.int .i64 a1])) ∧ (LoadsAt Try.prog (fun x_ => St w x_ [Res.row (Value.slice A2 (List.length (List.filter (movedB a0 a1 b0 b1) (zs.take k))) c2) 3 1 (List.length (List.filter (movedB a0 a1 b0 b1) (zs.take k))) ((List.filter (movedB a0 a1 b0 b1) (zs.take k)).map (Value.int .i64)), Res.box blk4 [Value.int .i64 b0, Value.int .i64 b1] 25, Res.box blk2 [Value.int .i64 a0, Value.int .i64 a1] 25]) 25 ⟨blk4, 0, none⟩ (Value.agg #[Value.int .i64 b0, Value.int .i64 b1]))) (by kernel_rfl) (Qpanic.then (Qpanic.block (Qpanic.then (Qpanic.then (Qpanic.block (Qpanic.then Qpanic.bp)))))) rfl (by kernel_rfl) ⟨(ld_boxN (i := 2) (k := 2) rfl rfl rfl (by kernel_rfl)), (ld_boxN (i := 1) (k := 2) rfl rfl rfl (by kernel_rfl))⟩ hS10 ?_
    refine a_op (i := 2) (fuel := 2) (listed' := #[true, true, true, true, true, false, false]) rfl rfl (by kernel_rfl) (by kernel_rfl) rfl (fun K hK => op_callv (d := some 19) rfl rfl ⟨_, Try.func26, by kernel_rfl, by kernel_rfl⟩ (vs := [Value.agg #[Value.int .i64 a0, Value.int .i64 a1], Value.int .i64 z]) (by kernel_rfl) (v := Value.int .i64 (select a0 a1 z)) (SelectServer_i_c a0 a1 z w10 hv (i64 (by omega) (by omega))) hS10 (fun w11 hS11 => hK _ _ (fun _ => hS11) ?_))
    clear hK K
    obtain ⟨hsl121, hsl122⟩ := select_bd a0 a1 z
    refine a_op (i := 5) (fuel := 1) (listed' := #[true, true, true, true, true, true, false]) rfl rfl (by kernel_rfl) (by kernel_rfl) rfl (fun K hK => op_callv (d := some 22) rfl rfl ⟨_, Try.func26, by kernel_rfl, by kernel_rfl⟩ (vs := [Value.agg #[Value.int .i64 b0, Value.int .i64 b1], Value.int .i64 z]) (by kernel_rfl) (v := Value.int .i64 (select b0 b1 z)) (SelectServer_i_c b0 b1 z w11 hw (i64 (by omega) (by omega))) hS11 (fun w13 hS13 => hK _ _ (fun _ => hS13) ?_))
    clear hK K
    obtain ⟨hsl141, hsl142⟩ := select_bd b0 b1 z
    refine t_seg (S := (fun x_ => St w x_ [Res.row (Value.slice A2 (List.length (List.filter (movedB a0 a1 b0 b1) (zs.take k))) c2) 3 1 (List.length (List.filter (movedB a0 a1 b0 b1) (zs.take k))) ((List.filter (movedB a0 a1 b0 b1) (zs.take k)).map (Value.int .i64)), Res.box blk4 [Value.int .i64 b0, Value.int .i64 b1] 25, Res.box blk2 [Value.int .i64 a0, Value.int .i64 a1] 25])) [(6, .no)] 0 #[true, true, true, true, true, true, true] [(23, Value.bool (!(decide ((select a0 a1 z) = (select b0 b1 z)))))] True (by kernel_rfl) (Qpanic.then (Qpanic.block (Qpanic.then (Qpanic.then (Qpanic.block (Qpanic.then Qpanic.bp)))))) rfl (by kernel_rfl) trivial hS13 ?_
    refine a_done (by kernel_rfl) ?_
    refine then_n ?_
    rcases Bool.eq_false_or_eq_true (decide ((select a0 a1 z) = (select b0 b1 z))) with hb15 | hb15
    · skip
      have hb15p := of_decide_eq_true hb15
      refine c_false (b := (!(decide ((select a0 a1 z) = (select b0 b1 z))))) (by kernel_rfl) (nb (v := true) hb15) ?_
      refine wp_skip ?_
      refine blk_n ?_
      refine then_n ?_
      refine c_reg ?_
      refine q_seg (S := (fun x_ => St w x_ [Res.row (Value.slice A2 (List.length (List.filter (movedB a0 a1 b0 b1) (zs.take k))) c2) 3 1 (List.length (List.filter (movedB a0 a1 b0 b1) (zs.take k))) ((List.filter (movedB a0 a1 b0 b1) (zs.take k)).map (Value.int .i64)), Res.box blk4 [Value.int .i64 b0, Value.int .i64 b1] 25, Res.box blk2 [Value.int .i64 a0, Value.int .i64 a1] 25])) [(13, Value.int .i64 (((k : Nat) : Int) + (1 : Int))), (28, Value.int .i64 (((k : Nat) : Int) + (1 : Int)))] [.no, .no] ((InK .i64 (((k : Nat) : Int) + (1 : Int)))) (by kernel_rfl) (in64 (by omega) (by omega)) hS13 ?_
      refine l_nil rfl ?_
      refine then_n ?_
      have hcs := filter_no (p := movedB a0 a1 b0 b1) hzk (by rw [movedB, hb15]; rfl)
      refine round_end ((k + 1, A2, c2)) ?_ ?_ ?_
      · exact (agree_cons (by kernel_rfl) (agree_cons (by kernel_rfl) (agree_eq (v0 := Value.slice A2 (List.length (List.filter (movedB a0 a1 b0 b1) (zs.take k))) c2) (by kernel_rfl) (congrArg (fun m => Value.slice A2 m c2) (by rw [hcs])) (agree_cons (by kernel_rfl) (agree_cons (by kernel_rfl) (agree_cons (by kernel_rfl) agree_nil))))))
      · exact ⟨(by omega), (hS13.eqv (by rw [hcs]))⟩
      · exact (by first | omega | (dsimp only; omega))
    · skip
      have hb15p := of_decide_eq_false hb15
      refine c_true (b := (!(decide ((select a0 a1 z) = (select b0 b1 z))))) (by kernel_rfl) (nb (v := false) hb15) ?_
      refine c_reg ?_
      refine q_seg (S := (fun x_ => St w x_ [Res.row (Value.slice A2 (List.length (List.filter (movedB a0 a1 b0 b1) (zs.take k))) c2) 3 1 (List.length (List.filter (movedB a0 a1 b0 b1) (zs.take k))) ((List.filter (movedB a0 a1 b0 b1) (zs.take k)).map (Value.int .i64)), Res.box blk4 [Value.int .i64 b0, Value.int .i64 b1] 25, Res.box blk2 [Value.int .i64 a0, Value.int .i64 a1] 25])) [(25, Value.int .i64 z), (24, Value.slice A2 (List.length (List.filter (movedB a0 a1 b0 b1) (zs.take k))) c2)] [.no, .no] True (by kernel_rfl) trivial hS13 ?_
      refine l_op rfl rfl (fun K hK => op_buildSlice (d := some 26) rfl rfl (e := 3) (by kernel_rfl) 1 (by kernel_rfl) (by decide) (by decide) [Value.int .i64 z] (by kernel_rfl) rfl hS13 (fun blk17 w16 hS16 => hK _ _ ?_))
      clear hK K
      refine l_op rfl rfl (fun K hK => op_append (d := some 27) rfl rfl elInt hS16 (i := 1) rfl rfl rfl (news := [Value.int .i64 z]) (hS16.rd (List.mem_of_getElem? (i := 0) rfl)) (all_one (by rfl)) (by omega) (by omega) (fun v19 w18 hS18 => hK _ _ ?_))
      clear hK K
      obtain ⟨hlv19, Av19, cv19, hvv19, hnv19, hmv19⟩ := hS18.row_slice (List.mem_of_getElem? (i := 1) rfl)
      subst hvv19
      refine q_seg (S := (fun x_ => St w x_ [Res.row (Value.slice (some ⟨blk17, 0, none⟩) 1 1) 3 1 1 ([Value.int .i64 z]), Res.row (Value.slice Av19 ((List.length (List.filter (movedB a0 a1 b0 b1) (zs.take k))) + 1) cv19) 3 1 ((List.length (List.filter (movedB a0 a1 b0 b1) (zs.take k))) + 1) (((List.filter (movedB a0 a1 b0 b1) (zs.take k)).map (Value.int .i64)) ++ [Value.int .i64 z]), Res.box blk4 [Value.int .i64 b0, Value.int .i64 b1] 25, Res.box blk2 [Value.int .i64 a0, Value.int .i64 a1] 25])) [(7, Value.slice Av19 ((List.length (List.filter (movedB a0 a1 b0 b1) (zs.take k))) + 1) cv19)] [.no] True (by kernel_rfl) trivial hS18 ?_
      refine l_nil rfl ?_
      refine blk_n ?_
      refine then_n ?_
      refine c_reg ?_
      refine q_seg (S := (fun x_ => St w x_ [Res.row (Value.slice (some ⟨blk17, 0, none⟩) 1 1) 3 1 1 ([Value.int .i64 z]), Res.row (Value.slice Av19 ((List.length (List.filter (movedB a0 a1 b0 b1) (zs.take k))) + 1) cv19) 3 1 ((List.length (List.filter (movedB a0 a1 b0 b1) (zs.take k))) + 1) (((List.filter (movedB a0 a1 b0 b1) (zs.take k)).map (Value.int .i64)) ++ [Value.int .i64 z]), Res.box blk4 [Value.int .i64 b0, Value.int .i64 b1] 25, Res.box blk2 [Value.int .i64 a0, Value.int .i64 a1] 25])) [(13, Value.int .i64 (((k : Nat) : Int) + (1 : Int))), (28, Value.int .i64 (((k : Nat) : Int) + (1 : Int)))] [.no, .no] ((InK .i64 (((k : Nat) : Int) + (1 : Int)))) (by kernel_rfl) (in64 (by omega) (by omega)) hS18 ?_
      refine l_nil rfl ?_
      refine then_n ?_
      have hS18s1 : St w w18 [Res.row (Value.slice Av19 ((List.length (List.filter (movedB a0 a1 b0 b1) (zs.take k))) + 1) cv19) 3 1 ((List.length (List.filter (movedB a0 a1 b0 b1) (zs.take k))) + 1) (((List.filter (movedB a0 a1 b0 b1) (zs.take k)).map (Value.int .i64)) ++ [Value.int .i64 z]), Res.box blk4 [Value.int .i64 b0, Value.int .i64 b1] 25, Res.box blk2 [Value.int .i64 a0, Value.int .i64 a1] 25] := (hS18.sub (List.Sublist.cons _ (List.Sublist.cons_cons _ (List.Sublist.cons_cons _ (List.Sublist.cons_cons _ List.Sublist.slnil)))))
      have hcs := filter_yes (p := movedB a0 a1 b0 b1) hzk (by rw [movedB, hb15]; rfl)
      refine round_end ((k + 1, Av19, cv19)) ?_ ?_ ?_
      · exact (agree_cons (by kernel_rfl) (agree_cons (by kernel_rfl) (agree_eq (v0 := Value.slice Av19 ((List.length (List.filter (movedB a0 a1 b0 b1) (zs.take k))) + 1) cv19) (by kernel_rfl) (congrArg (fun m => Value.slice Av19 m cv19) (by rw [hcs]; simp)) (agree_cons (by kernel_rfl) (agree_cons (by kernel_rfl) (agree_cons (by kernel_rfl) agree_nil))))))
      · exact ⟨(by omega), (hS18s1.eqv (by rw [hcs]; simp))⟩
      · exact (by first | omega | (dsimp only; omega))
  · skip
    have hb9p := of_decide_eq_false hb9
    refine c_false (b := (decide (((k : Nat) : Int) < ((n : Nat) : Int)))) (by kernel_rfl) hb9 ?_
    refine wp_exit ?_
    refine then_x ?_
    refine then_x ?_
    refine blk_hit ?_
    refine then_n ?_
    refine wp_seq ?_
    refine c_reg ?_
    refine q_seg (S := (fun x_ => St w x_ [Res.row (Value.slice A2 (List.length (List.filter (movedB a0 a1 b0 b1) (zs.take k))) c2) 3 1 (List.length (List.filter (movedB a0 a1 b0 b1) (zs.take k))) ((List.filter (movedB a0 a1 b0 b1) (zs.take k)).map (Value.int .i64)), Res.box blk4 [Value.int .i64 b0, Value.int .i64 b1] 25, Res.box blk2 [Value.int .i64 a0, Value.int .i64 a1] 25])) [(6, Value.slice A2 (List.length (List.filter (movedB a0 a1 b0 b1) (zs.take k))) c2), (29, Value.slice A2 (List.length (List.filter (movedB a0 a1 b0 b1) (zs.take k))) c2)] [.no, .no] True (by kernel_rfl) trivial hS7 ?_
    refine l_nil rfl ?_
    refine then_n ?_
    refine wp_ret ?_
    have hS7s2 : St w w7 [Res.row (Value.slice A2 (List.length (List.filter (movedB a0 a1 b0 b1) (zs.take k))) c2) 3 1 (List.length (List.filter (movedB a0 a1 b0 b1) (zs.take k))) ((List.filter (movedB a0 a1 b0 b1) (zs.take k)).map (Value.int .i64))] := (hS7.sub (List.Sublist.cons_cons _ (List.Sublist.cons _ (List.Sublist.cons _ List.Sublist.slnil))))
    have hkn2 : zs.take k = zs := List.take_of_length_le (by have := hr.len; omega)
    exact c_end (S := (fun x_ => St w x_ [Res.row (Value.slice A2 (List.length (List.filter (movedB a0 a1 b0 b1) (zs.take k))) c2) 3 1 (List.length (List.filter (movedB a0 a1 b0 b1) (zs.take k))) ((List.filter (movedB a0 a1 b0 b1) (zs.take k)).map (Value.int .i64)), Res.box blk4 [Value.int .i64 b0, Value.int .i64 b1] 25, Res.box blk2 [Value.int .i64 a0, Value.int .i64 a1] 25])) (rs := [.tmp 6]) rfl [] (v := Value.slice A2 (List.length (List.filter (movedB a0 a1 b0 b1) (zs.take k))) c2) (C := True) (by kernel_rfl) trivial hS7 ((hS7s2.eqv (by rw [hkn2]; rfl)).rt ⟨A2, c2, by rw [hkn2]; rfl, rfl⟩)
end Go.Proofs.Ytidefcakodnffaa
