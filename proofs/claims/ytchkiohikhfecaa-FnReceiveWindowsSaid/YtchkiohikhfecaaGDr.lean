/-
  Contracts of the drawing cursor.
-/
import Derived.Test.YtchkiohikhfecaaGSl
import Derived.Test.YtchkiohikhfecaaCur
namespace Go.Proofs.Ytchkiohikhfecaa
open Go.RowKit
set_option maxRecDepth 100000

theorem l1New_c (A : Option Addr) (n c : Nat) (zs : List Int) (w : World) (hn : n ≤ 1048576) (hz : okz .u8 zs) (hr : Rd w w.heap.size A n (zs.map (Value.int .u8))) : Calls Try.prog 83 #[.slice A n c] w (Ret w (fun v new => ∃ (b : Nat) (h : Int), v = .pointer (some ⟨b, 0, none⟩) ∧ new = [Res.box b [Value.slice A n c, Value.int .i64 (0 : Int), Value.int .i64 h] 110])) := by
  refine calls_FA Try.func83 rfl (n := 32) rfl (l := [(0, Value.slice A n c)]) rfl (by simp) (fun g => ?_)
  have hS := St.init w
  refine wp_seq ?_
  refine c_reg ?_
  refine q_seg (S := (fun x_ => St w x_ [])) [(2, Value.pointer none)] [.no] True (by kernel_rfl) trivial hS ?_
  refine l_nil rfl ?_
  refine then_n ?_
  refine wp_seq ?_
  refine c_reg ?_
  refine q_seg (S := (fun x_ => St w x_ [])) [(3, Value.int .i64 ((193017 : Int) + ((n : Nat) : Int))), (7, Value.int .i64 ((193017 : Int) + ((n : Nat) : Int))), (6, Value.int .i64 ((n : Nat) : Int)), (5, Value.slice A n c)] [.no, .no, .no, .no] ((InK .i64 ((193017 : Int) + ((n : Nat) : Int)))) (by kernel_rfl) (in64 (by omega) (by omega)) hS ?_
  refine l_nil rfl ?_
  refine then_n ?_
  refine wp_seq ?_
  refine wp_seq ?_
  refine c_reg ?_
  refine q_seg (S := (fun x_ => St w x_ [])) [(4, Value.int .i64 0)] [.no] True (by kernel_rfl) trivial hS ?_
  refine l_nil rfl ?_
  refine then_n ?_
  refine wp_block ?_
  refine c_loop (X := Nat × Int) (fun (x_ : Nat × Int) => match x_ with | (k, h) => [(0, Value.slice A n c), (3, Value.int .i64 h), (4, Value.int .i64 ((k : Nat) : Int))]) (fun (x_ : Nat × Int) (wr : World) => match x_ with | (k, h) => (k ≤ n) ∧ (0 ≤ h) ∧ (h ≤ 2000000000) ∧ St w wr []) (fun (x_ : Nat × Int) => match x_ with | (k, h) => n - k) ((0, ((193017 : Int) + ((n : Nat) : Int)))) ?_ ?_ ?_
  · exact (agree_cons (by kernel_rfl) (agree_cons (by kernel_rfl) (agree_cons (by kernel_rfl) agree_nil)))
  · exact ⟨Nat.zero_le _, (by omega), (by omega), hS⟩
  rintro ⟨k, h⟩ g2 w1 ⟨hkn, hh0, hh1, hS1⟩
  refine wp_seq ?_
  refine wp_seq ?_
  refine c_reg ?_
  refine q_seg (S := (fun x_ => St w x_ [])) [(12, Value.bool (decide (((k : Nat) : Int) < ((n : Nat) : Int)))), (11, Value.bool (decide (((k : Nat) : Int) < ((n : Nat) : Int)))), (10, Value.int .i64 ((n : Nat) : Int)), (9, Value.slice A n c), (8, Value.int .i64 ((k : Nat) : Int))] [.no, .no, .no, .no, .no] True (by kernel_rfl) trivial hS1 ?_
  rcases Bool.eq_false_or_eq_true (decide (((k : Nat) : Int) < ((n : Nat) : Int))) with hb3 | hb3
  · skip
    have hb3p := of_decide_eq_true hb3
    obtain ⟨b, off, rfl, hbB, hcl⟩ := hr.2 (by omega)
    obtain ⟨z, hzk, hzm⟩ := get_of_lt (l := zs) (k := k) (by have := hr.len; omega)
    obtain ⟨hz1, hz2⟩ := okz8 hz _ hzm
    refine q_seg (S := (fun x_ => St w x_ [])) [(15, Value.bool (decide (((k : Nat) : Int) < (4000 : Int)))), (14, Value.bool (decide (((k : Nat) : Int) < (4000 : Int)))), (13, Value.int .i64 ((k : Nat) : Int))] [.no, .no, .v (.bool true)] (((decide (((k : Nat) : Int) < ((n : Nat) : Int))) = true) ∧ ((decide (((k : Nat) : Int) < ((n : Nat) : Int))) = true) ∧ ((decide (((k : Nat) : Int) < ((n : Nat) : Int))) = true)) (by kernel_rfl) ⟨hb3, hb3, hb3⟩ hS1 ?_
    refine l_nil rfl ?_
    refine then_n ?_
    rcases Bool.eq_false_or_eq_true (decide (((k : Nat) : Int) < (4000 : Int))) with hb4 | hb4
    · skip
      have hb4p := of_decide_eq_true hb4
      refine c_true (b := (decide (((k : Nat) : Int) < (4000 : Int)))) (by kernel_rfl) hb4 ?_
      refine wp_skip ?_
      refine then_n ?_
      refine wp_seq ?_
      refine wp_block ?_
      refine c_reg ?_
      obtain ⟨y5, hy5⟩ : ∃ x, ibits .and .i64 (((h * (137 : Int)) + z) + (11 : Int)) (1073741823 : Int) = x := ⟨_, rfl⟩
      obtain ⟨hy5a, hy5b⟩ := ibits_and_bd (((h * (137 : Int)) + z) + (11 : Int)) (1073741823 : Int) (by decide) (by decide)
      rw [hy5] at hy5a hy5b
      refine q_seg (S := (fun x_ => St w x_ [])) [(3, Value.int .i64 y5), (27, Value.int .i64 y5), (26, Value.int .i64 (((h * (137 : Int)) + z) + (11 : Int))), (25, Value.int .i64 ((h * (137 : Int)) + z)), (24, Value.int .i64 z), (23, Value.int .u8 z), (22, Value.pointer (some ⟨b, off + Int.toNat ((k : Nat) : Int) * 1, none⟩)), (21, Value.int .i64 ((k : Nat) : Int)), (20, Value.slice (some ⟨b, off, none⟩) n c), (19, Value.int .i64 (h * (137 : Int))), (18, Value.int .i64 h)] [.no, .no, .no, .no, .no, .v (Value.int .u8 z), .no, .no, .no, .v (.int .i64 y5), .no] ((InK .i64 (h * (137 : Int))) ∧ ((0 : Int) ≤ ((k : Nat) : Int)) ∧ (((k : Nat) : Int) < ((n : Nat) : Int)) ∧ (LoadsAt Try.prog (fun x_ => St w x_ []) 5 ⟨b, off + Int.toNat ((k : Nat) : Int) * 1, none⟩ (Value.int .u8 z)) ∧ (InK .i64 z) ∧ (InK .i64 ((h * (137 : Int)) + z)) ∧ (InK .i64 (((h * (137 : Int)) + z) + (11 : Int))) ∧ (ibits .and .i64 (((h * (137 : Int)) + z) + (11 : Int)) (1073741823 : Int) = y5)) (by kernel_rfl) ⟨(in64 (by omega) (by omega)), (by omega), (by omega), (ld_low (hcl _ _ (by simp [hzk])) (by kernel_rfl)), (in64 (by omega) (by omega)), (in64 (by omega) (by omega)), (in64 (by omega) (by omega)), hy5⟩ hS1 ?_
      refine l_nil rfl ?_
      refine blk_n ?_
      refine then_n ?_
      refine c_reg ?_
      refine q_seg (S := (fun x_ => St w x_ [])) [(4, Value.int .i64 (((k : Nat) : Int) + (1 : Int))), (17, Value.int .i64 (((k : Nat) : Int) + (1 : Int))), (16, Value.int .i64 ((k : Nat) : Int))] [.no, .no, .no] ((InK .i64 (((k : Nat) : Int) + (1 : Int)))) (by kernel_rfl) (in64 (by omega) (by omega)) hS1 ?_
      refine l_nil rfl ?_
      refine then_n ?_
      refine round_end ((k + 1, y5)) ?_ ?_ ?_
      · exact (agree_cons (by kernel_rfl) (agree_cons (by kernel_rfl) (agree_cons (by kernel_rfl) agree_nil)))
      · exact ⟨(by omega), (by omega), (by omega), hS1⟩
      · exact (by first | omega | (dsimp only; omega))
    · skip
      have hb4p := of_decide_eq_false hb4
      refine c_false (b := (decide (((k : Nat) : Int) < (4000 : Int)))) (by kernel_rfl) hb4 ?_
      refine wp_exit ?_
      refine then_x ?_
      refine then_x ?_
      refine blk_hit ?_
      refine then_n ?_
      refine wp_seq ?_
      refine c_reg ?_
      refine q_seg (S := (fun x_ => St w x_ [])) [(30, Value.agg #[Value.slice (some ⟨b, off, none⟩) n c, Value.int .i64 0, Value.int .i64 h]), (29, Value.int .i64 h), (28, Value.slice (some ⟨b, off, none⟩) n c)] [.no, .no, .no] True (by kernel_rfl) trivial hS1 ?_
      refine l_op rfl rfl (fun K hK => op_box (d := some 31) rfl rfl [Value.slice (some ⟨b, off, none⟩) n c, Value.int .i64 0, Value.int .i64 h] (by kernel_rfl) hS1 (fun blk7 w6 hS6 => hK _ _ ?_))
      clear hK K
      refine q_seg (S := (fun x_ => St w x_ [Res.box blk7 [Value.slice (some ⟨b, off, none⟩) n c, Value.int .i64 0, Value.int .i64 h] 110])) [(2, Value.pointer (some ⟨blk7, 0, none⟩))] [.no] True (by kernel_rfl) trivial hS6 ?_
      refine l_nil rfl ?_
      refine then_n ?_
      refine wp_ret ?_
      exact c_end (S := (fun x_ => St w x_ [Res.box blk7 [Value.slice (some ⟨b, off, none⟩) n c, Value.int .i64 0, Value.int .i64 h] 110])) (rs := [.tmp 2]) rfl [] (v := Value.pointer (some ⟨blk7, 0, none⟩)) (C := True) (by kernel_rfl) trivial hS6 (hS6.rt ⟨_, _, rfl, rfl⟩)
  · skip
    have hb3p := of_decide_eq_false hb3
    refine q_seg (S := (fun x_ => St w x_ [])) [(15, Value.bool false), (14, undef), (13, undef)] [.skip, .skip, .v (.bool false)] (((decide (((k : Nat) : Int) < ((n : Nat) : Int))) = !true) ∧ ((decide (((k : Nat) : Int) < ((n : Nat) : Int))) = !true) ∧ ((decide (((k : Nat) : Int) < ((n : Nat) : Int))) = false)) (by kernel_rfl) ⟨hb3, hb3, hb3⟩ hS1 ?_
    refine l_nil rfl ?_
    refine then_n ?_
    refine c_false (b := false) (by kernel_rfl) rfl ?_
    refine wp_exit ?_
    refine then_x ?_
    refine then_x ?_
    refine blk_hit ?_
    refine then_n ?_
    refine wp_seq ?_
    refine c_reg ?_
    refine q_seg (S := (fun x_ => St w x_ [])) [(30, Value.agg #[Value.slice A n c, Value.int .i64 0, Value.int .i64 h]), (29, Value.int .i64 h), (28, Value.slice A n c)] [.no, .no, .no] True (by kernel_rfl) trivial hS1 ?_
    refine l_op rfl rfl (fun K hK => op_box (d := some 31) rfl rfl [Value.slice A n c, Value.int .i64 0, Value.int .i64 h] (by kernel_rfl) hS1 (fun blk9 w8 hS8 => hK _ _ ?_))
    clear hK K
    refine q_seg (S := (fun x_ => St w x_ [Res.box blk9 [Value.slice A n c, Value.int .i64 0, Value.int .i64 h] 110])) [(2, Value.pointer (some ⟨blk9, 0, none⟩))] [.no] True (by kernel_rfl) trivial hS8 ?_
    refine l_nil rfl ?_
    refine then_n ?_
    refine wp_ret ?_
    exact c_end (S := (fun x_ => St w x_ [Res.box blk9 [Value.slice A n c, Value.int .i64 0, Value.int .i64 h] 110])) (rs := [.tmp 2]) rfl [] (v := Value.pointer (some ⟨blk9, 0, none⟩)) (C := True) (by kernel_rfl) trivial hS8 (hS8.rt ⟨_, _, rfl, rfl⟩)
theorem l1Byte_s_c (b : Nat) (A : Option Addr) (n c : Nat) (i h : Int)  (tl : List Res) (w0 w : World) (hS : St w0 w (Res.box b [Value.slice A n c, Value.int .i64 i, Value.int .i64 h] 110 :: tl)) (hC : CurI w0 A n i)  : Calls Try.prog 104 #[.pointer (some ⟨b, 0, none⟩)] w (fun e w' => ∃ v own', e = .returned v ∧ St w0 w' own' ∧ (∃ (i' h' : Int) (x_ : Int), v = Value.int .i64 x_ ∧ own' = (Res.box b [Value.slice A n c, Value.int .i64 i', Value.int .i64 h'] 110 :: tl) ∧ CurI w0 A n i' ∧ (0 ≤ x_) ∧ (x_ ≤ 255))) := by
  obtain ⟨hClo, hChi, hCn, _⟩ := id hC
  refine calls_FA Try.func104 rfl (n := 58) rfl (l := [(0, Value.pointer (some ⟨b, 0, none⟩))]) rfl (by simp) (fun g => ?_)
  refine wp_seq ?_
  refine c_reg ?_
  refine q_seg (S := (fun x_ => St w0 x_ (Res.box b [Value.slice A n c, Value.int .i64 i, Value.int .i64 h] 110 :: tl))) [(2, Value.int .i64 0)] [.no] True (by kernel_rfl) trivial hS ?_
  refine l_nil rfl ?_
  refine then_n ?_
  refine wp_seq ?_
  refine c_reg ?_
  obtain ⟨y1, hy1⟩ : ∃ x, IntKind.wrap .i64 (h * (6364136223846793005 : Int)) = x := ⟨_, rfl⟩
  obtain ⟨y2, hy2⟩ : ∃ x, IntKind.wrap .i64 (y1 + (1442695040888963407 : Int)) = x := ⟨_, rfl⟩
  refine q_seg (S := (fun x_ => St w0 x_ (Res.box b [Value.slice A n c, Value.int .i64 i, Value.int .i64 h] 110 :: tl))) [(12, Value.pointer (some ⟨b, 0 + 2, none⟩)), (11, Value.pointer (some ⟨b, 0, none⟩)), (10, Value.int .i64 y2), (9, Value.int .i64 y1), (8, Value.int .i64 h), (7, Value.pointer (some ⟨b, 0 + 2, none⟩)), (6, Value.pointer (some ⟨b, 0, none⟩)), (5, Value.pointer (some ⟨b, 0, none⟩)), (4, Value.pointer (some ⟨b, 0, none⟩))] [.no, .no, .no, .no, .v (Value.int .i64 h), .v (.int .i64 y1), .v (.int .i64 y2), .no, .no] ((LoadsAt Try.prog (fun x_ => St w0 x_ (Res.box b [Value.slice A n c, Value.int .i64 i, Value.int .i64 h] 110 :: tl)) 3 ⟨b, 0 + 2, none⟩ (Value.int .i64 h)) ∧ (IntKind.wrap .i64 (h * (6364136223846793005 : Int)) = y1) ∧ (IntKind.wrap .i64 (y1 + (1442695040888963407 : Int)) = y2)) (by kernel_rfl) ⟨(ld_box (i := 0) rfl rfl (by kernel_rfl)), hy1, hy2⟩ hS ?_
  refine l_op rfl rfl (fun K hK => op_store (d := none) rfl rfl (i := 0) (b := b) (off := 0 + 2) (cs := [Value.slice A n c, Value.int .i64 i, Value.int .i64 h]) (bt := 110) (by kernel_rfl) (by kernel_rfl) [Value.int .i64 y2] (by kernel_rfl) (by kernel_rfl) (Nat.le_of_ble_eq_true (by kernel_rfl)) (by kernel_rfl) (Res.box b [Value.slice A n c, Value.int .i64 i, Value.int .i64 y2] 110 :: tl) (by kernel_rfl) hS (fun w3 hS3 => hK _ _ ?_))
  clear hK K
  refine l_nil rfl ?_
  refine then_n ?_
  refine wp_seq ?_
  refine c_drawn [] (by kernel_rfl) hS3 (fun w4 hS4 => ?_)
  obtain ⟨y5, hy5⟩ : ∃ x, Int.fdiv y2 (2 ^ (min (Int.toNat (33 : Int)) (IntKind.bits .i64))) = x := ⟨_, rfl⟩
  obtain ⟨y6, hy6⟩ : ∃ x, Int.fdiv y2 (2 ^ (min (Int.toNat (47 : Int)) (IntKind.bits .i64))) = x := ⟨_, rfl⟩
  obtain ⟨y7, hy7⟩ : ∃ x, ibits .xor .i64 y5 y6 = x := ⟨_, rfl⟩
  obtain ⟨y8, hy8⟩ : ∃ x, ibits .and .i64 y7 (255 : Int) = x := ⟨_, rfl⟩
  obtain ⟨hy8a, hy8b⟩ := ibits_and_bd y7 (255 : Int) (by decide) (by decide)
  rw [hy8] at hy8a hy8b
  refine t_seg (S := (fun x_ => St w0 x_ (Res.box b [Value.slice A n c, Value.int .i64 i, Value.int .i64 y2] 110 :: tl))) [(0, .no), (5, .no), (1, .no), (6, .no), (2, .no), (7, .no), (3, .v (Value.int .i64 y2)), (8, .v (Value.int .i64 y2)), (4, .v (.int .i64 y5)), (9, .v (.int .i64 y6)), (10, .v (.int .i64 y7)), (11, .v (.int .i64 y8)), (12, .no)] 0 #[true, true, true, true, true, true, true, true, true, true, true, true, true] [(3, Value.int .i64 y8), (24, Value.int .i64 y8), (23, Value.int .i64 y7), (22, Value.int .i64 y6), (17, Value.int .i64 y5), (21, Value.int .i64 y2), (16, Value.int .i64 y2), (20, Value.pointer (some ⟨b, 0 + 2, none⟩)), (15, Value.pointer (some ⟨b, 0 + 2, none⟩)), (19, Value.pointer (some ⟨b, 0, none⟩)), (14, Value.pointer (some ⟨b, 0, none⟩)), (18, Value.pointer (some ⟨b, 0, none⟩)), (13, Value.pointer (some ⟨b, 0, none⟩))] ((LoadsAt Try.prog (fun x_ => St w0 x_ (Res.box b [Value.slice A n c, Value.int .i64 i, Value.int .i64 y2] 110 :: tl)) 3 ⟨b, 0 + 2, none⟩ (Value.int .i64 y2)) ∧ (LoadsAt Try.prog (fun x_ => St w0 x_ (Res.box b [Value.slice A n c, Value.int .i64 i, Value.int .i64 y2] 110 :: tl)) 3 ⟨b, 0 + 2, none⟩ (Value.int .i64 y2)) ∧ ((0 : Int) ≤ (33 : Int)) ∧ (Int.fdiv y2 (2 ^ (min (Int.toNat (33 : Int)) (IntKind.bits .i64))) = y5) ∧ ((0 : Int) ≤ (47 : Int)) ∧ (Int.fdiv y2 (2 ^ (min (Int.toNat (47 : Int)) (IntKind.bits .i64))) = y6) ∧ (ibits .xor .i64 y5 y6 = y7) ∧ (ibits .and .i64 y7 (255 : Int) = y8)) (by kernel_rfl) (Qpanic.then Qpanic.bp) rfl (by kernel_rfl) ⟨(ld_box (i := 0) rfl rfl (by kernel_rfl)), (ld_box (i := 0) rfl rfl (by kernel_rfl)), (by omega), hy5, (by omega), hy6, hy7, hy8⟩ hS4 ?_
  refine a_done (by kernel_rfl) ?_
  refine then_n ?_
  refine wp_seq ?_
  refine wp_seq ?_
  refine c_drawn [] (by kernel_rfl) hS4 (fun w9 hS9 => ?_)
  refine t_seg (S := (fun x_ => St w0 x_ (Res.box b [Value.slice A n c, Value.int .i64 i, Value.int .i64 y2] 110 :: tl))) [(0, .no), (4, .no), (1, .no), (5, .no), (2, .no), (6, .no), (3, .v (Value.int .i64 i)), (7, .v (Value.slice A n c)), (8, .no), (9, .no)] 0 #[true, true, true, true, true, true, true, true, true, true] [(34, Value.bool (decide (i < ((n : Nat) : Int)))), (33, Value.int .i64 ((n : Nat) : Int)), (32, Value.slice A n c), (28, Value.int .i64 i), (31, Value.pointer (some ⟨b, 0 + 0, none⟩)), (27, Value.pointer (some ⟨b, 0 + 1, none⟩)), (30, Value.pointer (some ⟨b, 0, none⟩)), (26, Value.pointer (some ⟨b, 0, none⟩)), (29, Value.pointer (some ⟨b, 0, none⟩)), (25, Value.pointer (some ⟨b, 0, none⟩))] ((LoadsAt Try.prog (fun x_ => St w0 x_ (Res.box b [Value.slice A n c, Value.int .i64 i, Value.int .i64 y2] 110 :: tl)) 3 ⟨b, 0 + 1, none⟩ (Value.int .i64 i)) ∧ (LoadsAt Try.prog (fun x_ => St w0 x_ (Res.box b [Value.slice A n c, Value.int .i64 i, Value.int .i64 y2] 110 :: tl)) 26 ⟨b, 0 + 0, none⟩ (Value.slice A n c))) (by kernel_rfl) (Qpanic.then (Qpanic.then Qpanic.bp)) rfl (by kernel_rfl) ⟨(ld_box (i := 0) rfl rfl (by kernel_rfl)), (ld_box (i := 0) rfl rfl (by kernel_rfl))⟩ hS9 ?_
  refine a_done (by kernel_rfl) ?_
  refine then_n ?_
  rcases Bool.eq_false_or_eq_true (decide (i < ((n : Nat) : Int))) with hb10 | hb10
  · skip
    have hb10p := of_decide_eq_true hb10
    obtain ⟨zs, hok, hr⟩ := hC.rd
    obtain ⟨bq, off, rfl, hbB, hcl⟩ := hr.2 (by omega)
    obtain ⟨z, hzk, hzm⟩ := get_int (zs := zs) hr.len (x := i) hClo (by omega)
    obtain ⟨hz1, hz2⟩ := okz8 hok z hzm
    refine c_true (b := (decide (i < ((n : Nat) : Int)))) (by kernel_rfl) hb10 ?_
    refine wp_seq ?_
    refine c_drawn [] (by kernel_rfl) hS9 (fun w11 hS11 => ?_)
    obtain ⟨y12, hy12⟩ : ∃ x, ibits .and .i64 (y8 + z) (255 : Int) = x := ⟨_, rfl⟩
    obtain ⟨hy12a, hy12b⟩ := ibits_and_bd (y8 + z) (255 : Int) (by decide) (by decide)
    rw [hy12] at hy12a hy12b
    refine t_seg (S := (fun x_ => St w0 x_ (Res.box b [Value.slice (some ⟨bq, off, none⟩) n c, Value.int .i64 i, Value.int .i64 y2] 110 :: tl))) [(0, .no), (1, .no), (5, .no), (2, .no), (6, .no), (3, .no), (7, .no), (4, .v (Value.slice (some ⟨bq, off, none⟩) n c)), (8, .v (Value.int .i64 i)), (9, .no), (10, .v (Value.int .u8 z)), (11, .no), (12, .v (.int .i64 (y8 + z))), (13, .v (.int .i64 y12)), (14, .no)] 0 #[true, true, true, true, true, true, true, true, true, true, true, true, true, true, true] [(3, Value.int .i64 y12), (48, Value.int .i64 y12), (47, Value.int .i64 (y8 + z)), (46, Value.int .i64 z), (45, Value.int .u8 z), (44, Value.pointer (some ⟨bq, off + Int.toNat i * 1, none⟩)), (43, Value.int .i64 i), (39, Value.slice (some ⟨bq, off, none⟩) n c), (42, Value.pointer (some ⟨b, 0 + 1, none⟩)), (38, Value.pointer (some ⟨b, 0 + 0, none⟩)), (41, Value.pointer (some ⟨b, 0, none⟩)), (37, Value.pointer (some ⟨b, 0, none⟩)), (40, Value.pointer (some ⟨b, 0, none⟩)), (36, Value.pointer (some ⟨b, 0, none⟩)), (35, Value.int .i64 y8)] ((LoadsAt Try.prog (fun x_ => St w0 x_ (Res.box b [Value.slice (some ⟨bq, off, none⟩) n c, Value.int .i64 i, Value.int .i64 y2] 110 :: tl)) 26 ⟨b, 0 + 0, none⟩ (Value.slice (some ⟨bq, off, none⟩) n c)) ∧ (LoadsAt Try.prog (fun x_ => St w0 x_ (Res.box b [Value.slice (some ⟨bq, off, none⟩) n c, Value.int .i64 i, Value.int .i64 y2] 110 :: tl)) 3 ⟨b, 0 + 1, none⟩ (Value.int .i64 i)) ∧ ((0 : Int) ≤ i) ∧ (i < ((n : Nat) : Int)) ∧ (LoadsAt Try.prog (fun x_ => St w0 x_ (Res.box b [Value.slice (some ⟨bq, off, none⟩) n c, Value.int .i64 i, Value.int .i64 y2] 110 :: tl)) 5 ⟨bq, off + Int.toNat i * 1, none⟩ (Value.int .u8 z)) ∧ (InK .i64 z) ∧ (IntKind.wrap .i64 (y8 + z) = (y8 + z)) ∧ (ibits .and .i64 (y8 + z) (255 : Int) = y12)) (by kernel_rfl) (Qpanic.then (Qpanic.then Qpanic.bp)) rfl (by kernel_rfl) ⟨(ld_box (i := 0) rfl rfl (by kernel_rfl)), (ld_box (i := 0) rfl rfl (by kernel_rfl)), (by omega), (by omega), (ld_low (hcl _ _ (by simp [hzk])) (by kernel_rfl)), (in64 (by omega) (by omega)), (in64 (by omega) (by omega)), hy12⟩ hS11 ?_
    refine a_done (by kernel_rfl) ?_
    refine then_n ?_
    refine c_reg ?_
    refine q_seg (S := (fun x_ => St w0 x_ (Res.box b [Value.slice (some ⟨bq, off, none⟩) n c, Value.int .i64 i, Value.int .i64 y2] 110 :: tl))) [(56, Value.pointer (some ⟨b, 0 + 1, none⟩)), (55, Value.pointer (some ⟨b, 0, none⟩)), (54, Value.int .i64 (i + (1 : Int))), (53, Value.int .i64 i), (52, Value.pointer (some ⟨b, 0 + 1, none⟩)), (51, Value.pointer (some ⟨b, 0, none⟩)), (50, Value.pointer (some ⟨b, 0, none⟩)), (49, Value.pointer (some ⟨b, 0, none⟩))] [.no, .no, .no, .no, .v (Value.int .i64 i), .v (.int .i64 (i + (1 : Int))), .no, .no] ((LoadsAt Try.prog (fun x_ => St w0 x_ (Res.box b [Value.slice (some ⟨bq, off, none⟩) n c, Value.int .i64 i, Value.int .i64 y2] 110 :: tl)) 3 ⟨b, 0 + 1, none⟩ (Value.int .i64 i)) ∧ (IntKind.wrap .i64 (i + (1 : Int)) = (i + (1 : Int)))) (by kernel_rfl) ⟨(ld_box (i := 0) rfl rfl (by kernel_rfl)), (in64 (by omega) (by omega))⟩ hS11 ?_
    refine l_op rfl rfl (fun K hK => op_store (d := none) rfl rfl (i := 0) (b := b) (off := 0 + 1) (cs := [Value.slice (some ⟨bq, off, none⟩) n c, Value.int .i64 i, Value.int .i64 y2]) (bt := 110) (by kernel_rfl) (by kernel_rfl) [Value.int .i64 (i + (1 : Int))] (by kernel_rfl) (by kernel_rfl) (Nat.le_of_ble_eq_true (by kernel_rfl)) (by kernel_rfl) (Res.box b [Value.slice (some ⟨bq, off, none⟩) n c, Value.int .i64 (i + (1 : Int)), Value.int .i64 y2] 110 :: tl) (by kernel_rfl) hS11 (fun w13 hS13 => hK _ _ ?_))
    clear hK K
    refine l_nil rfl ?_
    refine then_n ?_
    refine wp_seq ?_
    refine c_reg ?_
    refine q_seg (S := (fun x_ => St w0 x_ (Res.box b [Value.slice (some ⟨bq, off, none⟩) n c, Value.int .i64 (i + (1 : Int)), Value.int .i64 y2] 110 :: tl))) [(2, Value.int .i64 y12), (57, Value.int .i64 y12)] [.no, .no] True (by kernel_rfl) trivial hS13 ?_
    refine l_nil rfl ?_
    refine then_n ?_
    refine wp_ret ?_
    exact c_end (S := (fun x_ => St w0 x_ (Res.box b [Value.slice (some ⟨bq, off, none⟩) n c, Value.int .i64 (i + (1 : Int)), Value.int .i64 y2] 110 :: tl))) (rs := [.tmp 2]) rfl [] (v := Value.int .i64 y12) (C := True) (by kernel_rfl) trivial hS13 (⟨_, _, rfl, hS13, (i + (1 : Int)), y2, y12, rfl, rfl, (hC.step (by omega)), (by omega), (by omega)⟩)
  · skip
    have hb10p := of_decide_eq_false hb10
    refine c_false (b := (decide (i < ((n : Nat) : Int)))) (by kernel_rfl) hb10 ?_
    refine wp_skip ?_
    refine then_n ?_
    refine wp_seq ?_
    refine c_reg ?_
    refine q_seg (S := (fun x_ => St w0 x_ (Res.box b [Value.slice A n c, Value.int .i64 i, Value.int .i64 y2] 110 :: tl))) [(2, Value.int .i64 y8), (57, Value.int .i64 y8)] [.no, .no] True (by kernel_rfl) trivial hS9 ?_
    refine l_nil rfl ?_
    refine then_n ?_
    refine wp_ret ?_
    exact c_end (S := (fun x_ => St w0 x_ (Res.box b [Value.slice A n c, Value.int .i64 i, Value.int .i64 y2] 110 :: tl))) (rs := [.tmp 2]) rfl [] (v := Value.int .i64 y8) (C := True) (by kernel_rfl) trivial hS9 (⟨_, _, rfl, hS9, i, y2, y8, rfl, rfl, hC, (by omega), (by omega)⟩)
theorem l1Below_s_c (b : Nat) (A : Option Addr) (n c : Nat) (i h : Int) (m : Int) (tl : List Res) (w0 w : World) (hS : St w0 w (Res.box b [Value.slice A n c, Value.int .i64 i, Value.int .i64 h] 110 :: tl)) (hC : CurI w0 A n i) (hm0 : 1 ≤ m) : Calls Try.prog 92 #[.pointer (some ⟨b, 0, none⟩), Value.int .i64 m] w (fun e w' => ∃ v own', e = .returned v ∧ St w0 w' own' ∧ (∃ (i' h' : Int) (x_ : Int), v = Value.int .i64 x_ ∧ own' = (Res.box b [Value.slice A n c, Value.int .i64 i', Value.int .i64 h'] 110 :: tl) ∧ CurI w0 A n i' ∧ (0 ≤ x_) ∧ (x_ < m))) := by
  obtain ⟨hClo, hChi, hCn, _⟩ := id hC
  refine calls_FA Try.func92 rfl (n := 31) rfl (l := [(0, Value.pointer (some ⟨b, 0, none⟩)), (1, Value.int .i64 m)]) rfl (by simp) (fun g => ?_)
  refine wp_seq ?_
  refine c_reg ?_
  refine q_seg (S := (fun x_ => St w0 x_ (Res.box b [Value.slice A n c, Value.int .i64 i, Value.int .i64 h] 110 :: tl))) [(4, Value.int .i64 0)] [.no] True (by kernel_rfl) trivial hS ?_
  refine l_nil rfl ?_
  refine then_n ?_
  refine wp_seq ?_
  refine wp_seq ?_
  refine c_reg ?_
  refine q_seg (S := (fun x_ => St w0 x_ (Res.box b [Value.slice A n c, Value.int .i64 i, Value.int .i64 h] 110 :: tl))) [(9, Value.bool (decide (m ≤ (0 : Int)))), (8, Value.int .i64 m)] [.no, .no] True (by kernel_rfl) trivial hS ?_
  refine l_nil rfl ?_
  refine then_n ?_
  refine c_false (b := (decide (m ≤ (0 : Int)))) (by kernel_rfl) (decide_eq_false (by omega)) ?_
  refine wp_skip ?_
  refine then_n ?_
  refine wp_seq ?_
  refine wp_seq ?_
  refine c_reg ?_
  refine q_seg (S := (fun x_ => St w0 x_ (Res.box b [Value.slice A n c, Value.int .i64 i, Value.int .i64 h] 110 :: tl))) [(11, Value.bool (decide (m ≤ (256 : Int)))), (10, Value.int .i64 m)] [.no, .no] True (by kernel_rfl) trivial hS ?_
  refine l_nil rfl ?_
  refine then_n ?_
  rcases Bool.eq_false_or_eq_true (decide (m ≤ (256 : Int))) with hb1 | hb1
  · skip
    have hb1p := of_decide_eq_true hb1
    refine c_true (b := (decide (m ≤ (256 : Int)))) (by kernel_rfl) hb1 ?_
    refine wp_seq ?_
    refine c_reg ?_
    refine q_seg (S := (fun x_ => St w0 x_ (Res.box b [Value.slice A n c, Value.int .i64 i, Value.int .i64 h] 110 :: tl))) [(12, Value.pointer (some ⟨b, 0, none⟩))] [.no] True (by kernel_rfl) trivial hS ?_
    refine l_op rfl rfl (fun K hK => op_callm (d := some 13) rfl rfl ⟨_, Try.func104, by kernel_rfl, by kernel_rfl⟩ (vs := [Value.pointer (some ⟨b, 0, none⟩)]) (by kernel_rfl) (l1Byte_s_c b A n c i h  _ w0 w hS hC ) (fun v3 new4 w2 Rw2 hS2 => ?_))
    obtain ⟨ix6, hx7, xd5, rfl, rfl, hC8, hf9, hf10⟩ := Rw2
    refine hK _ _ ?_
    clear hK K
    refine q_seg (S := (fun x_ => St w0 x_ (Res.box b [Value.slice A n c, Value.int .i64 ix6, Value.int .i64 hx7] 110 :: tl))) [(4, Value.int .i64 (xd5 % m)), (15, Value.int .i64 (xd5 % m)), (14, Value.int .i64 m)] [.no, .no, .no] (((0 : Int) ≤ xd5) ∧ ((0 : Int) < m)) (by kernel_rfl) ⟨(by omega), (by omega)⟩ hS2 ?_
    refine l_nil rfl ?_
    refine then_n ?_
    refine wp_ret ?_
    refine then_r ?_
    have hmb := emod_bd (x := xd5) (n := m) (by omega)
    exact c_end (S := (fun x_ => St w0 x_ (Res.box b [Value.slice A n c, Value.int .i64 ix6, Value.int .i64 hx7] 110 :: tl))) (rs := [.tmp 4]) rfl [] (v := Value.int .i64 (xd5 % m)) (C := True) (by kernel_rfl) trivial hS2 (⟨_, _, rfl, hS2, ix6, hx7, (xd5 % m), rfl, rfl, hC8, hmb.1, hmb.2⟩)
  · skip
    have hb1p := of_decide_eq_false hb1
    refine c_false (b := (decide (m ≤ (256 : Int)))) (by kernel_rfl) hb1 ?_
    refine wp_skip ?_
    refine then_n ?_
    refine wp_seq ?_
    refine c_reg ?_
    refine q_seg (S := (fun x_ => St w0 x_ (Res.box b [Value.slice A n c, Value.int .i64 i, Value.int .i64 h] 110 :: tl))) [(16, Value.pointer (some ⟨b, 0, none⟩))] [.no] True (by kernel_rfl) trivial hS ?_
    refine l_op rfl rfl (fun K hK => op_callm (d := some 17) rfl rfl ⟨_, Try.func104, by kernel_rfl, by kernel_rfl⟩ (vs := [Value.pointer (some ⟨b, 0, none⟩)]) (by kernel_rfl) (l1Byte_s_c b A n c i h  _ w0 w hS hC ) (fun v12 new13 w11 Rw11 hS11 => ?_))
    obtain ⟨ix15, hx16, xd14, rfl, rfl, hC17, hf18, hf19⟩ := Rw11
    refine hK _ _ ?_
    clear hK K
    refine q_seg (S := (fun x_ => St w0 x_ (Res.box b [Value.slice A n c, Value.int .i64 ix15, Value.int .i64 hx16] 110 :: tl))) [(5, Value.int .i64 xd14)] [.no] True (by kernel_rfl) trivial hS11 ?_
    refine l_nil rfl ?_
    refine then_n ?_
    refine wp_seq ?_
    refine c_reg ?_
    refine q_seg (S := (fun x_ => St w0 x_ (Res.box b [Value.slice A n c, Value.int .i64 ix15, Value.int .i64 hx16] 110 :: tl))) [(18, Value.pointer (some ⟨b, 0, none⟩))] [.no] True (by kernel_rfl) trivial hS11 ?_
    refine l_op rfl rfl (fun K hK => op_callm (d := some 19) rfl rfl ⟨_, Try.func104, by kernel_rfl, by kernel_rfl⟩ (vs := [Value.pointer (some ⟨b, 0, none⟩)]) (by kernel_rfl) (l1Byte_s_c b A n c ix15 hx16  _ w0 w11 hS11 hC17 ) (fun v21 new22 w20 Rw20 hS20 => ?_))
    obtain ⟨ix24, hx25, xd23, rfl, rfl, hC26, hf27, hf28⟩ := Rw20
    refine hK _ _ ?_
    clear hK K
    refine q_seg (S := (fun x_ => St w0 x_ (Res.box b [Value.slice A n c, Value.int .i64 ix24, Value.int .i64 hx25] 110 :: tl))) [(6, Value.int .i64 xd23)] [.no] True (by kernel_rfl) trivial hS20 ?_
    refine l_nil rfl ?_
    refine then_n ?_
    refine wp_seq ?_
    refine c_reg ?_
    refine q_seg (S := (fun x_ => St w0 x_ (Res.box b [Value.slice A n c, Value.int .i64 ix24, Value.int .i64 hx25] 110 :: tl))) [(20, Value.pointer (some ⟨b, 0, none⟩))] [.no] True (by kernel_rfl) trivial hS20 ?_
    refine l_op rfl rfl (fun K hK => op_callm (d := some 21) rfl rfl ⟨_, Try.func104, by kernel_rfl, by kernel_rfl⟩ (vs := [Value.pointer (some ⟨b, 0, none⟩)]) (by kernel_rfl) (l1Byte_s_c b A n c ix24 hx25  _ w0 w20 hS20 hC26 ) (fun v30 new31 w29 Rw29 hS29 => ?_))
    obtain ⟨ix33, hx34, xd32, rfl, rfl, hC35, hf36, hf37⟩ := Rw29
    refine hK _ _ ?_
    clear hK K
    refine q_seg (S := (fun x_ => St w0 x_ (Res.box b [Value.slice A n c, Value.int .i64 ix33, Value.int .i64 hx34] 110 :: tl))) [(7, Value.int .i64 xd32)] [.no] True (by kernel_rfl) trivial hS29 ?_
    refine l_nil rfl ?_
    refine then_n ?_
    refine wp_seq ?_
    refine c_reg ?_
    refine q_seg (S := (fun x_ => St w0 x_ (Res.box b [Value.slice A n c, Value.int .i64 ix33, Value.int .i64 hx34] 110 :: tl))) [(4, Value.int .i64 ((((xd14 * (65536 : Int)) + (xd23 * (256 : Int))) + xd32) % m)), (30, Value.int .i64 ((((xd14 * (65536 : Int)) + (xd23 * (256 : Int))) + xd32) % m)), (29, Value.int .i64 m), (28, Value.int .i64 (((xd14 * (65536 : Int)) + (xd23 * (256 : Int))) + xd32)), (27, Value.int .i64 xd32), (26, Value.int .i64 ((xd14 * (65536 : Int)) + (xd23 * (256 : Int)))), (25, Value.int .i64 (xd23 * (256 : Int))), (24, Value.int .i64 xd23), (23, Value.int .i64 (xd14 * (65536 : Int))), (22, Value.int .i64 xd14)] [.no, .no, .no, .no, .no, .no, .no, .no, .no, .no] ((InK .i64 (xd14 * (65536 : Int))) ∧ (InK .i64 (xd23 * (256 : Int))) ∧ (InK .i64 ((xd14 * (65536 : Int)) + (xd23 * (256 : Int)))) ∧ (InK .i64 (((xd14 * (65536 : Int)) + (xd23 * (256 : Int))) + xd32)) ∧ ((0 : Int) ≤ (((xd14 * (65536 : Int)) + (xd23 * (256 : Int))) + xd32)) ∧ ((0 : Int) < m)) (by kernel_rfl) ⟨(in64 (by omega) (by omega)), (in64 (by omega) (by omega)), (in64 (by omega) (by omega)), (in64 (by omega) (by omega)), (by omega), (by omega)⟩ hS29 ?_
    refine l_nil rfl ?_
    refine then_n ?_
    refine wp_ret ?_
    have hmb := emod_bd (x := (((xd14 * (65536 : Int)) + (xd23 * (256 : Int))) + xd32)) (n := m) (by omega)
    exact c_end (S := (fun x_ => St w0 x_ (Res.box b [Value.slice A n c, Value.int .i64 ix33, Value.int .i64 hx34] 110 :: tl))) (rs := [.tmp 4]) rfl [] (v := Value.int .i64 ((((xd14 * (65536 : Int)) + (xd23 * (256 : Int))) + xd32) % m)) (C := True) (by kernel_rfl) trivial hS29 (⟨_, _, rfl, hS29, ix33, hx34, ((((xd14 * (65536 : Int)) + (xd23 * (256 : Int))) + xd32) % m), rfl, rfl, hC35, hmb.1, hmb.2⟩)
theorem l1Int_s_c (b : Nat) (A : Option Addr) (n c : Nat) (i h : Int) (lsA : Option Addr) (lsc : Nat) (ls : List Int) (tl : List Res) (w0 w : World) (hS : St w0 w (Res.box b [Value.slice A n c, Value.int .i64 i, Value.int .i64 h] 110 :: Res.row (Value.slice lsA (List.length ls) lsc) 3 1 (List.length ls) (ls.map (Value.int .i64)) :: tl)) (hC : CurI w0 A n i) (hls0 : 0 < ls.length) : Calls Try.prog 86 #[.pointer (some ⟨b, 0, none⟩), Value.slice lsA (List.length ls) lsc] w (fun e w' => ∃ v own', e = .returned v ∧ St w0 w' own' ∧ (∃ (i' h' : Int) (x_ : Int), v = Value.int .i64 x_ ∧ own' = (Res.box b [Value.slice A n c, Value.int .i64 i', Value.int .i64 h'] 110 :: Res.row (Value.slice lsA (List.length ls) lsc) 3 1 (List.length ls) (ls.map (Value.int .i64)) :: tl) ∧ CurI w0 A n i' ∧ (x_ ∈ ls))) := by
  obtain ⟨hClo, hChi, hCn, _⟩ := id hC
  refine calls_FA Try.func86 rfl (n := 12) rfl (l := [(0, Value.pointer (some ⟨b, 0, none⟩)), (1, Value.slice lsA (List.length ls) lsc)]) rfl (by simp) (fun g => ?_)
  refine wp_seq ?_
  refine c_reg ?_
  refine q_seg (S := (fun x_ => St w0 x_ (Res.box b [Value.slice A n c, Value.int .i64 i, Value.int .i64 h] 110 :: Res.row (Value.slice lsA (List.length ls) lsc) 3 1 (List.length ls) (ls.map (Value.int .i64)) :: tl))) [(4, Value.int .i64 0)] [.no] True (by kernel_rfl) trivial hS ?_
  refine l_nil rfl ?_
  refine then_n ?_
  refine wp_seq ?_
  refine c_reg ?_
  refine q_seg (S := (fun x_ => St w0 x_ (Res.box b [Value.slice A n c, Value.int .i64 i, Value.int .i64 h] 110 :: Res.row (Value.slice lsA (List.length ls) lsc) 3 1 (List.length ls) (ls.map (Value.int .i64)) :: tl))) [(8, Value.int .i64 (((List.length ls) : Nat) : Int)), (7, Value.slice lsA (List.length ls) lsc), (6, Value.pointer (some ⟨b, 0, none⟩)), (5, Value.slice lsA (List.length ls) lsc)] [.no, .no, .no, .no] True (by kernel_rfl) trivial hS ?_
  refine l_op rfl rfl (fun K hK => op_callm (d := some 9) rfl rfl ⟨_, Try.func92, by kernel_rfl, by kernel_rfl⟩ (vs := [Value.pointer (some ⟨b, 0, none⟩), Value.int .i64 (((List.length ls) : Nat) : Int)]) (by kernel_rfl) (l1Below_s_c b A n c i h (((List.length ls) : Nat) : Int) _ w0 w hS hC (by omega)) (fun v2 new3 w1 Rw1 hS1 => ?_))
  obtain ⟨ix5, hx6, xd4, rfl, rfl, hC7, hf8, hf9⟩ := Rw1
  obtain ⟨blk10, rfl⟩ := hS1.row_at (List.mem_of_getElem? (i := 1) rfl) (by omega)
  obtain ⟨z, hzk, hzm⟩ := get_int (zs := ls) rfl (x := xd4) (by omega) (by omega)
  refine hK _ _ ?_
  clear hK K
  refine q_seg (S := (fun x_ => St w0 x_ (Res.box b [Value.slice A n c, Value.int .i64 ix5, Value.int .i64 hx6] 110 :: Res.row (Value.slice (some ⟨blk10, 0, none⟩) (List.length ls) lsc) 3 1 (List.length ls) (ls.map (Value.int .i64)) :: tl))) [(4, Value.int .i64 z), (11, Value.int .i64 z), (10, Value.pointer (some ⟨blk10, 0 + Int.toNat xd4 * 1, none⟩))] [.no, .v (Value.int .i64 z), .no] (((0 : Int) ≤ xd4) ∧ (xd4 < (((List.length ls) : Nat) : Int)) ∧ (LoadsAt Try.prog (fun x_ => St w0 x_ (Res.box b [Value.slice A n c, Value.int .i64 ix5, Value.int .i64 hx6] 110 :: Res.row (Value.slice (some ⟨blk10, 0, none⟩) (List.length ls) lsc) 3 1 (List.length ls) (ls.map (Value.int .i64)) :: tl)) 3 ⟨blk10, 0 + Int.toNat xd4 * 1, none⟩ (Value.int .i64 z))) (by kernel_rfl) ⟨(by omega), (by omega), (ld_row (i := 1) rfl (by rw [show 0 + Int.toNat xd4 * 1 = Int.toNat xd4 by omega]; exact map_get hzk) (by kernel_rfl))⟩ hS1 ?_
  refine l_nil rfl ?_
  refine then_n ?_
  refine wp_ret ?_
  exact c_end (S := (fun x_ => St w0 x_ (Res.box b [Value.slice A n c, Value.int .i64 ix5, Value.int .i64 hx6] 110 :: Res.row (Value.slice (some ⟨blk10, 0, none⟩) (List.length ls) lsc) 3 1 (List.length ls) (ls.map (Value.int .i64)) :: tl))) (rs := [.tmp 4]) rfl [] (v := Value.int .i64 z) (C := True) (by kernel_rfl) trivial hS1 (⟨_, _, rfl, hS1, ix5, hx6, z, rfl, rfl, hC7, hzm⟩)
end Go.Proofs.Ytchkiohikhfecaa
