/-
  Contracts of IsValidSender.
-/
import Derived.Test.YtchkiohikhfecaaGWi
import Derived.Test.YtchkiohikhfecaaWin
namespace Go.Proofs.Ytchkiohikhfecaa
open Go.RowKit
set_option maxRecDepth 100000

theorem IsValidSender_i_c (a0 : Int) (a1A : Option Addr) (a1n a1c : Nat) (a1L : List (Int × List Int)) (w : World) (a0h : I64 a0) (a1h : RdL .u8 true w w.heap.size a1A a1n a1L) (a1w : wt a1L ≤ 1099511627776)  : Calls Try.prog 32 #[Value.agg #[Value.int .i64 a0, Value.slice a1A a1n a1c]] w (RetV w (.bool (vsend a0 a1L))) := by
  obtain ⟨a0h1, a0h2⟩ := a0h
  obtain ⟨hok, ys, hr, rfl⟩ := a1h
  have hwl := wt_len (ys.map (con true))
  have hln := hr.len
  rw [List.length_map] at hwl
  refine calls_FA Try.func32 rfl (n := 45) rfl (l := [(0, Value.agg #[Value.int .i64 a0, Value.slice a1A a1n a1c])]) rfl (by simp) (fun g => ?_)
  have hS := St.init w
  refine wp_seq ?_
  refine c_reg ?_
  refine l_op rfl rfl (fun K hK => op_box (d := some 1) rfl rfl [Value.int .i64 a0, Value.slice a1A a1n a1c] (by kernel_rfl) hS (fun blk2 w1 hS1 => hK _ _ ?_))
  clear hK K
  refine q_seg (S := (fun x_ => St w x_ [Res.box blk2 [Value.int .i64 a0, Value.slice a1A a1n a1c] 55])) [(2, Value.bool false)] [.no] True (by kernel_rfl) trivial hS1 ?_
  refine l_nil rfl ?_
  refine then_n ?_
  refine wp_seq ?_
  refine wp_seq ?_
  refine c_reg ?_
  refine q_seg (S := (fun x_ => St w x_ [Res.box blk2 [Value.int .i64 a0, Value.slice a1A a1n a1c] 55])) [(7, Value.int .i64 a0), (6, Value.pointer (some ⟨blk2, 0 + 0, none⟩))] [.no, .v (Value.int .i64 a0)] ((LoadsAt Try.prog (fun x_ => St w x_ [Res.box blk2 [Value.int .i64 a0, Value.slice a1A a1n a1c] 55]) 3 ⟨blk2, 0 + 0, none⟩ (Value.int .i64 a0))) (by kernel_rfl) (ld_box (i := 0) rfl rfl (by kernel_rfl)) hS1 ?_
  refine l_op rfl rfl (fun K hK => op_callv (d := some 8) rfl rfl ⟨_, Try.func69, by kernel_rfl, by kernel_rfl⟩ (vs := [Value.int .i64 a0, Value.int .i64 1, Value.int .i64 100000]) (by kernel_rfl) (v := Value.bool (inR a0 1 100000)) (InRange_c a0 1 100000 _) hS1 (fun w3 hS3 => hK _ _ ?_))
  clear hK K
  refine q_seg (S := (fun x_ => St w x_ [Res.box blk2 [Value.int .i64 a0, Value.slice a1A a1n a1c] 55])) [(10, Value.bool (!(inR a0 1 100000))), (9, Value.bool (!(inR a0 1 100000)))] [.no, .no] True (by kernel_rfl) trivial hS3 ?_
  rcases Bool.eq_false_or_eq_true (inR a0 1 100000) with hb4 | hb4
  · skip
    obtain ⟨hb4p, hb4q⟩ := inR_iff.1 hb4
    refine q_seg (S := (fun x_ => St w x_ [Res.box blk2 [Value.int .i64 a0, Value.slice a1A a1n a1c] 55])) [(15, Value.bool (decide ((8 : Int) < ((a1n : Nat) : Int)))), (14, Value.bool (decide ((8 : Int) < ((a1n : Nat) : Int)))), (13, Value.int .i64 ((a1n : Nat) : Int)), (12, Value.slice a1A a1n a1c), (11, Value.pointer (some ⟨blk2, 0 + 1, none⟩))] [.no, .v (Value.slice a1A a1n a1c), .no, .no, .v (.bool false)] (((!(inR a0 1 100000)) = false) ∧ ((!(inR a0 1 100000)) = false) ∧ (LoadsAt Try.prog (fun x_ => St w x_ [Res.box blk2 [Value.int .i64 a0, Value.slice a1A a1n a1c] 55]) 31 ⟨blk2, 0 + 1, none⟩ (Value.slice a1A a1n a1c)) ∧ ((!(inR a0 1 100000)) = false) ∧ ((!(inR a0 1 100000)) = false) ∧ ((!(inR a0 1 100000)) = false)) (by kernel_rfl) ⟨(nb (v := true) hb4), (nb (v := true) hb4), (ld_box (i := 0) rfl rfl (by kernel_rfl)), (nb (v := true) hb4), (nb (v := true) hb4), (nb (v := true) hb4)⟩ hS3 ?_
    refine l_nil rfl ?_
    refine then_n ?_
    rcases Bool.eq_false_or_eq_true (decide ((8 : Int) < ((a1n : Nat) : Int))) with hb5 | hb5
    · skip
      have hb5p := of_decide_eq_true hb5
      refine c_true (b := (decide ((8 : Int) < ((a1n : Nat) : Int)))) (by kernel_rfl) hb5 ?_
      refine wp_seq ?_
      refine c_reg ?_
      refine q_seg (S := (fun x_ => St w x_ [Res.box blk2 [Value.int .i64 a0, Value.slice a1A a1n a1c] 55])) [(2, Value.bool false)] [.no] True (by kernel_rfl) trivial hS3 ?_
      refine l_nil rfl ?_
      refine then_n ?_
      refine wp_ret ?_
      refine then_r ?_
      exact c_end (S := (fun x_ => St w x_ [Res.box blk2 [Value.int .i64 a0, Value.slice a1A a1n a1c] 55])) (rs := [.tmp 2]) rfl [] (v := Value.bool false) (C := True) (by kernel_rfl) trivial hS3 ((hS3.rv (congrArg Value.bool (vsend_f2 (n := a1n) (by rw [List.length_map]; exact hln) (by omega)))))
    · skip
      have hb5p := of_decide_eq_false hb5
      refine c_false (b := (decide ((8 : Int) < ((a1n : Nat) : Int)))) (by kernel_rfl) hb5 ?_
      refine wp_skip ?_
      refine then_n ?_
      refine wp_seq ?_
      refine c_reg ?_
      refine q_seg (S := (fun x_ => St w x_ [Res.box blk2 [Value.int .i64 a0, Value.slice a1A a1n a1c] 55])) [(3, Value.int .i64 (a0 - ((a1n : Nat) : Int))), (21, Value.int .i64 (a0 - ((a1n : Nat) : Int))), (20, Value.int .i64 ((a1n : Nat) : Int)), (19, Value.slice a1A a1n a1c), (18, Value.pointer (some ⟨blk2, 0 + 1, none⟩)), (17, Value.int .i64 a0), (16, Value.pointer (some ⟨blk2, 0 + 0, none⟩))] [.no, .v (Value.int .i64 a0), .no, .v (Value.slice a1A a1n a1c), .no, .no, .no] ((LoadsAt Try.prog (fun x_ => St w x_ [Res.box blk2 [Value.int .i64 a0, Value.slice a1A a1n a1c] 55]) 3 ⟨blk2, 0 + 0, none⟩ (Value.int .i64 a0)) ∧ (LoadsAt Try.prog (fun x_ => St w x_ [Res.box blk2 [Value.int .i64 a0, Value.slice a1A a1n a1c] 55]) 31 ⟨blk2, 0 + 1, none⟩ (Value.slice a1A a1n a1c)) ∧ (InK .i64 (a0 - ((a1n : Nat) : Int)))) (by kernel_rfl) ⟨(ld_box (i := 0) rfl rfl (by kernel_rfl)), (ld_box (i := 0) rfl rfl (by kernel_rfl)), (in64 (by omega) (by omega))⟩ hS3 ?_
      refine l_nil rfl ?_
      refine then_n ?_
      refine wp_seq ?_
      refine wp_seq ?_
      refine c_reg ?_
      refine q_seg (S := (fun x_ => St w x_ [Res.box blk2 [Value.int .i64 a0, Value.slice a1A a1n a1c] 55])) [(23, Value.bool (decide ((a0 - ((a1n : Nat) : Int)) < (1 : Int)))), (22, Value.int .i64 (a0 - ((a1n : Nat) : Int)))] [.no, .no] True (by kernel_rfl) trivial hS3 ?_
      refine l_nil rfl ?_
      refine then_n ?_
      rcases Bool.eq_false_or_eq_true (decide ((a0 - ((a1n : Nat) : Int)) < (1 : Int))) with hb6 | hb6
      · skip
        have hb6p := of_decide_eq_true hb6
        refine c_true (b := (decide ((a0 - ((a1n : Nat) : Int)) < (1 : Int)))) (by kernel_rfl) hb6 ?_
        refine wp_seq ?_
        refine c_reg ?_
        refine q_seg (S := (fun x_ => St w x_ [Res.box blk2 [Value.int .i64 a0, Value.slice a1A a1n a1c] 55])) [(2, Value.bool false)] [.no] True (by kernel_rfl) trivial hS3 ?_
        refine l_nil rfl ?_
        refine then_n ?_
        refine wp_ret ?_
        refine then_r ?_
        exact c_end (S := (fun x_ => St w x_ [Res.box blk2 [Value.int .i64 a0, Value.slice a1A a1n a1c] 55])) (rs := [.tmp 2]) rfl [] (v := Value.bool false) (C := True) (by kernel_rfl) trivial hS3 ((hS3.rv (congrArg Value.bool (vsend_f3 (n := a1n) (by rw [List.length_map]; exact hln) (by omega)))))
      · skip
        have hb6p := of_decide_eq_false hb6
        refine c_false (b := (decide ((a0 - ((a1n : Nat) : Int)) < (1 : Int)))) (by kernel_rfl) hb6 ?_
        refine wp_skip ?_
        refine then_n ?_
        refine wp_seq ?_
        refine wp_seq ?_
        refine c_reg ?_
        refine q_seg (S := (fun x_ => St w x_ [Res.box blk2 [Value.int .i64 a0, Value.slice a1A a1n a1c] 55])) [(27, Value.int .i64 0), (26, Value.int .i64 ((a1n : Nat) : Int)), (25, Value.slice a1A a1n a1c), (24, Value.pointer (some ⟨blk2, 0 + 1, none⟩))] [.no, .v (Value.slice a1A a1n a1c), .no, .no] ((LoadsAt Try.prog (fun x_ => St w x_ [Res.box blk2 [Value.int .i64 a0, Value.slice a1A a1n a1c] 55]) 31 ⟨blk2, 0 + 1, none⟩ (Value.slice a1A a1n a1c))) (by kernel_rfl) (ld_box (i := 0) rfl rfl (by kernel_rfl)) hS3 ?_
        refine l_nil rfl ?_
        refine then_n ?_
        refine wp_block ?_
        refine c_loop (X := Nat) (fun (k : Nat) => [(3, Value.int .i64 (a0 - ((a1n : Nat) : Int))), (25, Value.slice a1A a1n a1c), (26, Value.int .i64 ((a1n : Nat) : Int)), (27, Value.int .i64 ((k : Nat) : Int))]) (fun (k : Nat) (wr : World) => (k ≤ a1n) ∧ (allK (okS (a0 - ((a1n : Nat) : Int)) (ys.map (con true))) k = true) ∧ St w wr [Res.box blk2 [Value.int .i64 a0, Value.slice a1A a1n a1c] 55]) (fun (k : Nat) => a1n - k) 0 ?_ ?_ ?_
        · exact (agree_cons (by kernel_rfl) (agree_cons (by kernel_rfl) (agree_cons (by kernel_rfl) (agree_cons (by kernel_rfl) agree_nil))))
        · exact ⟨Nat.zero_le _, rfl, hS3⟩
        rintro k g8 w7 ⟨hkn, htk, hS7⟩
        refine wp_seq ?_
        refine c_reg ?_
        refine q_seg (S := (fun x_ => St w x_ [Res.box blk2 [Value.int .i64 a0, Value.slice a1A a1n a1c] 55])) [(28, Value.bool (decide (((k : Nat) : Int) < ((a1n : Nat) : Int))))] [.no] True (by kernel_rfl) trivial hS7 ?_
        refine l_nil rfl ?_
        refine then_n ?_
        refine wp_seq ?_
        rcases Bool.eq_false_or_eq_true (decide (((k : Nat) : Int) < ((a1n : Nat) : Int))) with hb9 | hb9
        · skip
          have hb9p := of_decide_eq_true hb9
          obtain ⟨b, off, rfl, hbB, hcl⟩ := hr.at (k := k) (by omega)
          obtain ⟨y, hyk, hym⟩ := get_of_lt (l := ys) (k := k) (by have := hr.len; omega)
          obtain ⟨hy1, hy2, hy3⟩ := hr.el y hym
          obtain ⟨hyi, hyz⟩ := hok _ (List.mem_map_of_mem (f := (con true)) hym)
          have hyl : y.zs.length + 1 ≤ wt (ys.map (con true)) := wt_mem (List.mem_map_of_mem (f := (con true)) hym)
          have hyz2 := hy2
          unfold maxLen at hy3
          refine c_true (b := (decide (((k : Nat) : Int) < ((a1n : Nat) : Int)))) (by kernel_rfl) hb9 ?_
          refine wp_skip ?_
          refine then_n ?_
          refine wp_seq ?_
          refine wp_block ?_
          refine wp_seq ?_
          refine c_reg ?_
          refine q_seg (S := (fun x_ => St w x_ [Res.box blk2 [Value.int .i64 a0, Value.slice (some ⟨b, off, none⟩) a1n a1c] 55])) [(31, Value.agg #[Value.int .i64 y.s, Value.slice y.A y.zs.length y.c]), (30, Value.pointer (some ⟨b, off + Int.toNat ((k : Nat) : Int) * 2, none⟩)), (29, Value.int .i64 ((k : Nat) : Int))] [.no, .no, .v (Value.agg #[Value.int .i64 y.s, Value.slice y.A y.zs.length y.c])] (((0 : Int) ≤ ((k : Nat) : Int)) ∧ (((k : Nat) : Int) < ((a1n : Nat) : Int)) ∧ (LoadsAt Try.prog (fun x_ => St w x_ [Res.box blk2 [Value.int .i64 a0, Value.slice (some ⟨b, off, none⟩) a1n a1c] 55]) 37 ⟨b, off + Int.toNat ((k : Nat) : Int) * 2, none⟩ (Value.agg #[Value.int .i64 y.s, Value.slice y.A y.zs.length y.c]))) (by kernel_rfl) ⟨(by omega), (by omega), (ld_lowN (k := 2) (vs := [Value.int .i64 y.s, Value.slice y.A y.zs.length y.c]) (by kernel_rfl) rfl (flat_cells (p := true) hcl hyk))⟩ hS7 ?_
          refine l_op rfl rfl (fun K hK => op_alloc (d := some 5) rfl rfl [Value.int .i64 0, Value.slice none 0 0] (by kernel_rfl) hS7 (fun blk11 w10 hS10 => hK _ _ ?_))
          clear hK K
          refine q_seg (S := (fun x_ => St w x_ [Res.box blk11 [Value.int .i64 0, Value.slice none 0 0] 37, Res.box blk2 [Value.int .i64 a0, Value.slice (some ⟨b, off, none⟩) a1n a1c] 55])) [(4, Value.int .i64 ((k : Nat) : Int))] [.no] True (by kernel_rfl) trivial hS10 ?_
          refine l_op rfl rfl (fun K hK => op_store (d := none) rfl rfl (i := 0) (b := blk11) (off := 0) (cs := [Value.int .i64 0, Value.slice none 0 0]) (bt := 37) (by kernel_rfl) (by kernel_rfl) [Value.int .i64 y.s, Value.slice y.A y.zs.length y.c] (by kernel_rfl) (by kernel_rfl) (Nat.le_of_ble_eq_true (by kernel_rfl)) (by kernel_rfl) [Res.box blk11 [Value.int .i64 y.s, Value.slice y.A y.zs.length y.c] 37, Res.box blk2 [Value.int .i64 a0, Value.slice (some ⟨b, off, none⟩) a1n a1c] 55] (by kernel_rfl) hS10 (fun w12 hS12 => hK _ _ ?_))
          clear hK K
          refine l_nil rfl ?_
          refine then_n ?_
          refine wp_seq ?_
          refine c_reg ?_
          refine q_seg (S := (fun x_ => St w x_ [Res.box blk11 [Value.int .i64 y.s, Value.slice y.A y.zs.length y.c] 37, Res.box blk2 [Value.int .i64 a0, Value.slice (some ⟨b, off, none⟩) a1n a1c] 55])) [(38, Value.bool (!(decide (y.s = ((a0 - ((a1n : Nat) : Int)) + ((k : Nat) : Int)))))), (37, Value.bool (!(decide (y.s = ((a0 - ((a1n : Nat) : Int)) + ((k : Nat) : Int)))))), (36, Value.int .i64 ((a0 - ((a1n : Nat) : Int)) + ((k : Nat) : Int))), (35, Value.int .i64 ((k : Nat) : Int)), (34, Value.int .i64 (a0 - ((a1n : Nat) : Int))), (33, Value.int .i64 y.s), (32, Value.pointer (some ⟨blk11, 0 + 0, none⟩))] [.no, .v (Value.int .i64 y.s), .no, .no, .no, .no, .no] ((LoadsAt Try.prog (fun x_ => St w x_ [Res.box blk11 [Value.int .i64 y.s, Value.slice y.A y.zs.length y.c] 37, Res.box blk2 [Value.int .i64 a0, Value.slice (some ⟨b, off, none⟩) a1n a1c] 55]) 3 ⟨blk11, 0 + 0, none⟩ (Value.int .i64 y.s)) ∧ (InK .i64 ((a0 - ((a1n : Nat) : Int)) + ((k : Nat) : Int)))) (by kernel_rfl) ⟨(ld_box (i := 0) rfl rfl (by kernel_rfl)), (in64 (by omega) (by omega))⟩ hS12 ?_
          rcases Bool.eq_false_or_eq_true (decide (y.s = ((a0 - ((a1n : Nat) : Int)) + ((k : Nat) : Int)))) with hb13 | hb13
          · skip
            have hb13p := of_decide_eq_true hb13
            refine q_seg (S := (fun x_ => St w x_ [Res.box blk11 [Value.int .i64 y.s, Value.slice y.A y.zs.length y.c] 37, Res.box blk2 [Value.int .i64 a0, Value.slice (some ⟨b, off, none⟩) a1n a1c] 55])) [(43, Value.bool (decide ((60 : Int) < ((y.zs.length : Nat) : Int)))), (42, Value.bool (decide ((60 : Int) < ((y.zs.length : Nat) : Int)))), (41, Value.int .i64 ((y.zs.length : Nat) : Int)), (40, Value.slice y.A y.zs.length y.c), (39, Value.pointer (some ⟨blk11, 0 + 1, none⟩))] [.no, .v (Value.slice y.A y.zs.length y.c), .no, .no, .v (.bool false)] (((!(decide (y.s = ((a0 - ((a1n : Nat) : Int)) + ((k : Nat) : Int))))) = false) ∧ ((!(decide (y.s = ((a0 - ((a1n : Nat) : Int)) + ((k : Nat) : Int))))) = false) ∧ (LoadsAt Try.prog (fun x_ => St w x_ [Res.box blk11 [Value.int .i64 y.s, Value.slice y.A y.zs.length y.c] 37, Res.box blk2 [Value.int .i64 a0, Value.slice (some ⟨b, off, none⟩) a1n a1c] 55]) 26 ⟨blk11, 0 + 1, none⟩ (Value.slice y.A y.zs.length y.c)) ∧ ((!(decide (y.s = ((a0 - ((a1n : Nat) : Int)) + ((k : Nat) : Int))))) = false) ∧ ((!(decide (y.s = ((a0 - ((a1n : Nat) : Int)) + ((k : Nat) : Int))))) = false) ∧ ((!(decide (y.s = ((a0 - ((a1n : Nat) : Int)) + ((k : Nat) : Int))))) = false)) (by kernel_rfl) ⟨(nb (v := true) hb13), (nb (v := true) hb13), (ld_box (i := 0) rfl rfl (by kernel_rfl)), (nb (v := true) hb13), (nb (v := true) hb13), (nb (v := true) hb13)⟩ hS12 ?_
            refine l_nil rfl ?_
            refine then_n ?_
            rcases Bool.eq_false_or_eq_true (decide ((60 : Int) < ((y.zs.length : Nat) : Int))) with hb14 | hb14
            · skip
              have hb14p := of_decide_eq_true hb14
              refine c_true (b := (decide ((60 : Int) < ((y.zs.length : Nat) : Int)))) (by kernel_rfl) hb14 ?_
              refine wp_seq ?_
              refine c_reg ?_
              refine q_seg (S := (fun x_ => St w x_ [Res.box blk11 [Value.int .i64 y.s, Value.slice y.A y.zs.length y.c] 37, Res.box blk2 [Value.int .i64 a0, Value.slice (some ⟨b, off, none⟩) a1n a1c] 55])) [(2, Value.bool false)] [.no] True (by kernel_rfl) trivial hS12 ?_
              refine l_nil rfl ?_
              refine then_n ?_
              refine wp_ret ?_
              refine blk_r ?_
              refine then_r ?_
              refine then_r ?_
              refine blk_r ?_
              refine then_r ?_
              exact c_end (S := (fun x_ => St w x_ [Res.box blk11 [Value.int .i64 y.s, Value.slice y.A y.zs.length y.c] 37, Res.box blk2 [Value.int .i64 a0, Value.slice (some ⟨b, off, none⟩) a1n a1c] 55])) (rs := [.tmp 2]) rfl [] (v := Value.bool false) (C := True) (by kernel_rfl) trivial hS12 ((hS12.rv (congrArg Value.bool (vsend_f4 (n := a1n) (k := k) (by rw [List.length_map]; exact hln) (by omega) (okS_f2 (con_get hyk) (by show 60 < y.zs.length; omega))))))
            · skip
              have hb14p := of_decide_eq_false hb14
              refine c_false (b := (decide ((60 : Int) < ((y.zs.length : Nat) : Int)))) (by kernel_rfl) hb14 ?_
              refine wp_skip ?_
              refine blk_n ?_
              refine then_n ?_
              refine c_reg ?_
              refine q_seg (S := (fun x_ => St w x_ [Res.box blk11 [Value.int .i64 y.s, Value.slice y.A y.zs.length y.c] 37, Res.box blk2 [Value.int .i64 a0, Value.slice (some ⟨b, off, none⟩) a1n a1c] 55])) [(27, Value.int .i64 (((k : Nat) : Int) + (1 : Int))), (44, Value.int .i64 (((k : Nat) : Int) + (1 : Int)))] [.no, .no] ((InK .i64 (((k : Nat) : Int) + (1 : Int)))) (by kernel_rfl) (in64 (by omega) (by omega)) hS12 ?_
              refine l_nil rfl ?_
              refine then_n ?_
              refine round_end (k + 1) ?_ ?_ ?_
              · exact (agree_cons (by kernel_rfl) (agree_cons (by kernel_rfl) (agree_cons (by kernel_rfl) (agree_cons (by kernel_rfl) agree_nil))))
              · exact ⟨(by omega), (allK_step htk (okS_t (con_get hyk) (by show y.s = _; omega) (by show y.zs.length ≤ 60; omega))), hS12.drop⟩
              · exact (by first | omega | (dsimp only; omega))
          · skip
            have hb13p := of_decide_eq_false hb13
            refine q_seg (S := (fun x_ => St w x_ [Res.box blk11 [Value.int .i64 y.s, Value.slice y.A y.zs.length y.c] 37, Res.box blk2 [Value.int .i64 a0, Value.slice (some ⟨b, off, none⟩) a1n a1c] 55])) [(43, Value.bool true), (42, undef), (41, undef), (40, undef), (39, undef)] [.skip, .skip, .skip, .skip, .v (.bool true)] (((!(decide (y.s = ((a0 - ((a1n : Nat) : Int)) + ((k : Nat) : Int))))) = !false) ∧ ((!(decide (y.s = ((a0 - ((a1n : Nat) : Int)) + ((k : Nat) : Int))))) = !false) ∧ ((!(decide (y.s = ((a0 - ((a1n : Nat) : Int)) + ((k : Nat) : Int))))) = !false) ∧ ((!(decide (y.s = ((a0 - ((a1n : Nat) : Int)) + ((k : Nat) : Int))))) = !false) ∧ ((!(decide (y.s = ((a0 - ((a1n : Nat) : Int)) + ((k : Nat) : Int))))) = true)) (by kernel_rfl) ⟨(nb (v := false) hb13), (nb (v := false) hb13), (nb (v := false) hb13), (nb (v := false) hb13), (nb (v := false) hb13)⟩ hS12 ?_
            refine l_nil rfl ?_
            refine then_n ?_
            refine c_true (b := true) (by kernel_rfl) rfl ?_
            refine wp_seq ?_
            refine c_reg ?_
            refine q_seg (S := (fun x_ => St w x_ [Res.box blk11 [Value.int .i64 y.s, Value.slice y.A y.zs.length y.c] 37, Res.box blk2 [Value.int .i64 a0, Value.slice (some ⟨b, off, none⟩) a1n a1c] 55])) [(2, Value.bool false)] [.no] True (by kernel_rfl) trivial hS12 ?_
            refine l_nil rfl ?_
            refine then_n ?_
            refine wp_ret ?_
            refine blk_r ?_
            refine then_r ?_
            refine then_r ?_
            refine blk_r ?_
            refine then_r ?_
            exact c_end (S := (fun x_ => St w x_ [Res.box blk11 [Value.int .i64 y.s, Value.slice y.A y.zs.length y.c] 37, Res.box blk2 [Value.int .i64 a0, Value.slice (some ⟨b, off, none⟩) a1n a1c] 55])) (rs := [.tmp 2]) rfl [] (v := Value.bool false) (C := True) (by kernel_rfl) trivial hS12 ((hS12.rv (congrArg Value.bool (vsend_f4 (n := a1n) (k := k) (by rw [List.length_map]; exact hln) (by omega) (okS_f1 (con_get hyk) (by show y.s ≠ _; omega))))))
        · skip
          have hb9p := of_decide_eq_false hb9
          refine c_false (b := (decide (((k : Nat) : Int) < ((a1n : Nat) : Int)))) (by kernel_rfl) hb9 ?_
          refine wp_exit ?_
          refine then_x ?_
          refine then_x ?_
          refine blk_hit ?_
          refine then_n ?_
          refine wp_seq ?_
          refine c_reg ?_
          refine q_seg (S := (fun x_ => St w x_ [Res.box blk2 [Value.int .i64 a0, Value.slice a1A a1n a1c] 55])) [(2, Value.bool true)] [.no] True (by kernel_rfl) trivial hS7 ?_
          refine l_nil rfl ?_
          refine then_n ?_
          refine wp_ret ?_
          exact c_end (S := (fun x_ => St w x_ [Res.box blk2 [Value.int .i64 a0, Value.slice a1A a1n a1c] 55])) (rs := [.tmp 2]) rfl [] (v := Value.bool true) (C := True) (by kernel_rfl) trivial hS7 ((hS7.rv (congrArg Value.bool (vsend_t (n := a1n) (by rw [List.length_map]; exact hln) (inR_true (by omega) (by omega)) (by omega) (by omega) (by rw [show k = a1n by omega] at htk; exact htk)))))
  · skip
    have hb4p := inR_neg hb4
    refine q_seg (S := (fun x_ => St w x_ [Res.box blk2 [Value.int .i64 a0, Value.slice a1A a1n a1c] 55])) [(15, Value.bool true), (14, undef), (13, undef), (12, undef), (11, undef)] [.skip, .skip, .skip, .skip, .v (.bool true)] (((!(inR a0 1 100000)) = !false) ∧ ((!(inR a0 1 100000)) = !false) ∧ ((!(inR a0 1 100000)) = !false) ∧ ((!(inR a0 1 100000)) = !false) ∧ ((!(inR a0 1 100000)) = true)) (by kernel_rfl) ⟨(nb (v := false) hb4), (nb (v := false) hb4), (nb (v := false) hb4), (nb (v := false) hb4), (nb (v := false) hb4)⟩ hS3 ?_
    refine l_nil rfl ?_
    refine then_n ?_
    refine c_true (b := true) (by kernel_rfl) rfl ?_
    refine wp_seq ?_
    refine c_reg ?_
    refine q_seg (S := (fun x_ => St w x_ [Res.box blk2 [Value.int .i64 a0, Value.slice a1A a1n a1c] 55])) [(2, Value.bool false)] [.no] True (by kernel_rfl) trivial hS3 ?_
    refine l_nil rfl ?_
    refine then_n ?_
    refine wp_ret ?_
    refine then_r ?_
    exact c_end (S := (fun x_ => St w x_ [Res.box blk2 [Value.int .i64 a0, Value.slice a1A a1n a1c] 55])) (rs := [.tmp 2]) rfl [] (v := Value.bool false) (C := True) (by kernel_rfl) trivial hS3 ((hS3.rv (congrArg Value.bool (vsend_f1 hb4))))
theorem IsValidSender_s_in (a0 : Int) (a1A : Option Addr) (a1n a1c : Nat) (a1L : List (Int × List Int)) (w : World) (a0h : I64 a0) (a1h : RdL .u8 true w w.heap.size a1A a1n a1L) (a1w : wt a1L ≤ 1099511627776) (hR : 1 ≤ a0 ∧ a0 ≤ 100000) : Calls Try.prog 30 #[Value.agg #[Value.int .i64 a0, Value.slice a1A a1n a1c]] w (RetV w (.bool (vsend a0 a1L))) := by
  obtain ⟨a0h1, a0h2⟩ := a0h
  obtain ⟨hok, ys, hr, rfl⟩ := a1h
  have hwl := wt_len (ys.map (con true))
  have hln := hr.len
  rw [List.length_map] at hwl
  refine calls_FA Try.func30 rfl (n := 54) rfl (l := [(0, Value.agg #[Value.int .i64 a0, Value.slice a1A a1n a1c])]) rfl (by simp) (fun g => ?_)
  have hS := St.init w
  refine wp_seq ?_
  refine c_reg ?_
  refine l_op rfl rfl (fun K hK => op_box (d := some 1) rfl rfl [Value.int .i64 a0, Value.slice a1A a1n a1c] (by kernel_rfl) hS (fun blk2 w1 hS1 => hK _ _ ?_))
  clear hK K
  refine q_seg (S := (fun x_ => St w x_ [Res.box blk2 [Value.int .i64 a0, Value.slice a1A a1n a1c] 55])) [(2, Value.bool false)] [.no] True (by kernel_rfl) trivial hS1 ?_
  refine l_nil rfl ?_
  refine then_n ?_
  refine wp_seq ?_
  refine wp_seq ?_
  refine c_reg ?_
  refine q_seg (S := (fun x_ => St w x_ [Res.box blk2 [Value.int .i64 a0, Value.slice a1A a1n a1c] 55])) [(3, Value.int .i64 0)] [.no] True (by kernel_rfl) trivial hS1 ?_
  refine l_nil rfl ?_
  refine then_n ?_
  refine wp_block ?_
  refine c_loop (X := Nat) (fun (k : Nat) => [(1, Value.pointer (some ⟨blk2, 0, none⟩)), (3, Value.int .i64 ((k : Nat) : Int))]) (fun (k : Nat) (wr : World) => (k ≤ a1n) ∧ (allK (okS (a0 - ((a1n : Nat) : Int)) (ys.map (con true))) k = true) ∧ St w wr [Res.box blk2 [Value.int .i64 a0, Value.slice a1A a1n a1c] 55]) (fun (k : Nat) => a1n - k) 0 ?_ ?_ ?_
  · exact (agree_cons (by kernel_rfl) (agree_cons (by kernel_rfl) agree_nil))
  · exact ⟨Nat.zero_le _, rfl, hS1⟩
  rintro k g4 w3 ⟨hkn, htk, hS3⟩
  refine wp_seq ?_
  refine wp_seq ?_
  refine c_reg ?_
  refine q_seg (S := (fun x_ => St w x_ [Res.box blk2 [Value.int .i64 a0, Value.slice a1A a1n a1c] 55])) [(8, Value.bool (decide (((k : Nat) : Int) < ((a1n : Nat) : Int)))), (7, Value.int .i64 ((a1n : Nat) : Int)), (6, Value.slice a1A a1n a1c), (5, Value.pointer (some ⟨blk2, 0 + 1, none⟩)), (4, Value.int .i64 ((k : Nat) : Int))] [.no, .no, .v (Value.slice a1A a1n a1c), .no, .no] ((LoadsAt Try.prog (fun x_ => St w x_ [Res.box blk2 [Value.int .i64 a0, Value.slice a1A a1n a1c] 55]) 31 ⟨blk2, 0 + 1, none⟩ (Value.slice a1A a1n a1c))) (by kernel_rfl) (ld_box (i := 0) rfl rfl (by kernel_rfl)) hS3 ?_
  refine l_nil rfl ?_
  refine then_n ?_
  rcases Bool.eq_false_or_eq_true (decide (((k : Nat) : Int) < ((a1n : Nat) : Int))) with hb5 | hb5
  · skip
    have hb5p := of_decide_eq_true hb5
    obtain ⟨b, off, rfl, hbB, hcl⟩ := hr.at (k := k) (by omega)
    obtain ⟨y, hyk, hym⟩ := get_of_lt (l := ys) (k := k) (by have := hr.len; omega)
    obtain ⟨hy1, hy2, hy3⟩ := hr.el y hym
    obtain ⟨hyi, hyz⟩ := hok _ (List.mem_map_of_mem (f := (con true)) hym)
    have hyl : y.zs.length + 1 ≤ wt (ys.map (con true)) := wt_mem (List.mem_map_of_mem (f := (con true)) hym)
    have hyz2 := hy2
    unfold maxLen at hy3
    refine c_true (b := (decide (((k : Nat) : Int) < ((a1n : Nat) : Int)))) (by kernel_rfl) hb5 ?_
    refine wp_skip ?_
    refine then_n ?_
    refine wp_seq ?_
    refine wp_block ?_
    refine wp_seq ?_
    refine c_drawn [] (by kernel_rfl) hS3 (fun w6 hS6 => ?_)
    refine t_seg (S := (fun x_ => St w x_ [Res.box blk2 [Value.int .i64 a0, Value.slice (some ⟨b, off, none⟩) a1n a1c] 55])) [(0, .no), (2, .no), (6, .no), (8, .no), (12, .no), (1, .v (Value.slice (some ⟨b, off, none⟩) a1n a1c)), (7, .v (Value.int .i64 a0)), (9, .v (Value.slice (some ⟨b, off, none⟩) a1n a1c)), (3, .no), (10, .no), (4, .no), (11, .no), (5, .v (Value.int .i64 y.s)), (13, .no), (14, .no), (15, .no)] 9 #[true, true, true, true, true, true, true, true, true, true, true, true, true, true, true, true, false, false, false, false, false, false, false, false, false] [(26, Value.bool (!(decide (y.s = ((a0 - ((a1n : Nat) : Int)) + ((k : Nat) : Int)))))), (25, Value.bool (!(decide (y.s = ((a0 - ((a1n : Nat) : Int)) + ((k : Nat) : Int)))))), (24, Value.int .i64 ((a0 - ((a1n : Nat) : Int)) + ((k : Nat) : Int))), (16, Value.int .i64 y.s), (22, Value.int .i64 (a0 - ((a1n : Nat) : Int))), (15, Value.pointer (some ⟨b, off + Int.toNat ((k : Nat) : Int) * 2 + 0, none⟩)), (21, Value.int .i64 ((a1n : Nat) : Int)), (14, Value.pointer (some ⟨b, off + Int.toNat ((k : Nat) : Int) * 2, none⟩)), (20, Value.slice (some ⟨b, off, none⟩) a1n a1c), (18, Value.int .i64 a0), (12, Value.slice (some ⟨b, off, none⟩) a1n a1c), (23, Value.int .i64 ((k : Nat) : Int)), (19, Value.pointer (some ⟨blk2, 0 + 1, none⟩)), (17, Value.pointer (some ⟨blk2, 0 + 0, none⟩)), (13, Value.int .i64 ((k : Nat) : Int)), (11, Value.pointer (some ⟨blk2, 0 + 1, none⟩))] ((LoadsAt Try.prog (fun x_ => St w x_ [Res.box blk2 [Value.int .i64 a0, Value.slice (some ⟨b, off, none⟩) a1n a1c] 55]) 31 ⟨blk2, 0 + 1, none⟩ (Value.slice (some ⟨b, off, none⟩) a1n a1c)) ∧ (LoadsAt Try.prog (fun x_ => St w x_ [Res.box blk2 [Value.int .i64 a0, Value.slice (some ⟨b, off, none⟩) a1n a1c] 55]) 3 ⟨blk2, 0 + 0, none⟩ (Value.int .i64 a0)) ∧ (LoadsAt Try.prog (fun x_ => St w x_ [Res.box blk2 [Value.int .i64 a0, Value.slice (some ⟨b, off, none⟩) a1n a1c] 55]) 31 ⟨blk2, 0 + 1, none⟩ (Value.slice (some ⟨b, off, none⟩) a1n a1c)) ∧ ((0 : Int) ≤ ((k : Nat) : Int)) ∧ (((k : Nat) : Int) < ((a1n : Nat) : Int)) ∧ (InK .i64 (a0 - ((a1n : Nat) : Int))) ∧ (LoadsAt Try.prog (fun x_ => St w x_ [Res.box blk2 [Value.int .i64 a0, Value.slice (some ⟨b, off, none⟩) a1n a1c] 55]) 3 ⟨b, off + Int.toNat ((k : Nat) : Int) * 2 + 0, none⟩ (Value.int .i64 y.s)) ∧ (InK .i64 ((a0 - ((a1n : Nat) : Int)) + ((k : Nat) : Int)))) (by kernel_rfl) (Qpanic.then (Qpanic.block (Qpanic.then (Qpanic.then (Qpanic.block (Qpanic.then Qpanic.bp)))))) rfl (by kernel_rfl) ⟨(ld_box (i := 0) rfl rfl (by kernel_rfl)), (ld_box (i := 0) rfl rfl (by kernel_rfl)), (ld_box (i := 0) rfl rfl (by kernel_rfl)), (by omega), (by omega), (in64 (by omega) (by omega)), (ld_low (flat_cell (p := true) (r := 0) hcl hyk rfl) (by kernel_rfl)), (in64 (by omega) (by omega))⟩ hS6 ?_
    rcases Bool.eq_false_or_eq_true (decide (y.s = ((a0 - ((a1n : Nat) : Int)) + ((k : Nat) : Int)))) with hb7 | hb7
    · skip
      have hb7p := of_decide_eq_true hb7
      refine t_seg (S := (fun x_ => St w x_ [Res.box blk2 [Value.int .i64 a0, Value.slice (some ⟨b, off, none⟩) a1n a1c] 55])) [(16, .no), (18, .no), (17, .v (Value.slice (some ⟨b, off, none⟩) a1n a1c)), (19, .no), (20, .no), (21, .v (Value.slice y.A y.zs.length y.c)), (22, .no), (23, .no), (24, .v (.bool false))] 0 #[true, true, true, true, true, true, true, true, true, true, true, true, true, true, true, true, true, true, true, true, true, true, true, true, true] [(35, Value.bool (decide ((60 : Int) < ((y.zs.length : Nat) : Int)))), (34, Value.bool (decide ((60 : Int) < ((y.zs.length : Nat) : Int)))), (33, Value.int .i64 ((y.zs.length : Nat) : Int)), (32, Value.slice y.A y.zs.length y.c), (31, Value.pointer (some ⟨b, off + Int.toNat ((k : Nat) : Int) * 2 + 1, none⟩)), (30, Value.pointer (some ⟨b, off + Int.toNat ((k : Nat) : Int) * 2, none⟩)), (28, Value.slice (some ⟨b, off, none⟩) a1n a1c), (29, Value.int .i64 ((k : Nat) : Int)), (27, Value.pointer (some ⟨blk2, 0 + 1, none⟩))] (((!(decide (y.s = ((a0 - ((a1n : Nat) : Int)) + ((k : Nat) : Int))))) = false) ∧ ((!(decide (y.s = ((a0 - ((a1n : Nat) : Int)) + ((k : Nat) : Int))))) = false) ∧ ((!(decide (y.s = ((a0 - ((a1n : Nat) : Int)) + ((k : Nat) : Int))))) = false) ∧ (LoadsAt Try.prog (fun x_ => St w x_ [Res.box blk2 [Value.int .i64 a0, Value.slice (some ⟨b, off, none⟩) a1n a1c] 55]) 31 ⟨blk2, 0 + 1, none⟩ (Value.slice (some ⟨b, off, none⟩) a1n a1c)) ∧ ((!(decide (y.s = ((a0 - ((a1n : Nat) : Int)) + ((k : Nat) : Int))))) = false) ∧ ((0 : Int) ≤ ((k : Nat) : Int)) ∧ (((k : Nat) : Int) < ((a1n : Nat) : Int)) ∧ ((!(decide (y.s = ((a0 - ((a1n : Nat) : Int)) + ((k : Nat) : Int))))) = false) ∧ ((!(decide (y.s = ((a0 - ((a1n : Nat) : Int)) + ((k : Nat) : Int))))) = false) ∧ (LoadsAt Try.prog (fun x_ => St w x_ [Res.box blk2 [Value.int .i64 a0, Value.slice (some ⟨b, off, none⟩) a1n a1c] 55]) 26 ⟨b, off + Int.toNat ((k : Nat) : Int) * 2 + 1, none⟩ (Value.slice y.A y.zs.length y.c)) ∧ ((!(decide (y.s = ((a0 - ((a1n : Nat) : Int)) + ((k : Nat) : Int))))) = false) ∧ ((!(decide (y.s = ((a0 - ((a1n : Nat) : Int)) + ((k : Nat) : Int))))) = false) ∧ ((!(decide (y.s = ((a0 - ((a1n : Nat) : Int)) + ((k : Nat) : Int))))) = false)) (by kernel_rfl) (Qpanic.then (Qpanic.block (Qpanic.then (Qpanic.then (Qpanic.block (Qpanic.then Qpanic.bp)))))) rfl (by kernel_rfl) ⟨(nb (v := true) hb7), (nb (v := true) hb7), (nb (v := true) hb7), (ld_box (i := 0) rfl rfl (by kernel_rfl)), (nb (v := true) hb7), (by omega), (by omega), (nb (v := true) hb7), (nb (v := true) hb7), (ld_low (flat_cell (p := true) (r := 1) hcl hyk rfl) (by kernel_rfl)), (nb (v := true) hb7), (nb (v := true) hb7), (nb (v := true) hb7)⟩ hS6 ?_
      refine a_done (by kernel_rfl) ?_
      refine then_n ?_
      rcases Bool.eq_false_or_eq_true (decide ((60 : Int) < ((y.zs.length : Nat) : Int))) with hb8 | hb8
      · skip
        have hb8p := of_decide_eq_true hb8
        refine c_true (b := (decide ((60 : Int) < ((y.zs.length : Nat) : Int)))) (by kernel_rfl) hb8 ?_
        refine wp_seq ?_
        refine c_reg ?_
        refine q_seg (S := (fun x_ => St w x_ [Res.box blk2 [Value.int .i64 a0, Value.slice (some ⟨b, off, none⟩) a1n a1c] 55])) [(2, Value.bool false)] [.no] True (by kernel_rfl) trivial hS6 ?_
        refine l_nil rfl ?_
        refine then_n ?_
        refine wp_ret ?_
        refine blk_r ?_
        refine then_r ?_
        refine then_r ?_
        refine blk_r ?_
        refine then_r ?_
        exact c_end (S := (fun x_ => St w x_ [Res.box blk2 [Value.int .i64 a0, Value.slice (some ⟨b, off, none⟩) a1n a1c] 55])) (rs := [.tmp 2]) rfl [] (v := Value.bool false) (C := True) (by kernel_rfl) trivial hS6 ((hS6.rv (congrArg Value.bool (vsend_f4 (n := a1n) (k := k) (by rw [List.length_map]; exact hln) (by omega) (okS_f2 (con_get hyk) (by show 60 < y.zs.length; omega))))))
      · skip
        have hb8p := of_decide_eq_false hb8
        refine c_false (b := (decide ((60 : Int) < ((y.zs.length : Nat) : Int)))) (by kernel_rfl) hb8 ?_
        refine wp_skip ?_
        refine blk_n ?_
        refine then_n ?_
        refine c_reg ?_
        refine q_seg (S := (fun x_ => St w x_ [Res.box blk2 [Value.int .i64 a0, Value.slice (some ⟨b, off, none⟩) a1n a1c] 55])) [(3, Value.int .i64 (((k : Nat) : Int) + (1 : Int))), (10, Value.int .i64 (((k : Nat) : Int) + (1 : Int))), (9, Value.int .i64 ((k : Nat) : Int))] [.no, .no, .no] ((InK .i64 (((k : Nat) : Int) + (1 : Int)))) (by kernel_rfl) (in64 (by omega) (by omega)) hS6 ?_
        refine l_nil rfl ?_
        refine then_n ?_
        refine round_end (k + 1) ?_ ?_ ?_
        · exact (agree_cons (by kernel_rfl) (agree_cons (by kernel_rfl) agree_nil))
        · exact ⟨(by omega), (allK_step htk (okS_t (con_get hyk) (by show y.s = _; omega) (by show y.zs.length ≤ 60; omega))), hS6⟩
        · exact (by first | omega | (dsimp only; omega))
    · skip
      have hb7p := of_decide_eq_false hb7
      refine t_seg (S := (fun x_ => St w x_ [Res.box blk2 [Value.int .i64 a0, Value.slice (some ⟨b, off, none⟩) a1n a1c] 55])) [(16, .skip), (18, .skip), (17, .skip), (19, .skip), (20, .skip), (21, .skip), (22, .skip), (23, .skip), (24, .v (.bool true))] 0 #[true, true, true, true, true, true, true, true, true, true, true, true, true, true, true, true, true, true, true, true, true, true, true, true, true] [(35, Value.bool true), (34, undef), (33, undef), (32, undef), (31, undef), (30, undef), (28, undef), (29, undef), (27, undef)] (((!(decide (y.s = ((a0 - ((a1n : Nat) : Int)) + ((k : Nat) : Int))))) = !false) ∧ ((!(decide (y.s = ((a0 - ((a1n : Nat) : Int)) + ((k : Nat) : Int))))) = !false) ∧ ((!(decide (y.s = ((a0 - ((a1n : Nat) : Int)) + ((k : Nat) : Int))))) = !false) ∧ ((!(decide (y.s = ((a0 - ((a1n : Nat) : Int)) + ((k : Nat) : Int))))) = !false) ∧ ((!(decide (y.s = ((a0 - ((a1n : Nat) : Int)) + ((k : Nat) : Int))))) = !false) ∧ ((!(decide (y.s = ((a0 - ((a1n : Nat) : Int)) + ((k : Nat) : Int))))) = !false) ∧ ((!(decide (y.s = ((a0 - ((a1n : Nat) : Int)) + ((k : Nat) : Int))))) = !false) ∧ ((!(decide (y.s = ((a0 - ((a1n : Nat) : Int)) + ((k : Nat) : Int))))) = !false) ∧ ((!(decide (y.s = ((a0 - ((a1n : Nat) : Int)) + ((k : Nat) : Int))))) = true)) (by kernel_rfl) (Qpanic.then (Qpanic.block (Qpanic.then (Qpanic.then (Qpanic.block (Qpanic.then Qpanic.bp)))))) rfl (by kernel_rfl) ⟨(nb (v := false) hb7), (nb (v := false) hb7), (nb (v := false) hb7), (nb (v := false) hb7), (nb (v := false) hb7), (nb (v := false) hb7), (nb (v := false) hb7), (nb (v := false) hb7), (nb (v := false) hb7)⟩ hS6 ?_
      refine a_done (by kernel_rfl) ?_
      refine then_n ?_
      refine c_true (b := true) (by kernel_rfl) rfl ?_
      refine wp_seq ?_
      refine c_reg ?_
      refine q_seg (S := (fun x_ => St w x_ [Res.box blk2 [Value.int .i64 a0, Value.slice (some ⟨b, off, none⟩) a1n a1c] 55])) [(2, Value.bool false)] [.no] True (by kernel_rfl) trivial hS6 ?_
      refine l_nil rfl ?_
      refine then_n ?_
      refine wp_ret ?_
      refine blk_r ?_
      refine then_r ?_
      refine then_r ?_
      refine blk_r ?_
      refine then_r ?_
      exact c_end (S := (fun x_ => St w x_ [Res.box blk2 [Value.int .i64 a0, Value.slice (some ⟨b, off, none⟩) a1n a1c] 55])) (rs := [.tmp 2]) rfl [] (v := Value.bool false) (C := True) (by kernel_rfl) trivial hS6 ((hS6.rv (congrArg Value.bool (vsend_f4 (n := a1n) (k := k) (by rw [List.length_map]; exact hln) (by omega) (okS_f1 (con_get hyk) (by show y.s ≠ _; omega))))))
  · skip
    have hb5p := of_decide_eq_false hb5
    refine c_false (b := (decide (((k : Nat) : Int) < ((a1n : Nat) : Int)))) (by kernel_rfl) hb5 ?_
    refine wp_exit ?_
    refine then_x ?_
    refine then_x ?_
    refine blk_hit ?_
    refine then_n ?_
    refine wp_seq ?_
    refine c_reg ?_
    refine q_seg (S := (fun x_ => St w x_ [Res.box blk2 [Value.int .i64 a0, Value.slice a1A a1n a1c] 55])) [(37, Value.int .i64 a0), (36, Value.pointer (some ⟨blk2, 0 + 0, none⟩))] [.no, .v (Value.int .i64 a0)] ((LoadsAt Try.prog (fun x_ => St w x_ [Res.box blk2 [Value.int .i64 a0, Value.slice a1A a1n a1c] 55]) 3 ⟨blk2, 0 + 0, none⟩ (Value.int .i64 a0))) (by kernel_rfl) (ld_box (i := 0) rfl rfl (by kernel_rfl)) hS3 ?_
    refine l_op rfl rfl (fun K hK => op_callv (d := some 38) rfl rfl ⟨_, Try.func64, by kernel_rfl, by kernel_rfl⟩ (vs := [Value.int .i64 a0, Value.int .i64 1, Value.int .i64 100000]) (by kernel_rfl) (v := Value.bool (inR a0 1 100000)) (l1In_c a0 1 100000 _) hS3 (fun w9 hS9 => hK _ _ ?_))
    clear hK K
    refine q_seg (S := (fun x_ => St w x_ [Res.box blk2 [Value.int .i64 a0, Value.slice a1A a1n a1c] 55])) [(45, Value.bool (decide (((a1n : Nat) : Int) ≤ (8 : Int)))), (44, Value.bool (decide (((a1n : Nat) : Int) ≤ (8 : Int)))), (43, Value.bool (decide (((a1n : Nat) : Int) ≤ (8 : Int)))), (42, Value.int .i64 ((a1n : Nat) : Int)), (41, Value.slice a1A a1n a1c), (40, Value.pointer (some ⟨blk2, 0 + 1, none⟩)), (39, Value.bool (inR a0 1 100000))] [.no, .no, .v (Value.slice a1A a1n a1c), .no, .no, .v (.bool true), .no] (((inR a0 1 100000) = true) ∧ ((inR a0 1 100000) = true) ∧ (LoadsAt Try.prog (fun x_ => St w x_ [Res.box blk2 [Value.int .i64 a0, Value.slice a1A a1n a1c] 55]) 31 ⟨blk2, 0 + 1, none⟩ (Value.slice a1A a1n a1c)) ∧ ((inR a0 1 100000) = true) ∧ ((inR a0 1 100000) = true) ∧ ((inR a0 1 100000) = true)) (by kernel_rfl) ⟨(inR_true hR.1 hR.2), (inR_true hR.1 hR.2), (ld_box (i := 0) rfl rfl (by kernel_rfl)), (inR_true hR.1 hR.2), (inR_true hR.1 hR.2), (inR_true hR.1 hR.2)⟩ hS9 ?_
    rcases Bool.eq_false_or_eq_true (decide (((a1n : Nat) : Int) ≤ (8 : Int))) with hb10 | hb10
    · skip
      have hb10p := of_decide_eq_true hb10
      refine q_seg (S := (fun x_ => St w x_ [Res.box blk2 [Value.int .i64 a0, Value.slice a1A a1n a1c] 55])) [(2, Value.bool (decide ((1 : Int) ≤ (a0 - ((a1n : Nat) : Int))))), (53, Value.bool (decide ((1 : Int) ≤ (a0 - ((a1n : Nat) : Int))))), (52, Value.bool (decide ((1 : Int) ≤ (a0 - ((a1n : Nat) : Int))))), (51, Value.int .i64 (a0 - ((a1n : Nat) : Int))), (50, Value.int .i64 ((a1n : Nat) : Int)), (49, Value.slice a1A a1n a1c), (48, Value.pointer (some ⟨blk2, 0 + 1, none⟩)), (47, Value.int .i64 a0), (46, Value.pointer (some ⟨blk2, 0 + 0, none⟩))] [.no, .v (Value.int .i64 a0), .no, .v (Value.slice a1A a1n a1c), .no, .no, .no, .v (.bool true), .no] (((decide (((a1n : Nat) : Int) ≤ (8 : Int))) = true) ∧ ((decide (((a1n : Nat) : Int) ≤ (8 : Int))) = true) ∧ (LoadsAt Try.prog (fun x_ => St w x_ [Res.box blk2 [Value.int .i64 a0, Value.slice a1A a1n a1c] 55]) 3 ⟨blk2, 0 + 0, none⟩ (Value.int .i64 a0)) ∧ ((decide (((a1n : Nat) : Int) ≤ (8 : Int))) = true) ∧ ((decide (((a1n : Nat) : Int) ≤ (8 : Int))) = true) ∧ (LoadsAt Try.prog (fun x_ => St w x_ [Res.box blk2 [Value.int .i64 a0, Value.slice a1A a1n a1c] 55]) 31 ⟨blk2, 0 + 1, none⟩ (Value.slice a1A a1n a1c)) ∧ ((decide (((a1n : Nat) : Int) ≤ (8 : Int))) = true) ∧ ((decide (((a1n : Nat) : Int) ≤ (8 : Int))) = true) ∧ (InK .i64 (a0 - ((a1n : Nat) : Int))) ∧ ((decide (((a1n : Nat) : Int) ≤ (8 : Int))) = true) ∧ ((decide (((a1n : Nat) : Int) ≤ (8 : Int))) = true)) (by kernel_rfl) ⟨hb10, hb10, (ld_box (i := 0) rfl rfl (by kernel_rfl)), hb10, hb10, (ld_box (i := 0) rfl rfl (by kernel_rfl)), hb10, hb10, (in64 (by omega) (by omega)), hb10, hb10⟩ hS9 ?_
      refine l_nil rfl ?_
      refine then_n ?_
      refine wp_ret ?_
      exact c_end (S := (fun x_ => St w x_ [Res.box blk2 [Value.int .i64 a0, Value.slice a1A a1n a1c] 55])) (rs := [.tmp 2]) rfl [] (v := Value.bool (decide ((1 : Int) ≤ (a0 - ((a1n : Nat) : Int))))) (C := True) (by kernel_rfl) trivial hS9 ((hS9.rv (congrArg Value.bool (vsend_e (n := a1n) (by rw [List.length_map]; exact hln) (inR_true hR.1 hR.2) (by omega) (by rw [show k = a1n by omega] at htk; exact htk)))))
    · skip
      have hb10p := of_decide_eq_false hb10
      refine q_seg (S := (fun x_ => St w x_ [Res.box blk2 [Value.int .i64 a0, Value.slice a1A a1n a1c] 55])) [(2, Value.bool false), (53, Value.bool false), (52, undef), (51, undef), (50, undef), (49, undef), (48, undef), (47, undef), (46, undef)] [.skip, .skip, .skip, .skip, .skip, .skip, .skip, .v (.bool false), .no] (((decide (((a1n : Nat) : Int) ≤ (8 : Int))) = !true) ∧ ((decide (((a1n : Nat) : Int) ≤ (8 : Int))) = !true) ∧ ((decide (((a1n : Nat) : Int) ≤ (8 : Int))) = !true) ∧ ((decide (((a1n : Nat) : Int) ≤ (8 : Int))) = !true) ∧ ((decide (((a1n : Nat) : Int) ≤ (8 : Int))) = !true) ∧ ((decide (((a1n : Nat) : Int) ≤ (8 : Int))) = !true) ∧ ((decide (((a1n : Nat) : Int) ≤ (8 : Int))) = !true) ∧ ((decide (((a1n : Nat) : Int) ≤ (8 : Int))) = false)) (by kernel_rfl) ⟨hb10, hb10, hb10, hb10, hb10, hb10, hb10, hb10⟩ hS9 ?_
      refine l_nil rfl ?_
      refine then_n ?_
      refine wp_ret ?_
      exact c_end (S := (fun x_ => St w x_ [Res.box blk2 [Value.int .i64 a0, Value.slice a1A a1n a1c] 55])) (rs := [.tmp 2]) rfl [] (v := Value.bool false) (C := True) (by kernel_rfl) trivial hS9 ((hS9.rv (congrArg Value.bool (vsend_f2 (n := a1n) (by rw [List.length_map]; exact hln) (by omega)))))
theorem IsValidSender_s_out (a0 : Int) (a1A : Option Addr) (a1n a1c : Nat) (a1L : List (Int × List Int)) (w : World) (a0h : I64 a0) (a1h : RdL .u8 true w w.heap.size a1A a1n a1L) (a1w : wt a1L ≤ 1099511627776) (hR : ¬ (1 ≤ a0 ∧ a0 ≤ 100000)) : Calls Try.prog 30 #[Value.agg #[Value.int .i64 a0, Value.slice a1A a1n a1c]] w (RetV w (.bool (vsend a0 a1L))) := by
  obtain ⟨a0h1, a0h2⟩ := a0h
  obtain ⟨hok, ys, hr, rfl⟩ := a1h
  have hwl := wt_len (ys.map (con true))
  have hln := hr.len
  rw [List.length_map] at hwl
  refine calls_FA Try.func30 rfl (n := 54) rfl (l := [(0, Value.agg #[Value.int .i64 a0, Value.slice a1A a1n a1c])]) rfl (by simp) (fun g => ?_)
  have hS := St.init w
  refine wp_seq ?_
  refine c_reg ?_
  refine l_op rfl rfl (fun K hK => op_box (d := some 1) rfl rfl [Value.int .i64 a0, Value.slice a1A a1n a1c] (by kernel_rfl) hS (fun blk2 w1 hS1 => hK _ _ ?_))
  clear hK K
  refine q_seg (S := (fun x_ => St w x_ [Res.box blk2 [Value.int .i64 a0, Value.slice a1A a1n a1c] 55])) [(2, Value.bool false)] [.no] True (by kernel_rfl) trivial hS1 ?_
  refine l_nil rfl ?_
  refine then_n ?_
  refine wp_seq ?_
  refine wp_seq ?_
  refine c_reg ?_
  refine q_seg (S := (fun x_ => St w x_ [Res.box blk2 [Value.int .i64 a0, Value.slice a1A a1n a1c] 55])) [(3, Value.int .i64 0)] [.no] True (by kernel_rfl) trivial hS1 ?_
  refine l_nil rfl ?_
  refine then_n ?_
  refine wp_block ?_
  refine c_loop (X := Nat) (fun (k : Nat) => [(1, Value.pointer (some ⟨blk2, 0, none⟩)), (3, Value.int .i64 ((k : Nat) : Int))]) (fun (k : Nat) (wr : World) => (k ≤ a1n) ∧ St w wr [Res.box blk2 [Value.int .i64 a0, Value.slice a1A a1n a1c] 55]) (fun (k : Nat) => a1n - k) 0 ?_ ?_ ?_
  · exact (agree_cons (by kernel_rfl) (agree_cons (by kernel_rfl) agree_nil))
  · exact ⟨Nat.zero_le _, hS1⟩
  rintro k g4 w3 ⟨hkn, hS3⟩
  refine wp_seq ?_
  refine wp_seq ?_
  refine c_reg ?_
  refine q_seg (S := (fun x_ => St w x_ [Res.box blk2 [Value.int .i64 a0, Value.slice a1A a1n a1c] 55])) [(8, Value.bool (decide (((k : Nat) : Int) < ((a1n : Nat) : Int)))), (7, Value.int .i64 ((a1n : Nat) : Int)), (6, Value.slice a1A a1n a1c), (5, Value.pointer (some ⟨blk2, 0 + 1, none⟩)), (4, Value.int .i64 ((k : Nat) : Int))] [.no, .no, .v (Value.slice a1A a1n a1c), .no, .no] ((LoadsAt Try.prog (fun x_ => St w x_ [Res.box blk2 [Value.int .i64 a0, Value.slice a1A a1n a1c] 55]) 31 ⟨blk2, 0 + 1, none⟩ (Value.slice a1A a1n a1c))) (by kernel_rfl) (ld_box (i := 0) rfl rfl (by kernel_rfl)) hS3 ?_
  refine l_nil rfl ?_
  refine then_n ?_
  rcases Bool.eq_false_or_eq_true (decide (((k : Nat) : Int) < ((a1n : Nat) : Int))) with hb5 | hb5
  · skip
    have hb5p := of_decide_eq_true hb5
    obtain ⟨b, off, rfl, hbB, hcl⟩ := hr.at (k := k) (by omega)
    obtain ⟨y, hyk, hym⟩ := get_of_lt (l := ys) (k := k) (by have := hr.len; omega)
    obtain ⟨hy1, hy2, hy3⟩ := hr.el y hym
    obtain ⟨hyi, hyz⟩ := hok _ (List.mem_map_of_mem (f := (con true)) hym)
    have hyl : y.zs.length + 1 ≤ wt (ys.map (con true)) := wt_mem (List.mem_map_of_mem (f := (con true)) hym)
    have hyz2 := hy2
    unfold maxLen at hy3
    refine c_true (b := (decide (((k : Nat) : Int) < ((a1n : Nat) : Int)))) (by kernel_rfl) hb5 ?_
    refine wp_skip ?_
    refine then_n ?_
    refine wp_seq ?_
    refine wp_block ?_
    refine wp_seq ?_
    refine c_drawn [] (by kernel_rfl) hS3 (fun w6 hS6 => ?_)
    refine t_seg (S := (fun x_ => St w x_ [Res.box blk2 [Value.int .i64 a0, Value.slice (some ⟨b, off, none⟩) a1n a1c] 55])) [(0, .no), (2, .no), (6, .no), (8, .no), (12, .no), (1, .v (Value.slice (some ⟨b, off, none⟩) a1n a1c)), (7, .v (Value.int .i64 a0)), (9, .v (Value.slice (some ⟨b, off, none⟩) a1n a1c)), (3, .no), (10, .no), (4, .no), (11, .v (.int .i64 (IntKind.wrap .i64 (a0 - ((a1n : Nat) : Int))))), (5, .v (Value.int .i64 y.s)), (13, .v (.int .i64 (IntKind.wrap .i64 ((IntKind.wrap .i64 (a0 - ((a1n : Nat) : Int))) + ((k : Nat) : Int))))), (14, .no), (15, .no)] 9 #[true, true, true, true, true, true, true, true, true, true, true, true, true, true, true, true, false, false, false, false, false, false, false, false, false] [(26, Value.bool (!(decide (y.s = (IntKind.wrap .i64 ((IntKind.wrap .i64 (a0 - ((a1n : Nat) : Int))) + ((k : Nat) : Int))))))), (25, Value.bool (!(decide (y.s = (IntKind.wrap .i64 ((IntKind.wrap .i64 (a0 - ((a1n : Nat) : Int))) + ((k : Nat) : Int))))))), (24, Value.int .i64 (IntKind.wrap .i64 ((IntKind.wrap .i64 (a0 - ((a1n : Nat) : Int))) + ((k : Nat) : Int)))), (16, Value.int .i64 y.s), (22, Value.int .i64 (IntKind.wrap .i64 (a0 - ((a1n : Nat) : Int)))), (15, Value.pointer (some ⟨b, off + Int.toNat ((k : Nat) : Int) * 2 + 0, none⟩)), (21, Value.int .i64 ((a1n : Nat) : Int)), (14, Value.pointer (some ⟨b, off + Int.toNat ((k : Nat) : Int) * 2, none⟩)), (20, Value.slice (some ⟨b, off, none⟩) a1n a1c), (18, Value.int .i64 a0), (12, Value.slice (some ⟨b, off, none⟩) a1n a1c), (23, Value.int .i64 ((k : Nat) : Int)), (19, Value.pointer (some ⟨blk2, 0 + 1, none⟩)), (17, Value.pointer (some ⟨blk2, 0 + 0, none⟩)), (13, Value.int .i64 ((k : Nat) : Int)), (11, Value.pointer (some ⟨blk2, 0 + 1, none⟩))] ((LoadsAt Try.prog (fun x_ => St w x_ [Res.box blk2 [Value.int .i64 a0, Value.slice (some ⟨b, off, none⟩) a1n a1c] 55]) 31 ⟨blk2, 0 + 1, none⟩ (Value.slice (some ⟨b, off, none⟩) a1n a1c)) ∧ (LoadsAt Try.prog (fun x_ => St w x_ [Res.box blk2 [Value.int .i64 a0, Value.slice (some ⟨b, off, none⟩) a1n a1c] 55]) 3 ⟨blk2, 0 + 0, none⟩ (Value.int .i64 a0)) ∧ (LoadsAt Try.prog (fun x_ => St w x_ [Res.box blk2 [Value.int .i64 a0, Value.slice (some ⟨b, off, none⟩) a1n a1c] 55]) 31 ⟨blk2, 0 + 1, none⟩ (Value.slice (some ⟨b, off, none⟩) a1n a1c)) ∧ ((0 : Int) ≤ ((k : Nat) : Int)) ∧ (((k : Nat) : Int) < ((a1n : Nat) : Int)) ∧ (IntKind.wrap .i64 (a0 - ((a1n : Nat) : Int)) = (IntKind.wrap .i64 (a0 - ((a1n : Nat) : Int)))) ∧ (LoadsAt Try.prog (fun x_ => St w x_ [Res.box blk2 [Value.int .i64 a0, Value.slice (some ⟨b, off, none⟩) a1n a1c] 55]) 3 ⟨b, off + Int.toNat ((k : Nat) : Int) * 2 + 0, none⟩ (Value.int .i64 y.s)) ∧ (IntKind.wrap .i64 ((IntKind.wrap .i64 (a0 - ((a1n : Nat) : Int))) + ((k : Nat) : Int)) = (IntKind.wrap .i64 ((IntKind.wrap .i64 (a0 - ((a1n : Nat) : Int))) + ((k : Nat) : Int))))) (by kernel_rfl) (Qpanic.then (Qpanic.block (Qpanic.then (Qpanic.then (Qpanic.block (Qpanic.then Qpanic.bp)))))) rfl (by kernel_rfl) ⟨(ld_box (i := 0) rfl rfl (by kernel_rfl)), (ld_box (i := 0) rfl rfl (by kernel_rfl)), (ld_box (i := 0) rfl rfl (by kernel_rfl)), (by omega), (by omega), rfl, (ld_low (flat_cell (p := true) (r := 0) hcl hyk rfl) (by kernel_rfl)), rfl⟩ hS6 ?_
    rcases Bool.eq_false_or_eq_true (decide (y.s = (IntKind.wrap .i64 ((IntKind.wrap .i64 (a0 - ((a1n : Nat) : Int))) + ((k : Nat) : Int))))) with hb7 | hb7
    · skip
      have hb7p := of_decide_eq_true hb7
      refine t_seg (S := (fun x_ => St w x_ [Res.box blk2 [Value.int .i64 a0, Value.slice (some ⟨b, off, none⟩) a1n a1c] 55])) [(16, .no), (18, .no), (17, .v (Value.slice (some ⟨b, off, none⟩) a1n a1c)), (19, .no), (20, .no), (21, .v (Value.slice y.A y.zs.length y.c)), (22, .no), (23, .no), (24, .v (.bool false))] 0 #[true, true, true, true, true, true, true, true, true, true, true, true, true, true, true, true, true, true, true, true, true, true, true, true, true] [(35, Value.bool (decide ((60 : Int) < ((y.zs.length : Nat) : Int)))), (34, Value.bool (decide ((60 : Int) < ((y.zs.length : Nat) : Int)))), (33, Value.int .i64 ((y.zs.length : Nat) : Int)), (32, Value.slice y.A y.zs.length y.c), (31, Value.pointer (some ⟨b, off + Int.toNat ((k : Nat) : Int) * 2 + 1, none⟩)), (30, Value.pointer (some ⟨b, off + Int.toNat ((k : Nat) : Int) * 2, none⟩)), (28, Value.slice (some ⟨b, off, none⟩) a1n a1c), (29, Value.int .i64 ((k : Nat) : Int)), (27, Value.pointer (some ⟨blk2, 0 + 1, none⟩))] (((!(decide (y.s = (IntKind.wrap .i64 ((IntKind.wrap .i64 (a0 - ((a1n : Nat) : Int))) + ((k : Nat) : Int)))))) = false) ∧ ((!(decide (y.s = (IntKind.wrap .i64 ((IntKind.wrap .i64 (a0 - ((a1n : Nat) : Int))) + ((k : Nat) : Int)))))) = false) ∧ ((!(decide (y.s = (IntKind.wrap .i64 ((IntKind.wrap .i64 (a0 - ((a1n : Nat) : Int))) + ((k : Nat) : Int)))))) = false) ∧ (LoadsAt Try.prog (fun x_ => St w x_ [Res.box blk2 [Value.int .i64 a0, Value.slice (some ⟨b, off, none⟩) a1n a1c] 55]) 31 ⟨blk2, 0 + 1, none⟩ (Value.slice (some ⟨b, off, none⟩) a1n a1c)) ∧ ((!(decide (y.s = (IntKind.wrap .i64 ((IntKind.wrap .i64 (a0 - ((a1n : Nat) : Int))) + ((k : Nat) : Int)))))) = false) ∧ ((0 : Int) ≤ ((k : Nat) : Int)) ∧ (((k : Nat) : Int) < ((a1n : Nat) : Int)) ∧ ((!(decide (y.s = (IntKind.wrap .i64 ((IntKind.wrap .i64 (a0 - ((a1n : Nat) : Int))) + ((k : Nat) : Int)))))) = false) ∧ ((!(decide (y.s = (IntKind.wrap .i64 ((IntKind.wrap .i64 (a0 - ((a1n : Nat) : Int))) + ((k : Nat) : Int)))))) = false) ∧ (LoadsAt Try.prog (fun x_ => St w x_ [Res.box blk2 [Value.int .i64 a0, Value.slice (some ⟨b, off, none⟩) a1n a1c] 55]) 26 ⟨b, off + Int.toNat ((k : Nat) : Int) * 2 + 1, none⟩ (Value.slice y.A y.zs.length y.c)) ∧ ((!(decide (y.s = (IntKind.wrap .i64 ((IntKind.wrap .i64 (a0 - ((a1n : Nat) : Int))) + ((k : Nat) : Int)))))) = false) ∧ ((!(decide (y.s = (IntKind.wrap .i64 ((IntKind.wrap .i64 (a0 - ((a1n : Nat) : Int))) + ((k : Nat) : Int)))))) = false) ∧ ((!(decide (y.s = (IntKind.wrap .i64 ((IntKind.wrap .i64 (a0 - ((a1n : Nat) : Int))) + ((k : Nat) : Int)))))) = false)) (by kernel_rfl) (Qpanic.then (Qpanic.block (Qpanic.then (Qpanic.then (Qpanic.block (Qpanic.then Qpanic.bp)))))) rfl (by kernel_rfl) ⟨(nb (v := true) hb7), (nb (v := true) hb7), (nb (v := true) hb7), (ld_box (i := 0) rfl rfl (by kernel_rfl)), (nb (v := true) hb7), (by omega), (by omega), (nb (v := true) hb7), (nb (v := true) hb7), (ld_low (flat_cell (p := true) (r := 1) hcl hyk rfl) (by kernel_rfl)), (nb (v := true) hb7), (nb (v := true) hb7), (nb (v := true) hb7)⟩ hS6 ?_
      refine a_done (by kernel_rfl) ?_
      refine then_n ?_
      rcases Bool.eq_false_or_eq_true (decide ((60 : Int) < ((y.zs.length : Nat) : Int))) with hb8 | hb8
      · skip
        have hb8p := of_decide_eq_true hb8
        refine c_true (b := (decide ((60 : Int) < ((y.zs.length : Nat) : Int)))) (by kernel_rfl) hb8 ?_
        refine wp_seq ?_
        refine c_reg ?_
        refine q_seg (S := (fun x_ => St w x_ [Res.box blk2 [Value.int .i64 a0, Value.slice (some ⟨b, off, none⟩) a1n a1c] 55])) [(2, Value.bool false)] [.no] True (by kernel_rfl) trivial hS6 ?_
        refine l_nil rfl ?_
        refine then_n ?_
        refine wp_ret ?_
        refine blk_r ?_
        refine then_r ?_
        refine then_r ?_
        refine blk_r ?_
        refine then_r ?_
        exact c_end (S := (fun x_ => St w x_ [Res.box blk2 [Value.int .i64 a0, Value.slice (some ⟨b, off, none⟩) a1n a1c] 55])) (rs := [.tmp 2]) rfl [] (v := Value.bool false) (C := True) (by kernel_rfl) trivial hS6 ((hS6.rv (congrArg Value.bool (vsend_f1 (inR_false hR)))))
      · skip
        have hb8p := of_decide_eq_false hb8
        refine c_false (b := (decide ((60 : Int) < ((y.zs.length : Nat) : Int)))) (by kernel_rfl) hb8 ?_
        refine wp_skip ?_
        refine blk_n ?_
        refine then_n ?_
        refine c_reg ?_
        refine q_seg (S := (fun x_ => St w x_ [Res.box blk2 [Value.int .i64 a0, Value.slice (some ⟨b, off, none⟩) a1n a1c] 55])) [(3, Value.int .i64 (((k : Nat) : Int) + (1 : Int))), (10, Value.int .i64 (((k : Nat) : Int) + (1 : Int))), (9, Value.int .i64 ((k : Nat) : Int))] [.no, .no, .no] ((InK .i64 (((k : Nat) : Int) + (1 : Int)))) (by kernel_rfl) (in64 (by omega) (by omega)) hS6 ?_
        refine l_nil rfl ?_
        refine then_n ?_
        refine round_end (k + 1) ?_ ?_ ?_
        · exact (agree_cons (by kernel_rfl) (agree_cons (by kernel_rfl) agree_nil))
        · exact ⟨(by omega), hS6⟩
        · exact (by first | omega | (dsimp only; omega))
    · skip
      have hb7p := of_decide_eq_false hb7
      refine t_seg (S := (fun x_ => St w x_ [Res.box blk2 [Value.int .i64 a0, Value.slice (some ⟨b, off, none⟩) a1n a1c] 55])) [(16, .skip), (18, .skip), (17, .skip), (19, .skip), (20, .skip), (21, .skip), (22, .skip), (23, .skip), (24, .v (.bool true))] 0 #[true, true, true, true, true, true, true, true, true, true, true, true, true, true, true, true, true, true, true, true, true, true, true, true, true] [(35, Value.bool true), (34, undef), (33, undef), (32, undef), (31, undef), (30, undef), (28, undef), (29, undef), (27, undef)] (((!(decide (y.s = (IntKind.wrap .i64 ((IntKind.wrap .i64 (a0 - ((a1n : Nat) : Int))) + ((k : Nat) : Int)))))) = !false) ∧ ((!(decide (y.s = (IntKind.wrap .i64 ((IntKind.wrap .i64 (a0 - ((a1n : Nat) : Int))) + ((k : Nat) : Int)))))) = !false) ∧ ((!(decide (y.s = (IntKind.wrap .i64 ((IntKind.wrap .i64 (a0 - ((a1n : Nat) : Int))) + ((k : Nat) : Int)))))) = !false) ∧ ((!(decide (y.s = (IntKind.wrap .i64 ((IntKind.wrap .i64 (a0 - ((a1n : Nat) : Int))) + ((k : Nat) : Int)))))) = !false) ∧ ((!(decide (y.s = (IntKind.wrap .i64 ((IntKind.wrap .i64 (a0 - ((a1n : Nat) : Int))) + ((k : Nat) : Int)))))) = !false) ∧ ((!(decide (y.s = (IntKind.wrap .i64 ((IntKind.wrap .i64 (a0 - ((a1n : Nat) : Int))) + ((k : Nat) : Int)))))) = !false) ∧ ((!(decide (y.s = (IntKind.wrap .i64 ((IntKind.wrap .i64 (a0 - ((a1n : Nat) : Int))) + ((k : Nat) : Int)))))) = !false) ∧ ((!(decide (y.s = (IntKind.wrap .i64 ((IntKind.wrap .i64 (a0 - ((a1n : Nat) : Int))) + ((k : Nat) : Int)))))) = !false) ∧ ((!(decide (y.s = (IntKind.wrap .i64 ((IntKind.wrap .i64 (a0 - ((a1n : Nat) : Int))) + ((k : Nat) : Int)))))) = true)) (by kernel_rfl) (Qpanic.then (Qpanic.block (Qpanic.then (Qpanic.then (Qpanic.block (Qpanic.then Qpanic.bp)))))) rfl (by kernel_rfl) ⟨(nb (v := false) hb7), (nb (v := false) hb7), (nb (v := false) hb7), (nb (v := false) hb7), (nb (v := false) hb7), (nb (v := false) hb7), (nb (v := false) hb7), (nb (v := false) hb7), (nb (v := false) hb7)⟩ hS6 ?_
      refine a_done (by kernel_rfl) ?_
      refine then_n ?_
      refine c_true (b := true) (by kernel_rfl) rfl ?_
      refine wp_seq ?_
      refine c_reg ?_
      refine q_seg (S := (fun x_ => St w x_ [Res.box blk2 [Value.int .i64 a0, Value.slice (some ⟨b, off, none⟩) a1n a1c] 55])) [(2, Value.bool false)] [.no] True (by kernel_rfl) trivial hS6 ?_
      refine l_nil rfl ?_
      refine then_n ?_
      refine wp_ret ?_
      refine blk_r ?_
      refine then_r ?_
      refine then_r ?_
      refine blk_r ?_
      refine then_r ?_
      exact c_end (S := (fun x_ => St w x_ [Res.box blk2 [Value.int .i64 a0, Value.slice (some ⟨b, off, none⟩) a1n a1c] 55])) (rs := [.tmp 2]) rfl [] (v := Value.bool false) (C := True) (by kernel_rfl) trivial hS6 ((hS6.rv (congrArg Value.bool (vsend_f1 (inR_false hR)))))
  · skip
    have hb5p := of_decide_eq_false hb5
    refine c_false (b := (decide (((k : Nat) : Int) < ((a1n : Nat) : Int)))) (by kernel_rfl) hb5 ?_
    refine wp_exit ?_
    refine then_x ?_
    refine then_x ?_
    refine blk_hit ?_
    refine then_n ?_
    refine wp_seq ?_
    refine c_reg ?_
    refine q_seg (S := (fun x_ => St w x_ [Res.box blk2 [Value.int .i64 a0, Value.slice a1A a1n a1c] 55])) [(37, Value.int .i64 a0), (36, Value.pointer (some ⟨blk2, 0 + 0, none⟩))] [.no, .v (Value.int .i64 a0)] ((LoadsAt Try.prog (fun x_ => St w x_ [Res.box blk2 [Value.int .i64 a0, Value.slice a1A a1n a1c] 55]) 3 ⟨blk2, 0 + 0, none⟩ (Value.int .i64 a0))) (by kernel_rfl) (ld_box (i := 0) rfl rfl (by kernel_rfl)) hS3 ?_
    refine l_op rfl rfl (fun K hK => op_callv (d := some 38) rfl rfl ⟨_, Try.func64, by kernel_rfl, by kernel_rfl⟩ (vs := [Value.int .i64 a0, Value.int .i64 1, Value.int .i64 100000]) (by kernel_rfl) (v := Value.bool (inR a0 1 100000)) (l1In_c a0 1 100000 _) hS3 (fun w9 hS9 => hK _ _ ?_))
    clear hK K
    refine q_seg (S := (fun x_ => St w x_ [Res.box blk2 [Value.int .i64 a0, Value.slice a1A a1n a1c] 55])) [(2, Value.bool false), (53, Value.bool false), (52, undef), (51, undef), (50, undef), (49, undef), (48, undef), (47, undef), (46, undef), (45, Value.bool false), (44, Value.bool false), (43, undef), (42, undef), (41, undef), (40, undef), (39, Value.bool (inR a0 1 100000))] [.no, .skip, .skip, .skip, .skip, .v (.bool false), .no, .skip, .skip, .skip, .skip, .skip, .skip, .skip, .v (.bool false), .no] (((inR a0 1 100000) = !true) ∧ ((inR a0 1 100000) = !true) ∧ ((inR a0 1 100000) = !true) ∧ ((inR a0 1 100000) = !true) ∧ ((inR a0 1 100000) = false) ∧ (false = !true) ∧ (false = !true) ∧ (false = !true) ∧ (false = !true) ∧ (false = !true) ∧ (false = !true) ∧ (false = !true) ∧ (false = false)) (by kernel_rfl) ⟨(inR_false hR), (inR_false hR), (inR_false hR), (inR_false hR), (inR_false hR), rfl, rfl, rfl, rfl, rfl, rfl, rfl, rfl⟩ hS9 ?_
    refine l_nil rfl ?_
    refine then_n ?_
    refine wp_ret ?_
    exact c_end (S := (fun x_ => St w x_ [Res.box blk2 [Value.int .i64 a0, Value.slice a1A a1n a1c] 55])) (rs := [.tmp 2]) rfl [] (v := Value.bool false) (C := True) (by kernel_rfl) trivial hS9 ((hS9.rv (congrArg Value.bool (vsend_f1 (inR_false hR)))))
theorem IsValidSender_s_c (a0 : Int) (a1A : Option Addr) (a1n a1c : Nat) (a1L : List (Int × List Int)) (w : World) (a0h : I64 a0) (a1h : RdL .u8 true w w.heap.size a1A a1n a1L) (a1w : wt a1L ≤ 1099511627776) : Calls Try.prog 30 #[Value.agg #[Value.int .i64 a0, Value.slice a1A a1n a1c]] w (RetV w (.bool (vsend a0 a1L))) := by
  by_cases hR : 1 ≤ a0 ∧ a0 ≤ 100000
  · exact IsValidSender_s_in a0 a1A a1n a1c a1L w a0h a1h a1w hR
  · exact IsValidSender_s_out a0 a1A a1n a1c a1L w a0h a1h a1w hR
end Go.Proofs.Ytchkiohikhfecaa
