/-
  Contracts of the draws of senders, and of the comparisons of the laws.
-/
import Derived.Test.YtchkiohikhfecaaGDr
import Derived.Test.YtchkiohikhfecaaSendL
namespace Go.Proofs.Ytchkiohikhfecaa
open Go.RowKit
set_option maxRecDepth 100000

theorem big_c (A : Option Addr) (n c : Nat) (w : World) : Calls Try.prog 25 #[.slice A n c] w (RetV w (.bool (decide ((1048576 : Int) < ((n : Nat) : Int))))) := by
  refine calls_FA Try.func25 rfl (n := 6) rfl (l := [(0, Value.slice A n c)]) rfl (by simp) (fun g => ?_)
  have hS := St.init w
  refine wp_seq ?_
  refine c_reg ?_
  refine q_seg (S := (fun x_ => St w x_ [])) [(2, Value.bool false)] [.no] True (by kernel_rfl) trivial hS ?_
  refine l_nil rfl ?_
  refine then_n ?_
  refine wp_seq ?_
  refine c_reg ?_
  refine q_seg (S := (fun x_ => St w x_ [])) [(2, Value.bool (decide ((1048576 : Int) < ((n : Nat) : Int)))), (5, Value.bool (decide ((1048576 : Int) < ((n : Nat) : Int)))), (4, Value.int .i64 ((n : Nat) : Int)), (3, Value.slice A n c)] [.no, .no, .no, .no] True (by kernel_rfl) trivial hS ?_
  refine l_nil rfl ?_
  refine then_n ?_
  refine wp_ret ?_
  exact c_end (S := (fun x_ => St w x_ [])) (rs := [.tmp 2]) rfl [] (v := Value.bool (decide ((1048576 : Int) < ((n : Nat) : Int)))) (C := True) (by kernel_rfl) trivial hS ((hS.rv rfl))
theorem at_c (A : Option Addr) (n c : Nat) (zs : List Int) (i : Int) (w : World) (hn : n ≤ 1048576) (hi0 : 0 ≤ i) (hi1 : i ≤ 1048576) (hz : okz .u8 zs) (hr : Rd w w.heap.size A n (zs.map (Value.int .u8))) : Calls Try.prog 26 #[.slice A n c, .int .i64 i] w (Ret w (fun v new => ∃ x : Int, v = .int .i64 x ∧ new = [] ∧ 0 ≤ x ∧ x ≤ 255)) := by
  have hzl := hr.len
  refine calls_FA Try.func26 rfl (n := 21) rfl (l := [(0, Value.slice A n c), (1, Value.int .i64 i)]) rfl (by simp) (fun g => ?_)
  have hS := St.init w
  refine wp_seq ?_
  refine c_reg ?_
  refine q_seg (S := (fun x_ => St w x_ [])) [(4, Value.int .i64 0)] [.no] True (by kernel_rfl) trivial hS ?_
  refine l_nil rfl ?_
  refine then_n ?_
  refine wp_seq ?_
  refine wp_seq ?_
  refine c_reg ?_
  refine q_seg (S := (fun x_ => St w x_ [])) [(8, Value.bool (decide (i < ((n : Nat) : Int)))), (7, Value.int .i64 ((n : Nat) : Int)), (6, Value.slice A n c), (5, Value.int .i64 i)] [.no, .no, .no, .no] True (by kernel_rfl) trivial hS ?_
  refine l_nil rfl ?_
  refine then_n ?_
  rcases Bool.eq_false_or_eq_true (decide (i < ((n : Nat) : Int))) with hb1 | hb1
  · skip
    have hb1p := of_decide_eq_true hb1
    obtain ⟨bq, off, rfl, hbB, hcl⟩ := hr.2 (by omega)
    obtain ⟨z, hzk, hzm⟩ := get_int (zs := zs) hr.len (x := i) hi0 (by omega)
    obtain ⟨hz1, hz2⟩ := okz8 hz z hzm
    refine c_true (b := (decide (i < ((n : Nat) : Int)))) (by kernel_rfl) hb1 ?_
    refine wp_seq ?_
    refine c_reg ?_
    refine q_seg (S := (fun x_ => St w x_ [])) [(4, Value.int .i64 z), (13, Value.int .i64 z), (12, Value.int .u8 z), (11, Value.pointer (some ⟨bq, off + Int.toNat i * 1, none⟩)), (10, Value.int .i64 i), (9, Value.slice (some ⟨bq, off, none⟩) n c)] [.no, .no, .no, .v (Value.int .u8 z), .no, .no] (((0 : Int) ≤ i) ∧ (i < ((n : Nat) : Int)) ∧ (LoadsAt Try.prog (fun x_ => St w x_ []) 5 ⟨bq, off + Int.toNat i * 1, none⟩ (Value.int .u8 z)) ∧ (InK .i64 z)) (by kernel_rfl) ⟨(by omega), (by omega), (ld_low (hcl _ _ (by simp [hzk])) (by kernel_rfl)), (in64 (by omega) (by omega))⟩ hS ?_
    refine l_nil rfl ?_
    refine then_n ?_
    refine wp_ret ?_
    refine then_r ?_
    exact c_end (S := (fun x_ => St w x_ [])) (rs := [.tmp 4]) rfl [] (v := Value.int .i64 z) (C := True) (by kernel_rfl) trivial hS ((hS.sub List.Sublist.slnil).rt ⟨_, rfl, rfl, by omega, by omega⟩)
  · skip
    have hb1p := of_decide_eq_false hb1
    refine c_false (b := (decide (i < ((n : Nat) : Int)))) (by kernel_rfl) hb1 ?_
    refine wp_skip ?_
    refine then_n ?_
    refine wp_seq ?_
    refine c_reg ?_
    refine q_seg (S := (fun x_ => St w x_ [])) [(4, Value.int .i64 (((i * (31 : Int)) + (((n : Nat) : Int) * (7 : Int))) % (256 : Int))), (20, Value.int .i64 (((i * (31 : Int)) + (((n : Nat) : Int) * (7 : Int))) % (256 : Int))), (19, Value.int .i64 ((i * (31 : Int)) + (((n : Nat) : Int) * (7 : Int)))), (18, Value.int .i64 (((n : Nat) : Int) * (7 : Int))), (17, Value.int .i64 ((n : Nat) : Int)), (16, Value.slice A n c), (15, Value.int .i64 (i * (31 : Int))), (14, Value.int .i64 i)] [.no, .no, .no, .no, .no, .no, .no, .no] ((InK .i64 (i * (31 : Int))) ∧ (InK .i64 (((n : Nat) : Int) * (7 : Int))) ∧ (InK .i64 ((i * (31 : Int)) + (((n : Nat) : Int) * (7 : Int)))) ∧ ((0 : Int) ≤ ((i * (31 : Int)) + (((n : Nat) : Int) * (7 : Int)))) ∧ ((0 : Int) < (256 : Int))) (by kernel_rfl) ⟨(in64 (by omega) (by omega)), (in64 (by omega) (by omega)), (in64 (by omega) (by omega)), (by omega), (by omega)⟩ hS ?_
    refine l_nil rfl ?_
    refine then_n ?_
    refine wp_ret ?_
    exact c_end (S := (fun x_ => St w x_ [])) (rs := [.tmp 4]) rfl [] (v := Value.int .i64 (((i * (31 : Int)) + (((n : Nat) : Int) * (7 : Int))) % (256 : Int))) (C := True) (by kernel_rfl) trivial hS ((hS.sub List.Sublist.slnil).rt ⟨_, rfl, rfl, by omega, by omega⟩)
theorem sameBytes_c (A B : Option Addr) (n c m d : Nat) (xs ys : List Int) (w : World) (hn : n ≤ 9223372036854775807) (hm : m ≤ 9223372036854775807) (hr : Rd w w.heap.size A n (xs.map (Value.int .u8))) (hr2 : Rd w w.heap.size B m (ys.map (Value.int .u8))) : Calls Try.prog 28 #[.slice A n c, .slice B m d] w (RetV w (.bool (decide (xs = ys)))) := by
  refine calls_FA Try.func28 rfl (n := 26) rfl (l := [(0, Value.slice A n c), (1, Value.slice B m d)]) rfl (by simp) (fun g => ?_)
  have hS := St.init w
  refine wp_seq ?_
  refine c_reg ?_
  refine q_seg (S := (fun x_ => St w x_ [])) [(4, Value.bool false)] [.no] True (by kernel_rfl) trivial hS ?_
  refine l_nil rfl ?_
  refine then_n ?_
  refine wp_seq ?_
  refine wp_seq ?_
  refine c_reg ?_
  refine q_seg (S := (fun x_ => St w x_ [])) [(10, Value.bool (!(decide (((n : Nat) : Int) = ((m : Nat) : Int))))), (9, Value.int .i64 ((m : Nat) : Int)), (8, Value.slice B m d), (7, Value.int .i64 ((n : Nat) : Int)), (6, Value.slice A n c)] [.no, .no, .no, .no, .no] True (by kernel_rfl) trivial hS ?_
  refine l_nil rfl ?_
  refine then_n ?_
  rcases Bool.eq_false_or_eq_true (decide (((n : Nat) : Int) = ((m : Nat) : Int))) with hb1 | hb1
  · skip
    have hb1p := of_decide_eq_true hb1
    refine c_false (b := (!(decide (((n : Nat) : Int) = ((m : Nat) : Int))))) (by kernel_rfl) (nb (v := true) hb1) ?_
    refine wp_skip ?_
    refine then_n ?_
    refine wp_seq ?_
    refine wp_seq ?_
    refine c_reg ?_
    refine q_seg (S := (fun x_ => St w x_ [])) [(5, Value.int .i64 0)] [.no] True (by kernel_rfl) trivial hS ?_
    refine l_nil rfl ?_
    refine then_n ?_
    refine wp_block ?_
    refine c_loop (X := Nat) (fun (k : Nat) => [(0, Value.slice A n c), (1, Value.slice B m d), (5, Value.int .i64 ((k : Nat) : Int))]) (fun (k : Nat) (wr : World) => (k ≤ n) ∧ (xs.take k = ys.take k) ∧ St w wr []) (fun (k : Nat) => n - k) 0 ?_ ?_ ?_
    · exact (agree_cons (by kernel_rfl) (agree_cons (by kernel_rfl) (agree_cons (by kernel_rfl) agree_nil)))
    · exact ⟨Nat.zero_le _, rfl, hS⟩
    rintro k g3 w2 ⟨hkn, htk, hS2⟩
    refine wp_seq ?_
    refine wp_seq ?_
    refine c_reg ?_
    refine q_seg (S := (fun x_ => St w x_ [])) [(14, Value.bool (decide (((k : Nat) : Int) < ((n : Nat) : Int)))), (13, Value.int .i64 ((n : Nat) : Int)), (12, Value.slice A n c), (11, Value.int .i64 ((k : Nat) : Int))] [.no, .no, .no, .no] True (by kernel_rfl) trivial hS2 ?_
    refine l_nil rfl ?_
    refine then_n ?_
    rcases Bool.eq_false_or_eq_true (decide (((k : Nat) : Int) < ((n : Nat) : Int))) with hb4 | hb4
    · skip
      have hb4p := of_decide_eq_true hb4
      obtain ⟨b, off, rfl, hbB, hcl⟩ := hr.2 (by omega)
      obtain ⟨b2, off2, rfl, hbB2, hcl2⟩ := hr2.2 (by omega)
      obtain ⟨z, hzk, hzm⟩ := get_of_lt (l := xs) (k := k) (by have := hr.len; omega)
      obtain ⟨y, hyk, hym⟩ := get_of_lt (l := ys) (k := k) (by have := hr2.len; omega)
      refine c_true (b := (decide (((k : Nat) : Int) < ((n : Nat) : Int)))) (by kernel_rfl) hb4 ?_
      refine wp_skip ?_
      refine then_n ?_
      refine wp_seq ?_
      refine wp_block ?_
      refine wp_seq ?_
      refine c_drawn [] (by kernel_rfl) hS2 (fun w5 hS5 => ?_)
      refine t_seg (S := (fun x_ => St w x_ [])) [(0, .no), (1, .no), (4, .no), (5, .no), (2, .no), (6, .no), (3, .v (Value.int .u8 z)), (7, .v (Value.int .u8 y)), (8, .no)] 0 #[true, true, true, true, true, true, true, true, true] [(25, Value.bool (!(decide (z = y)))), (24, Value.int .u8 y), (20, Value.int .u8 z), (23, Value.pointer (some ⟨b2, off2 + Int.toNat ((k : Nat) : Int) * 1, none⟩)), (19, Value.pointer (some ⟨b, off + Int.toNat ((k : Nat) : Int) * 1, none⟩)), (22, Value.int .i64 ((k : Nat) : Int)), (21, Value.slice (some ⟨b2, off2, none⟩) m d), (18, Value.int .i64 ((k : Nat) : Int)), (17, Value.slice (some ⟨b, off, none⟩) n c)] (((0 : Int) ≤ ((k : Nat) : Int)) ∧ (((k : Nat) : Int) < ((n : Nat) : Int)) ∧ ((0 : Int) ≤ ((k : Nat) : Int)) ∧ (((k : Nat) : Int) < ((m : Nat) : Int)) ∧ (LoadsAt Try.prog (fun x_ => St w x_ []) 5 ⟨b, off + Int.toNat ((k : Nat) : Int) * 1, none⟩ (Value.int .u8 z)) ∧ (LoadsAt Try.prog (fun x_ => St w x_ []) 5 ⟨b2, off2 + Int.toNat ((k : Nat) : Int) * 1, none⟩ (Value.int .u8 y))) (by kernel_rfl) (Qpanic.then (Qpanic.block (Qpanic.then (Qpanic.then (Qpanic.block (Qpanic.then Qpanic.bp)))))) rfl (by kernel_rfl) ⟨(by omega), (by omega), (by omega), (by omega), (ld_low (hcl _ _ (by simp [hzk])) (by kernel_rfl)), (ld_low (hcl2 _ _ (by simp [hyk])) (by kernel_rfl))⟩ hS5 ?_
      refine a_done (by kernel_rfl) ?_
      refine then_n ?_
      rcases Bool.eq_false_or_eq_true (decide (z = y)) with hb6 | hb6
      · skip
        have hb6p := of_decide_eq_true hb6
        refine c_false (b := (!(decide (z = y)))) (by kernel_rfl) (nb (v := true) hb6) ?_
        refine wp_skip ?_
        refine blk_n ?_
        refine then_n ?_
        refine c_reg ?_
        refine q_seg (S := (fun x_ => St w x_ [])) [(5, Value.int .i64 (((k : Nat) : Int) + (1 : Int))), (16, Value.int .i64 (((k : Nat) : Int) + (1 : Int))), (15, Value.int .i64 ((k : Nat) : Int))] [.no, .no, .no] ((InK .i64 (((k : Nat) : Int) + (1 : Int)))) (by kernel_rfl) (in64 (by omega) (by omega)) hS5 ?_
        refine l_nil rfl ?_
        refine then_n ?_
        refine round_end (k + 1) ?_ ?_ ?_
        · exact (agree_cons (by kernel_rfl) (agree_cons (by kernel_rfl) (agree_cons (by kernel_rfl) agree_nil)))
        · exact ⟨(by omega), (tk_step htk hzk hyk hb6p), hS5⟩
        · exact (by first | omega | (dsimp only; omega))
      · skip
        have hb6p := of_decide_eq_false hb6
        refine c_true (b := (!(decide (z = y)))) (by kernel_rfl) (nb (v := false) hb6) ?_
        refine wp_seq ?_
        refine c_reg ?_
        refine q_seg (S := (fun x_ => St w x_ [])) [(4, Value.bool false)] [.no] True (by kernel_rfl) trivial hS5 ?_
        refine l_nil rfl ?_
        refine then_n ?_
        refine wp_ret ?_
        refine blk_r ?_
        refine then_r ?_
        refine then_r ?_
        refine blk_r ?_
        refine then_r ?_
        exact c_end (S := (fun x_ => St w x_ [])) (rs := [.tmp 4]) rfl [] (v := Value.bool false) (C := True) (by kernel_rfl) trivial hS5 ((hS5.rv (congrArg Value.bool (decide_eq_false (fun e_ => hb6p (Option.some.inj (hzk.symm.trans ((congrArg (fun l => l[k]?) e_).trans hyk))))).symm)))
    · skip
      have hb4p := of_decide_eq_false hb4
      refine c_false (b := (decide (((k : Nat) : Int) < ((n : Nat) : Int)))) (by kernel_rfl) hb4 ?_
      refine wp_exit ?_
      refine then_x ?_
      refine then_x ?_
      refine blk_hit ?_
      refine then_n ?_
      refine wp_seq ?_
      refine c_reg ?_
      refine q_seg (S := (fun x_ => St w x_ [])) [(4, Value.bool true)] [.no] True (by kernel_rfl) trivial hS2 ?_
      refine l_nil rfl ?_
      refine then_n ?_
      refine wp_ret ?_
      exact c_end (S := (fun x_ => St w x_ [])) (rs := [.tmp 4]) rfl [] (v := Value.bool true) (C := True) (by kernel_rfl) trivial hS2 ((hS2.rv (congrArg Value.bool (decide_eq_true (by rw [take_all (by have := hr.len; omega), take_all (by have := hr2.len; omega)] at htk; exact htk)).symm)))
  · skip
    have hb1p := of_decide_eq_false hb1
    refine c_true (b := (!(decide (((n : Nat) : Int) = ((m : Nat) : Int))))) (by kernel_rfl) (nb (v := false) hb1) ?_
    refine wp_seq ?_
    refine c_reg ?_
    refine q_seg (S := (fun x_ => St w x_ [])) [(4, Value.bool false)] [.no] True (by kernel_rfl) trivial hS ?_
    refine l_nil rfl ?_
    refine then_n ?_
    refine wp_ret ?_
    refine then_r ?_
    exact c_end (S := (fun x_ => St w x_ [])) (rs := [.tmp 4]) rfl [] (v := Value.bool false) (C := True) (by kernel_rfl) trivial hS ((hS.rv (congrArg Value.bool (decide_eq_false (fun e_ => by have h1_ := hr.len; have h2_ := hr2.len; rw [e_] at h1_; omega)).symm)))
theorem samePackets_c (A B : Option Addr) (n c m d : Nat) (L M : List (Int × List Int)) (w : World) (hs : wt L ≤ 1099511627776) (hs2 : wt M ≤ 1099511627776) (hr : RdL .u8 true w w.heap.size A n L) (hr2 : RdL .u8 true w w.heap.size B m M) : Calls Try.prog 46 #[.slice A n c, .slice B m d] w (RetV w (.bool (decide (L = M)))) := by
  obtain ⟨hok, ys, hr, rfl⟩ := hr
  have hwl := wt_len (ys.map (con true))
  have hln := hr.len
  rw [List.length_map] at hwl
  obtain ⟨hok2, zs, hr2, rfl⟩ := hr2
  have hwl2 := wt_len (zs.map (con true))
  have hln2 := hr2.len
  rw [List.length_map] at hwl2
  refine calls_FA Try.func46 rfl (n := 42) rfl (l := [(0, Value.slice A n c), (1, Value.slice B m d)]) rfl (by simp) (fun g => ?_)
  have hS := St.init w
  refine wp_seq ?_
  refine c_reg ?_
  refine q_seg (S := (fun x_ => St w x_ [])) [(4, Value.bool false)] [.no] True (by kernel_rfl) trivial hS ?_
  refine l_nil rfl ?_
  refine then_n ?_
  refine wp_seq ?_
  refine wp_seq ?_
  refine c_reg ?_
  refine q_seg (S := (fun x_ => St w x_ [])) [(10, Value.bool (!(decide (((n : Nat) : Int) = ((m : Nat) : Int))))), (9, Value.int .i64 ((m : Nat) : Int)), (8, Value.slice B m d), (7, Value.int .i64 ((n : Nat) : Int)), (6, Value.slice A n c)] [.no, .no, .no, .no, .no] True (by kernel_rfl) trivial hS ?_
  refine l_nil rfl ?_
  refine then_n ?_
  rcases Bool.eq_false_or_eq_true (decide (((n : Nat) : Int) = ((m : Nat) : Int))) with hb1 | hb1
  · skip
    have hb1p := of_decide_eq_true hb1
    refine c_false (b := (!(decide (((n : Nat) : Int) = ((m : Nat) : Int))))) (by kernel_rfl) (nb (v := true) hb1) ?_
    refine wp_skip ?_
    refine then_n ?_
    refine wp_seq ?_
    refine wp_seq ?_
    refine c_reg ?_
    refine q_seg (S := (fun x_ => St w x_ [])) [(5, Value.int .i64 0)] [.no] True (by kernel_rfl) trivial hS ?_
    refine l_nil rfl ?_
    refine then_n ?_
    refine wp_block ?_
    refine c_loop (X := Nat) (fun (k : Nat) => [(0, Value.slice A n c), (1, Value.slice B m d), (5, Value.int .i64 ((k : Nat) : Int))]) (fun (k : Nat) (wr : World) => (k ≤ n) ∧ ((ys.map (con true)).take k = (zs.map (con true)).take k) ∧ St w wr []) (fun (k : Nat) => n - k) 0 ?_ ?_ ?_
    · exact (agree_cons (by kernel_rfl) (agree_cons (by kernel_rfl) (agree_cons (by kernel_rfl) agree_nil)))
    · exact ⟨Nat.zero_le _, rfl, hS⟩
    rintro k g3 w2 ⟨hkn, htk, hS2⟩
    refine wp_seq ?_
    refine wp_seq ?_
    refine c_reg ?_
    refine q_seg (S := (fun x_ => St w x_ [])) [(14, Value.bool (decide (((k : Nat) : Int) < ((n : Nat) : Int)))), (13, Value.int .i64 ((n : Nat) : Int)), (12, Value.slice A n c), (11, Value.int .i64 ((k : Nat) : Int))] [.no, .no, .no, .no] True (by kernel_rfl) trivial hS2 ?_
    refine l_nil rfl ?_
    refine then_n ?_
    rcases Bool.eq_false_or_eq_true (decide (((k : Nat) : Int) < ((n : Nat) : Int))) with hb4 | hb4
    · skip
      have hb4p := of_decide_eq_true hb4
      obtain ⟨b, off, rfl, hbB, hcl⟩ := hr.at (k := k) (by omega)
      obtain ⟨y, hyk, hym⟩ := get_of_lt (l := ys) (k := k) (by have := hr.len; omega)
      obtain ⟨hy1, hy2, hy3⟩ := hr.el y hym
      obtain ⟨hyi, hyz⟩ := hok _ (List.mem_map_of_mem (f := (con true)) hym)
      have hyl : y.zs.length + 1 ≤ wt (ys.map (con true)) := wt_mem (List.mem_map_of_mem (f := (con true)) hym)
      obtain ⟨b2, off2, rfl, hbB2, hcl2⟩ := hr2.at (k := k) (by omega)
      obtain ⟨z, hzk, hzm⟩ := get_of_lt (l := zs) (k := k) (by have := hr2.len; omega)
      obtain ⟨hz1, hz2, hz3⟩ := hr2.el z hzm
      obtain ⟨hzi, hzz⟩ := hok2 _ (List.mem_map_of_mem (f := (con true)) hzm)
      have hzl : z.zs.length + 1 ≤ wt (zs.map (con true)) := wt_mem (List.mem_map_of_mem (f := (con true)) hzm)
      refine c_true (b := (decide (((k : Nat) : Int) < ((n : Nat) : Int)))) (by kernel_rfl) hb4 ?_
      refine wp_skip ?_
      refine then_n ?_
      refine wp_seq ?_
      refine wp_block ?_
      refine wp_seq ?_
      refine c_drawn [] (by kernel_rfl) hS2 (fun w5 hS5 => ?_)
      refine t_seg (S := (fun x_ => St w x_ [])) [(0, .no), (1, .no), (5, .no), (6, .no), (2, .no), (7, .no), (3, .no), (8, .no), (4, .v (Value.int .i64 y.s)), (9, .v (Value.int .i64 z.s)), (10, .no), (11, .no)] 13 #[true, true, true, true, true, true, true, true, true, true, true, true, false, false, false, false, false, false, false, false, false, false, false, false, false] [(28, Value.bool (!(decide (y.s = z.s)))), (27, Value.bool (!(decide (y.s = z.s)))), (26, Value.int .i64 z.s), (21, Value.int .i64 y.s), (25, Value.pointer (some ⟨b2, off2 + Int.toNat ((k : Nat) : Int) * 2 + 0, none⟩)), (20, Value.pointer (some ⟨b, off + Int.toNat ((k : Nat) : Int) * 2 + 0, none⟩)), (24, Value.pointer (some ⟨b2, off2 + Int.toNat ((k : Nat) : Int) * 2, none⟩)), (19, Value.pointer (some ⟨b, off + Int.toNat ((k : Nat) : Int) * 2, none⟩)), (23, Value.int .i64 ((k : Nat) : Int)), (22, Value.slice (some ⟨b2, off2, none⟩) m d), (18, Value.int .i64 ((k : Nat) : Int)), (17, Value.slice (some ⟨b, off, none⟩) n c)] (((0 : Int) ≤ ((k : Nat) : Int)) ∧ (((k : Nat) : Int) < ((n : Nat) : Int)) ∧ ((0 : Int) ≤ ((k : Nat) : Int)) ∧ (((k : Nat) : Int) < ((m : Nat) : Int)) ∧ (LoadsAt Try.prog (fun x_ => St w x_ []) 3 ⟨b, off + Int.toNat ((k : Nat) : Int) * 2 + 0, none⟩ (Value.int .i64 y.s)) ∧ (LoadsAt Try.prog (fun x_ => St w x_ []) 3 ⟨b2, off2 + Int.toNat ((k : Nat) : Int) * 2 + 0, none⟩ (Value.int .i64 z.s))) (by kernel_rfl) (Qpanic.then (Qpanic.block (Qpanic.then (Qpanic.then (Qpanic.block (Qpanic.then Qpanic.bp)))))) rfl (by kernel_rfl) ⟨(by omega), (by omega), (by omega), (by omega), (ld_low (flat_cell (p := true) (r := 0) hcl hyk rfl) (by kernel_rfl)), (ld_low (flat_cell (p := true) (r := 0) hcl2 hzk rfl) (by kernel_rfl))⟩ hS5 ?_
      rcases Bool.eq_false_or_eq_true (decide (y.s = z.s)) with hb6 | hb6
      · skip
        have hb6p := of_decide_eq_true hb6
        refine t_seg (S := (fun x_ => St w x_ [])) [(12, .no), (13, .no), (17, .no), (18, .no), (14, .no), (19, .no), (15, .no), (20, .no), (16, .v (Value.slice y.A y.zs.length y.c)), (21, .v (Value.slice z.A z.zs.length z.c))] 3 #[true, true, true, true, true, true, true, true, true, true, true, true, true, true, true, true, true, true, true, true, true, true, false, false, false] [(38, Value.slice z.A z.zs.length z.c), (33, Value.slice y.A y.zs.length y.c), (37, Value.pointer (some ⟨b2, off2 + Int.toNat ((k : Nat) : Int) * 2 + 1, none⟩)), (32, Value.pointer (some ⟨b, off + Int.toNat ((k : Nat) : Int) * 2 + 1, none⟩)), (36, Value.pointer (some ⟨b2, off2 + Int.toNat ((k : Nat) : Int) * 2, none⟩)), (31, Value.pointer (some ⟨b, off + Int.toNat ((k : Nat) : Int) * 2, none⟩)), (35, Value.int .i64 ((k : Nat) : Int)), (34, Value.slice (some ⟨b2, off2, none⟩) m d), (30, Value.int .i64 ((k : Nat) : Int)), (29, Value.slice (some ⟨b, off, none⟩) n c)] (((!(decide (y.s = z.s))) = false) ∧ ((!(decide (y.s = z.s))) = false) ∧ ((!(decide (y.s = z.s))) = false) ∧ ((!(decide (y.s = z.s))) = false) ∧ ((!(decide (y.s = z.s))) = false) ∧ ((0 : Int) ≤ ((k : Nat) : Int)) ∧ (((k : Nat) : Int) < ((n : Nat) : Int)) ∧ ((!(decide (y.s = z.s))) = false) ∧ ((0 : Int) ≤ ((k : Nat) : Int)) ∧ (((k : Nat) : Int) < ((m : Nat) : Int)) ∧ ((!(decide (y.s = z.s))) = false) ∧ ((!(decide (y.s = z.s))) = false) ∧ ((!(decide (y.s = z.s))) = false) ∧ (LoadsAt Try.prog (fun x_ => St w x_ []) 26 ⟨b, off + Int.toNat ((k : Nat) : Int) * 2 + 1, none⟩ (Value.slice y.A y.zs.length y.c)) ∧ ((!(decide (y.s = z.s))) = false) ∧ (LoadsAt Try.prog (fun x_ => St w x_ []) 26 ⟨b2, off2 + Int.toNat ((k : Nat) : Int) * 2 + 1, none⟩ (Value.slice z.A z.zs.length z.c))) (by kernel_rfl) (Qpanic.then (Qpanic.block (Qpanic.then (Qpanic.then (Qpanic.block (Qpanic.then Qpanic.bp)))))) rfl (by kernel_rfl) ⟨(nb (v := true) hb6), (nb (v := true) hb6), (nb (v := true) hb6), (nb (v := true) hb6), (nb (v := true) hb6), (by omega), (by omega), (nb (v := true) hb6), (by omega), (by omega), (nb (v := true) hb6), (nb (v := true) hb6), (nb (v := true) hb6), (ld_low (flat_cell (p := true) (r := 1) hcl hyk rfl) (by kernel_rfl)), (nb (v := true) hb6), (ld_low (flat_cell (p := true) (r := 1) hcl2 hzk rfl) (by kernel_rfl))⟩ hS5 ?_
        refine a_opg (i := 22) (fuel := 2) (listed' := #[true, true, true, true, true, true, true, true, true, true, true, true, true, true, true, true, true, true, true, true, true, true, true, false, false]) rfl rfl (by kernel_rfl) (by kernel_rfl) (b := (!(decide (y.s = z.s)))) (want := false) (by kernel_rfl) (nb (v := true) hb6) (fun K hK => op_callv (d := some 39) rfl rfl ⟨_, Try.func28, by kernel_rfl, by kernel_rfl⟩ (vs := [Value.slice y.A y.zs.length y.c, Value.slice z.A z.zs.length z.c]) (by kernel_rfl) (v := Value.bool (decide (y.zs = z.zs))) (sameBytes_c y.A z.A y.zs.length y.c z.zs.length z.c y.zs z.zs w5 (by omega) (by omega) (hS5.rdlow hy1) (hS5.rdlow hz1)) hS5 (fun w7 hS7 => hK _ _ (fun _ => hS7) ?_))
        clear hK K
        refine t_seg (S := (fun x_ => St w x_ [])) [(23, .no), (24, .v (.bool false))] 0 #[true, true, true, true, true, true, true, true, true, true, true, true, true, true, true, true, true, true, true, true, true, true, true, true, true] [(41, Value.bool (!(decide (y.zs = z.zs)))), (40, Value.bool (!(decide (y.zs = z.zs))))] (((!(decide (y.s = z.s))) = false) ∧ ((!(decide (y.s = z.s))) = false)) (by kernel_rfl) (Qpanic.then (Qpanic.block (Qpanic.then (Qpanic.then (Qpanic.block (Qpanic.then Qpanic.bp)))))) rfl (by kernel_rfl) ⟨(nb (v := true) hb6), (nb (v := true) hb6)⟩ hS7 ?_
        refine a_done (by kernel_rfl) ?_
        refine then_n ?_
        rcases Bool.eq_false_or_eq_true (decide (y.zs = z.zs)) with hb8 | hb8
        · skip
          have hb8p := of_decide_eq_true hb8
          refine c_false (b := (!(decide (y.zs = z.zs)))) (by kernel_rfl) (nb (v := true) hb8) ?_
          refine wp_skip ?_
          refine blk_n ?_
          refine then_n ?_
          refine c_reg ?_
          refine q_seg (S := (fun x_ => St w x_ [])) [(5, Value.int .i64 (((k : Nat) : Int) + (1 : Int))), (16, Value.int .i64 (((k : Nat) : Int) + (1 : Int))), (15, Value.int .i64 ((k : Nat) : Int))] [.no, .no, .no] ((InK .i64 (((k : Nat) : Int) + (1 : Int)))) (by kernel_rfl) (in64 (by omega) (by omega)) hS7 ?_
          refine l_nil rfl ?_
          refine then_n ?_
          refine round_end (k + 1) ?_ ?_ ?_
          · exact (agree_cons (by kernel_rfl) (agree_cons (by kernel_rfl) (agree_cons (by kernel_rfl) agree_nil)))
          · exact ⟨(by omega), (tk_step htk (con_get hyk) (con_get hzk) (con_tt hb6p hb8p)), hS7⟩
          · exact (by first | omega | (dsimp only; omega))
        · skip
          have hb8p := of_decide_eq_false hb8
          refine c_true (b := (!(decide (y.zs = z.zs)))) (by kernel_rfl) (nb (v := false) hb8) ?_
          refine wp_seq ?_
          refine c_reg ?_
          refine q_seg (S := (fun x_ => St w x_ [])) [(4, Value.bool false)] [.no] True (by kernel_rfl) trivial hS7 ?_
          refine l_nil rfl ?_
          refine then_n ?_
          refine wp_ret ?_
          refine blk_r ?_
          refine then_r ?_
          refine then_r ?_
          refine blk_r ?_
          refine then_r ?_
          exact c_end (S := (fun x_ => St w x_ [])) (rs := [.tmp 4]) rfl [] (v := Value.bool false) (C := True) (by kernel_rfl) trivial hS7 ((hS7.rv (congrArg Value.bool (same_false (con_get hyk) (con_get hzk) (con_ne hb8p)).symm)))
      · skip
        have hb6p := of_decide_eq_false hb6
        refine t_seg (S := (fun x_ => St w x_ [])) [(12, .skip), (13, .skip), (17, .skip), (18, .skip), (14, .skip), (19, .skip), (15, .skip), (20, .skip), (16, .skip), (21, .skip), (22, .skip), (23, .skip), (24, .v (.bool true))] 0 #[true, true, true, true, true, true, true, true, true, true, true, true, true, true, true, true, true, true, true, true, true, true, true, true, true] [(41, Value.bool true), (40, undef), (39, undef), (38, undef), (33, undef), (37, undef), (32, undef), (36, undef), (31, undef), (35, undef), (34, undef), (30, undef), (29, undef)] (((!(decide (y.s = z.s))) = !false) ∧ ((!(decide (y.s = z.s))) = !false) ∧ ((!(decide (y.s = z.s))) = !false) ∧ ((!(decide (y.s = z.s))) = !false) ∧ ((!(decide (y.s = z.s))) = !false) ∧ ((!(decide (y.s = z.s))) = !false) ∧ ((!(decide (y.s = z.s))) = !false) ∧ ((!(decide (y.s = z.s))) = !false) ∧ ((!(decide (y.s = z.s))) = !false) ∧ ((!(decide (y.s = z.s))) = !false) ∧ ((!(decide (y.s = z.s))) = !false) ∧ ((!(decide (y.s = z.s))) = !false) ∧ ((!(decide (y.s = z.s))) = true)) (by kernel_rfl) (Qpanic.then (Qpanic.block (Qpanic.then (Qpanic.then (Qpanic.block (Qpanic.then Qpanic.bp)))))) rfl (by kernel_rfl) ⟨(nb (v := false) hb6), (nb (v := false) hb6), (nb (v := false) hb6), (nb (v := false) hb6), (nb (v := false) hb6), (nb (v := false) hb6), (nb (v := false) hb6), (nb (v := false) hb6), (nb (v := false) hb6), (nb (v := false) hb6), (nb (v := false) hb6), (nb (v := false) hb6), (nb (v := false) hb6)⟩ hS5 ?_
        refine a_done (by kernel_rfl) ?_
        refine then_n ?_
        refine c_true (b := true) (by kernel_rfl) rfl ?_
        refine wp_seq ?_
        refine c_reg ?_
        refine q_seg (S := (fun x_ => St w x_ [])) [(4, Value.bool false)] [.no] True (by kernel_rfl) trivial hS5 ?_
        refine l_nil rfl ?_
        refine then_n ?_
        refine wp_ret ?_
        refine blk_r ?_
        refine then_r ?_
        refine then_r ?_
        refine blk_r ?_
        refine then_r ?_
        exact c_end (S := (fun x_ => St w x_ [])) (rs := [.tmp 4]) rfl [] (v := Value.bool false) (C := True) (by kernel_rfl) trivial hS5 ((hS5.rv (congrArg Value.bool (same_false (con_get hyk) (con_get hzk) (con_ne1 hb6p)).symm)))
    · skip
      have hb4p := of_decide_eq_false hb4
      refine c_false (b := (decide (((k : Nat) : Int) < ((n : Nat) : Int)))) (by kernel_rfl) hb4 ?_
      refine wp_exit ?_
      refine then_x ?_
      refine then_x ?_
      refine blk_hit ?_
      refine then_n ?_
      refine wp_seq ?_
      refine c_reg ?_
      refine q_seg (S := (fun x_ => St w x_ [])) [(4, Value.bool true)] [.no] True (by kernel_rfl) trivial hS2 ?_
      refine l_nil rfl ?_
      refine then_n ?_
      refine wp_ret ?_
      exact c_end (S := (fun x_ => St w x_ [])) (rs := [.tmp 4]) rfl [] (v := Value.bool true) (C := True) (by kernel_rfl) trivial hS2 ((hS2.rv (congrArg Value.bool (same_true htk (by rw [List.length_map]; omega) (by rw [List.length_map]; omega)).symm)))
  · skip
    have hb1p := of_decide_eq_false hb1
    refine c_true (b := (!(decide (((n : Nat) : Int) = ((m : Nat) : Int))))) (by kernel_rfl) (nb (v := false) hb1) ?_
    refine wp_seq ?_
    refine c_reg ?_
    refine q_seg (S := (fun x_ => St w x_ [])) [(4, Value.bool false)] [.no] True (by kernel_rfl) trivial hS ?_
    refine l_nil rfl ?_
    refine then_n ?_
    refine wp_ret ?_
    refine then_r ?_
    exact c_end (S := (fun x_ => St w x_ [])) (rs := [.tmp 4]) rfl [] (v := Value.bool false) (C := True) (by kernel_rfl) trivial hS ((hS.rv (congrArg Value.bool (same_len (by rw [List.length_map, List.length_map]; omega)).symm)))
theorem sameSender_c (a0 : Int) (a1A : Option Addr) (a1n a1c : Nat) (a1L : List (Int × List Int)) (b0 : Int) (b1A : Option Addr) (b1n b1c : Nat) (b1L : List (Int × List Int)) (w : World) (a1h : RdL .u8 true w w.heap.size a1A a1n a1L) (a1w : wt a1L ≤ 1099511627776) (b1h : RdL .u8 true w w.heap.size b1A b1n b1L) (b1w : wt b1L ≤ 1099511627776) : Calls Try.prog 44 #[Value.agg #[Value.int .i64 a0, Value.slice a1A a1n a1c], Value.agg #[Value.int .i64 b0, Value.slice b1A b1n b1c]] w (RetV w (.bool (decide (a0 = b0) && decide (a1L = b1L)))) := by
  have a1l := a1h.len
  have a1v := wt_len a1L
  have b1l := b1h.len
  have b1v := wt_len b1L
  refine calls_FA Try.func44 rfl (n := 17) rfl (l := [(0, Value.agg #[Value.int .i64 a0, Value.slice a1A a1n a1c]), (1, Value.agg #[Value.int .i64 b0, Value.slice b1A b1n b1c])]) rfl (by simp) (fun g => ?_)
  have hS := St.init w
  refine wp_seq ?_
  refine c_reg ?_
  refine l_op rfl rfl (fun K hK => op_box (d := some 2) rfl rfl [Value.int .i64 a0, Value.slice a1A a1n a1c] (by kernel_rfl) hS (fun blk2 w1 hS1 => hK _ _ ?_))
  clear hK K
  refine l_op rfl rfl (fun K hK => op_box (d := some 3) rfl rfl [Value.int .i64 b0, Value.slice b1A b1n b1c] (by kernel_rfl) hS1 (fun blk4 w3 hS3 => hK _ _ ?_))
  clear hK K
  refine q_seg (S := (fun x_ => St w x_ [Res.box blk4 [Value.int .i64 b0, Value.slice b1A b1n b1c] 55, Res.box blk2 [Value.int .i64 a0, Value.slice a1A a1n a1c] 55])) [(4, Value.bool false)] [.no] True (by kernel_rfl) trivial hS3 ?_
  refine l_nil rfl ?_
  refine then_n ?_
  refine wp_seq ?_
  refine c_reg ?_
  refine q_seg (S := (fun x_ => St w x_ [Res.box blk4 [Value.int .i64 b0, Value.slice b1A b1n b1c] 55, Res.box blk2 [Value.int .i64 a0, Value.slice a1A a1n a1c] 55])) [(10, Value.bool (decide (a0 = b0))), (9, Value.bool (decide (a0 = b0))), (8, Value.int .i64 b0), (7, Value.pointer (some ⟨blk4, 0 + 0, none⟩)), (6, Value.int .i64 a0), (5, Value.pointer (some ⟨blk2, 0 + 0, none⟩))] [.no, .v (Value.int .i64 a0), .no, .v (Value.int .i64 b0), .no, .no] ((LoadsAt Try.prog (fun x_ => St w x_ [Res.box blk4 [Value.int .i64 b0, Value.slice b1A b1n b1c] 55, Res.box blk2 [Value.int .i64 a0, Value.slice a1A a1n a1c] 55]) 3 ⟨blk2, 0 + 0, none⟩ (Value.int .i64 a0)) ∧ (LoadsAt Try.prog (fun x_ => St w x_ [Res.box blk4 [Value.int .i64 b0, Value.slice b1A b1n b1c] 55, Res.box blk2 [Value.int .i64 a0, Value.slice a1A a1n a1c] 55]) 3 ⟨blk4, 0 + 0, none⟩ (Value.int .i64 b0))) (by kernel_rfl) ⟨(ld_box (i := 1) rfl rfl (by kernel_rfl)), (ld_box (i := 0) rfl rfl (by kernel_rfl))⟩ hS3 ?_
  rcases Bool.eq_false_or_eq_true (decide (a0 = b0)) with hb5 | hb5
  · skip
    have hb5p := of_decide_eq_true hb5
    refine q_seg (S := (fun x_ => St w x_ [Res.box blk4 [Value.int .i64 b0, Value.slice b1A b1n b1c] 55, Res.box blk2 [Value.int .i64 a0, Value.slice a1A a1n a1c] 55])) [(14, Value.slice b1A b1n b1c), (13, Value.pointer (some ⟨blk4, 0 + 1, none⟩)), (12, Value.slice a1A a1n a1c), (11, Value.pointer (some ⟨blk2, 0 + 1, none⟩))] [.no, .v (Value.slice a1A a1n a1c), .no, .v (Value.slice b1A b1n b1c)] (((decide (a0 = b0)) = true) ∧ ((decide (a0 = b0)) = true) ∧ (LoadsAt Try.prog (fun x_ => St w x_ [Res.box blk4 [Value.int .i64 b0, Value.slice b1A b1n b1c] 55, Res.box blk2 [Value.int .i64 a0, Value.slice a1A a1n a1c] 55]) 31 ⟨blk2, 0 + 1, none⟩ (Value.slice a1A a1n a1c)) ∧ ((decide (a0 = b0)) = true) ∧ ((decide (a0 = b0)) = true) ∧ (LoadsAt Try.prog (fun x_ => St w x_ [Res.box blk4 [Value.int .i64 b0, Value.slice b1A b1n b1c] 55, Res.box blk2 [Value.int .i64 a0, Value.slice a1A a1n a1c] 55]) 31 ⟨blk4, 0 + 1, none⟩ (Value.slice b1A b1n b1c))) (by kernel_rfl) ⟨hb5, hb5, (ld_box (i := 1) rfl rfl (by kernel_rfl)), hb5, hb5, (ld_box (i := 0) rfl rfl (by kernel_rfl))⟩ hS3 ?_
    refine l_opg rfl (b := (decide (a0 = b0))) (want := true) (by kernel_rfl) hb5 (fun K hK => op_callv (d := some 15) rfl rfl ⟨_, Try.func46, by kernel_rfl, by kernel_rfl⟩ (vs := [Value.slice a1A a1n a1c, Value.slice b1A b1n b1c]) (by kernel_rfl) (v := Value.bool (decide (a1L = b1L))) (samePackets_c a1A b1A a1n a1c b1n b1c a1L b1L w3 (by omega) (by omega) (hS3.rdllow a1h) (hS3.rdllow b1h)) hS3 (fun w6 hS6 => hK _ _ ?_))
    clear hK K
    refine q_seg (S := (fun x_ => St w x_ [Res.box blk4 [Value.int .i64 b0, Value.slice b1A b1n b1c] 55, Res.box blk2 [Value.int .i64 a0, Value.slice a1A a1n a1c] 55])) [(4, Value.bool (decide (a1L = b1L))), (16, Value.bool (decide (a1L = b1L)))] [.v (.bool true), .no] (((decide (a0 = b0)) = true)) (by kernel_rfl) hb5 hS6 ?_
    refine l_nil rfl ?_
    refine then_n ?_
    refine wp_ret ?_
    exact c_end (S := (fun x_ => St w x_ [Res.box blk4 [Value.int .i64 b0, Value.slice b1A b1n b1c] 55, Res.box blk2 [Value.int .i64 a0, Value.slice a1A a1n a1c] 55])) (rs := [.tmp 4]) rfl [] (v := Value.bool (decide (a1L = b1L))) (C := True) (by kernel_rfl) trivial hS6 ((hS6.rv (congrArg Value.bool (by first | rfl | simp [*]))))
  · skip
    have hb5p := of_decide_eq_false hb5
    refine q_seg (S := (fun x_ => St w x_ [Res.box blk4 [Value.int .i64 b0, Value.slice b1A b1n b1c] 55, Res.box blk2 [Value.int .i64 a0, Value.slice a1A a1n a1c] 55])) [(4, Value.bool false), (16, Value.bool false), (15, undef), (14, undef), (13, undef), (12, undef), (11, undef)] [.skip, .skip, .skip, .skip, .skip, .v (.bool false), .no] (((decide (a0 = b0)) = !true) ∧ ((decide (a0 = b0)) = !true) ∧ ((decide (a0 = b0)) = !true) ∧ ((decide (a0 = b0)) = !true) ∧ ((decide (a0 = b0)) = !true) ∧ ((decide (a0 = b0)) = false)) (by kernel_rfl) ⟨hb5, hb5, hb5, hb5, hb5, hb5⟩ hS3 ?_
    refine l_nil rfl ?_
    refine then_n ?_
    refine wp_ret ?_
    exact c_end (S := (fun x_ => St w x_ [Res.box blk4 [Value.int .i64 b0, Value.slice b1A b1n b1c] 55, Res.box blk2 [Value.int .i64 a0, Value.slice a1A a1n a1c] 55])) (rs := [.tmp 4]) rfl [] (v := Value.bool false) (C := True) (by kernel_rfl) trivial hS3 ((hS3.rv (congrArg Value.bool (by first | rfl | simp [*]))))
theorem l24DrawSender_s_c (b : Nat) (A : Option Addr) (n c : Nat) (i h : Int)  (tl : List Res) (w0 w : World) (hS : St w0 w (Res.box b [Value.slice A n c, Value.int .i64 i, Value.int .i64 h] 110 :: tl)) (hC : CurI w0 A n i)  : Calls Try.prog 103 #[.pointer (some ⟨b, 0, none⟩)] w (fun e w' => ∃ v own', e = .returned v ∧ St w0 w' own' ∧ (∃ (i' h' : Int) (a_ : Int) (U_ : List (Int × List Int)) (U_A : Option Addr) (U_c : Nat) (U_y : List It), v = Value.agg #[Value.int .i64 a_, Value.slice U_A (List.length U_) U_c] ∧ own' = (Res.row (Value.slice U_A (List.length U_) U_c) 37 2 (List.length U_) (flat true U_y) :: Res.box b [Value.slice A n c, Value.int .i64 i', Value.int .i64 h'] 110 :: (((U_y.map (It.row .u8 5)) ++ tl))) ∧ CurI w0 A n i' ∧ (U_y.map (con true) = U_) ∧ (okL .u8 U_) ∧ (1 ≤ a_) ∧ (a_ ≤ 12) ∧ (wt U_ ≤ 33))) := by
  obtain ⟨hClo, hChi, hCn, _⟩ := id hC
  refine calls_FA Try.func103 rfl (n := 32) rfl (l := [(0, Value.pointer (some ⟨b, 0, none⟩))]) rfl (by simp) (fun g => ?_)
  refine wp_seq ?_
  refine c_reg ?_
  refine l_op rfl rfl (fun K hK => op_alloc (d := some 2) rfl rfl [Value.int .i64 0, Value.slice none 0 0] (by kernel_rfl) hS (fun blk2 w1 hS1 => hK _ _ ?_))
  clear hK K
  refine l_nil rfl ?_
  refine then_n ?_
  refine wp_seq ?_
  refine c_reg ?_
  refine q_seg (S := (fun x_ => St w0 x_ (Res.box blk2 [Value.int .i64 0, Value.slice none 0 0] 55 :: Res.box b [Value.slice A n c, Value.int .i64 i, Value.int .i64 h] 110 :: tl))) [(5, Value.agg #[Value.int .i64 1, Value.slice none 0 0])] [.no] True (by kernel_rfl) trivial hS1 ?_
  refine l_op rfl rfl (fun K hK => op_alloc (d := some 3) rfl rfl [Value.int .i64 0, Value.slice none 0 0] (by kernel_rfl) hS1 (fun blk4 w3 hS3 => hK _ _ ?_))
  clear hK K
  refine l_op rfl rfl (fun K hK => op_store (d := none) rfl rfl (i := 0) (b := blk4) (off := 0) (cs := [Value.int .i64 0, Value.slice none 0 0]) (bt := 55) (by kernel_rfl) (by kernel_rfl) [Value.int .i64 1, Value.slice none 0 0] (by kernel_rfl) (by kernel_rfl) (Nat.le_of_ble_eq_true (by kernel_rfl)) (by kernel_rfl) (Res.box blk4 [Value.int .i64 1, Value.slice none 0 0] 55 :: Res.box blk2 [Value.int .i64 0, Value.slice none 0 0] 55 :: Res.box b [Value.slice A n c, Value.int .i64 i, Value.int .i64 h] 110 :: tl) (by kernel_rfl) hS3 (fun w5 hS5 => hK _ _ ?_))
  clear hK K
  refine l_nil rfl ?_
  refine then_n ?_
  refine wp_seq ?_
  refine wp_seq ?_
  refine c_reg ?_
  refine q_seg (S := (fun x_ => St w0 x_ (Res.box blk4 [Value.int .i64 1, Value.slice none 0 0] 55 :: Res.box blk2 [Value.int .i64 0, Value.slice none 0 0] 55 :: Res.box b [Value.slice A n c, Value.int .i64 i, Value.int .i64 h] 110 :: tl))) [(6, Value.pointer (some ⟨b, 0, none⟩))] [.no] True (by kernel_rfl) trivial hS5 ?_
  refine l_op rfl rfl (fun K hK => op_callm (d := some 7) rfl rfl ⟨_, Try.func92, by kernel_rfl, by kernel_rfl⟩ (vs := [Value.pointer (some ⟨b, 0, none⟩), Value.int .i64 12]) (by kernel_rfl) (l1Below_s_c b A n c i h (12 : Int) _ w0 w5 (hS5.front 2 rfl) hC (by omega)) (fun v7 new8 w6 Rw6 hS6 => ?_))
  obtain ⟨ix10, hx11, xd9, rfl, rfl, hC12, hf13, hf14⟩ := Rw6
  refine hK _ _ ?_
  clear hK K
  refine q_seg (S := (fun x_ => St w0 x_ (Res.box b [Value.slice A n c, Value.int .i64 ix10, Value.int .i64 hx11] 110 :: Res.box blk4 [Value.int .i64 1, Value.slice none 0 0] 55 :: Res.box blk2 [Value.int .i64 0, Value.slice none 0 0] 55 :: tl))) [(4, Value.int .i64 xd9)] [.no] True (by kernel_rfl) trivial hS6 ?_
  refine l_nil rfl ?_
  refine then_n ?_
  refine wp_block ?_
  have hS6s1 : St w0 w6 (Res.row (Value.slice none 0 0) 37 2 0 (flat true ([] : List It)) :: Res.box b [Value.slice A n c, Value.int .i64 ix10, Value.int .i64 hx11] 110 :: Res.box blk4 [Value.int .i64 1, Value.slice none 0 0] 55 :: Res.box blk2 [Value.int .i64 0, Value.slice none 0 0] 55 :: ((([] : List It).map (It.row .u8 5)) ++ tl)) := hS6.nilrow 37 2
  refine c_loop (X := Int × Int × List (Int × List Int) × Option Addr × Nat × List It × Int × Int) (fun (x_ : Int × Int × List (Int × List Int) × Option Addr × Nat × List It × Int × Int) => match x_ with | (j, a, U, UA, Uc, Uy, ic, hc) => [(0, Value.pointer (some ⟨b, 0, none⟩)), (2, Value.pointer (some ⟨blk2, 0, none⟩)), (3, Value.pointer (some ⟨blk4, 0, none⟩)), (4, Value.int .i64 j)]) (fun (x_ : Int × Int × List (Int × List Int) × Option Addr × Nat × List It × Int × Int) (wr : World) => match x_ with | (j, a, U, UA, Uc, Uy, ic, hc) => (CurI w0 A n ic) ∧ (0 ≤ j) ∧ (1 ≤ a) ∧ (a + j ≤ 12) ∧ (((wt U : Nat) : Int) + 3 * j ≤ 33) ∧ (Uy.map (con true) = U) ∧ (okL .u8 U) ∧ St w0 wr (Res.row (Value.slice UA (List.length U) Uc) 37 2 (List.length U) (flat true Uy) :: Res.box b [Value.slice A n c, Value.int .i64 ic, Value.int .i64 hc] 110 :: Res.box blk4 [Value.int .i64 a, Value.slice UA (List.length U) Uc] 55 :: Res.box blk2 [Value.int .i64 0, Value.slice none 0 0] 55 :: ((Uy.map (It.row .u8 5)) ++ tl))) (fun (x_ : Int × Int × List (Int × List Int) × Option Addr × Nat × List It × Int × Int) => match x_ with | (j, a, U, UA, Uc, Uy, ic, hc) => j.toNat) ((xd9, 1, [], none, 0, [], ix10, hx11)) ?_ ?_ ?_
  · exact (agree_cons (by kernel_rfl) (agree_cons (by kernel_rfl) (agree_cons (by kernel_rfl) (agree_cons (by kernel_rfl) agree_nil))))
  · exact ⟨hC12, (by omega), (by omega), (by omega), (by simp only [wt]; omega), rfl, okL.nil, hS6s1⟩
  rintro ⟨j, a, U, UA, Uc, Uy, ic, hc⟩ g16 w15 ⟨hCl, hj0, ha1, haj, hwj, hUq, hUo, hS15⟩
  obtain ⟨hClo2, hChi2, hCn2, _⟩ := id hCl
  have hUw := wt_len U
  refine wp_seq ?_
  refine wp_seq ?_
  refine c_reg ?_
  refine q_seg (S := (fun x_ => St w0 x_ (Res.row (Value.slice UA (List.length U) Uc) 37 2 (List.length U) (flat true Uy) :: Res.box b [Value.slice A n c, Value.int .i64 ic, Value.int .i64 hc] 110 :: Res.box blk4 [Value.int .i64 a, Value.slice UA (List.length U) Uc] 55 :: Res.box blk2 [Value.int .i64 0, Value.slice none 0 0] 55 :: ((Uy.map (It.row .u8 5)) ++ tl)))) [(9, Value.bool (decide ((0 : Int) < j))), (8, Value.int .i64 j)] [.no, .no] True (by kernel_rfl) trivial hS15 ?_
  refine l_nil rfl ?_
  refine then_n ?_
  rcases Bool.eq_false_or_eq_true (decide ((0 : Int) < j)) with hb17 | hb17
  · skip
    have hb17p := of_decide_eq_true hb17
    refine c_true (b := (decide ((0 : Int) < j))) (by kernel_rfl) hb17 ?_
    refine wp_skip ?_
    refine then_n ?_
    refine wp_seq ?_
    refine wp_block ?_
    refine wp_seq ?_
    refine c_reg ?_
    refine q_seg (S := (fun x_ => St w0 x_ (Res.row (Value.slice UA (List.length U) Uc) 37 2 (List.length U) (flat true Uy) :: Res.box b [Value.slice A n c, Value.int .i64 ic, Value.int .i64 hc] 110 :: Res.box blk4 [Value.int .i64 a, Value.slice UA (List.length U) Uc] 55 :: Res.box blk2 [Value.int .i64 0, Value.slice none 0 0] 55 :: ((Uy.map (It.row .u8 5)) ++ tl)))) [(12, Value.pointer (some ⟨b, 0, none⟩))] [.no] True (by kernel_rfl) trivial hS15 ?_
    refine l_op rfl rfl (fun K hK => op_callm (d := some 13) rfl rfl ⟨_, Try.func108, by kernel_rfl, by kernel_rfl⟩ (vs := [Value.pointer (some ⟨b, 0, none⟩), Value.int .i64 3]) (by kernel_rfl) (l1Once_s_c b A n c ic hc (3 : Int) _ w0 w15 (hS15.front 1 rfl) hCl (by omega)) (fun v19 new20 w18 Rw18 hS18 => ?_))
    obtain ⟨ix22, hx23, ed21, rfl, rfl, hC24⟩ := Rw18
    refine hK _ _ ?_
    clear hK K
    refine l_nil rfl ?_
    refine then_n ?_
    rcases Bool.eq_false_or_eq_true (ed21) with hb25 | hb25
    · skip
      refine c_true (b := ed21) (by kernel_rfl) hb25 ?_
      refine c_drawnS (S := (fun x_ => St w0 x_ (Res.row (Value.slice UA (List.length U) Uc) 37 2 (List.length U) (flat true Uy) :: Res.box blk4 [Value.int .i64 a, Value.slice UA (List.length U) Uc] 55 :: Res.box blk2 [Value.int .i64 0, Value.slice none 0 0] 55 :: ((Uy.map (It.row .u8 5)) ++ tl)))) [7] (by kernel_rfl) hS18 (fun w26 hS26 => ?_)
      refine t_seg (S := (fun x_ => St w0 x_ (Res.row (Value.slice UA (List.length U) Uc) 37 2 (List.length U) (flat true Uy) :: Res.box blk4 [Value.int .i64 a, Value.slice UA (List.length U) Uc] 55 :: Res.box blk2 [Value.int .i64 0, Value.slice none 0 0] 55 :: ((Uy.map (It.row .u8 5)) ++ tl)))) [(0, .v (Value.agg #[Value.int .i64 a, Value.slice UA (List.length U) Uc])), (1, .no), (3, .no), (2, .v (Value.int .i64 a))] 4 #[true, true, true, true, false, false, false, false] [(16, Value.int .i64 a), (17, Value.pointer (some ⟨b, 0, none⟩)), (15, Value.pointer (some ⟨blk4, 0 + 0, none⟩)), (14, Value.agg #[Value.int .i64 a, Value.slice UA (List.length U) Uc])] ((LoadsAt Try.prog (fun x_ => St w0 x_ (Res.row (Value.slice UA (List.length U) Uc) 37 2 (List.length U) (flat true Uy) :: Res.box blk4 [Value.int .i64 a, Value.slice UA (List.length U) Uc] 55 :: Res.box blk2 [Value.int .i64 0, Value.slice none 0 0] 55 :: ((Uy.map (It.row .u8 5)) ++ tl))) 55 ⟨blk4, 0, none⟩ (Value.agg #[Value.int .i64 a, Value.slice UA (List.length U) Uc])) ∧ (LoadsAt Try.prog (fun x_ => St w0 x_ (Res.row (Value.slice UA (List.length U) Uc) 37 2 (List.length U) (flat true Uy) :: Res.box blk4 [Value.int .i64 a, Value.slice UA (List.length U) Uc] 55 :: Res.box blk2 [Value.int .i64 0, Value.slice none 0 0] 55 :: ((Uy.map (It.row .u8 5)) ++ tl))) 3 ⟨blk4, 0 + 0, none⟩ (Value.int .i64 a))) (by kernel_rfl) (Qpanic.block (Qpanic.then (Qpanic.then (Qpanic.block (Qpanic.then Qpanic.bp))))) rfl (by kernel_rfl) ⟨(ld_boxN (i := 1) (k := 2) rfl rfl rfl (by kernel_rfl)), (ld_box (i := 1) rfl rfl (by kernel_rfl))⟩ (hS26.drop) ?_
      refine a_op (i := 4) (fuel := 3) (listed' := #[true, true, true, true, true, false, false, false]) rfl rfl (by kernel_rfl) (by kernel_rfl) rfl (fun K hK => op_callm (d := some 18) rfl rfl ⟨_, Try.func92, by kernel_rfl, by kernel_rfl⟩ (vs := [Value.pointer (some ⟨b, 0, none⟩), Value.int .i64 3]) (by kernel_rfl) (l1Below_s_c b A n c ix22 hx23 (3 : Int) _ w0 w26 hS26 hC24 (by omega)) (fun v28 new29 w27 Rw27 hS27 => ?_))
      obtain ⟨ix31, hx32, xd30, rfl, rfl, hC33, hf34, hf35⟩ := Rw27
      refine hK _ _ (fun _ => (hS27.sub (List.Sublist.cons _ (List.Sublist.cons_cons _ (List.Sublist.cons_cons _ (List.Sublist.cons_cons _ (List.Sublist.append (List.Sublist.refl _) (List.Sublist.refl _)))))))) ?_
      clear hK K
      refine t_seg (S := (fun x_ => St w0 x_ (Res.row (Value.slice UA (List.length U) Uc) 37 2 (List.length U) (flat true Uy) :: Res.box blk4 [Value.int .i64 a, Value.slice UA (List.length U) Uc] 55 :: Res.box blk2 [Value.int .i64 0, Value.slice none 0 0] 55 :: ((Uy.map (It.row .u8 5)) ++ tl)))) [(5, .no)] 2 #[true, true, true, true, true, true, false, false] [(19, Value.int .i64 (a - xd30))] ((InK .i64 (a - xd30))) (by kernel_rfl) (Qpanic.block (Qpanic.then (Qpanic.then (Qpanic.block (Qpanic.then Qpanic.bp))))) rfl (by kernel_rfl) (in64 (by omega) (by omega)) (hS27.drop) ?_
      refine a_op (i := 6) (fuel := 1) (listed' := #[true, true, true, true, true, true, true, false]) rfl rfl (by kernel_rfl) (by kernel_rfl) rfl (fun K hK => op_call (d := some 20) rfl rfl ⟨_, Try.func48, by kernel_rfl, by kernel_rfl⟩ (vs := [Value.agg #[Value.int .i64 a, Value.slice UA (List.length U) Uc], Value.int .i64 (a - xd30)]) (by kernel_rfl) (AcknowledgeBelow_s_c a UA (List.length U) Uc U (a - xd30) w27 (hS27.rdl (κ := .u8) (p := true) (tb := 5) (ys := Uy) (List.mem_of_getElem? (i := 1) rfl) (fun y_ hy_ => (List.mem_cons_of_mem _ (List.mem_cons_of_mem _ (List.mem_cons_of_mem _ (List.mem_cons_of_mem _ (List.mem_append_left _ (List.mem_map_of_mem hy_))))))) hUq hUo rfl) (by omega) ) hS27 (fun v38 new39 w36 Rw36 hS36 => hK _ _ (fun _ => hS36.after.drop) ?_))
      clear hK K
      have hlq37o0 : okL .u8 (ackL (a - xd30) a U) := (ackL_ok hUo _ _)
      have hlq37l0 : List.length (ackL (a - xd30) a U) = (List.length (ackL (a - xd30) a U)) := rfl
      have hlq37v0 := wt_len (ackL (a - xd30) a U)
      have hlq37w := ackL_wt (a - xd30) a U
      obtain ⟨Aq40, cq41, yq42, rfl, rfl, hcq43⟩ := Rw36
      have hS36r : St w0 w36 (Res.row (Value.slice Aq40 (List.length (ackL (a - xd30) a U)) cq41) 37 2 (List.length (ackL (a - xd30) a U)) (flat true yq42) :: Res.box b [Value.slice A n c, Value.int .i64 ix31, Value.int .i64 hx32] 110 :: Res.row (Value.slice UA (List.length U) Uc) 37 2 (List.length U) (flat true Uy) :: Res.box blk4 [Value.int .i64 a, Value.slice UA (List.length U) Uc] 55 :: Res.box blk2 [Value.int .i64 0, Value.slice none 0 0] 55 :: ((yq42.map (It.row .u8 5)) ++ ((Uy.map (It.row .u8 5)) ++ tl))) := St.rot_1 [Res.row (Value.slice Aq40 (List.length (ackL (a - xd30) a U)) cq41) 37 2 (List.length (ackL (a - xd30) a U)) (flat true yq42)] [Res.box b [Value.slice A n c, Value.int .i64 ix31, Value.int .i64 hx32] 110, Res.row (Value.slice UA (List.length U) Uc) 37 2 (List.length U) (flat true Uy), Res.box blk4 [Value.int .i64 a, Value.slice UA (List.length U) Uc] 55, Res.box blk2 [Value.int .i64 0, Value.slice none 0 0] 55] ((Uy.map (It.row .u8 5)) ++ tl) (yq42.map (It.row .u8 5)) hS36
      refine a_op (i := 7) (fuel := 0) (listed' := #[true, true, true, true, true, true, true, true]) rfl rfl (by kernel_rfl) (by kernel_rfl) rfl (fun K hK => op_store (d := none) rfl rfl (i := 3) (b := blk4) (off := 0) (cs := [Value.int .i64 a, Value.slice UA (List.length U) Uc]) (bt := 55) (by kernel_rfl) (by kernel_rfl) [Value.int .i64 a, Value.slice Aq40 (List.length (ackL (a - xd30) a U)) cq41] (by kernel_rfl) (by kernel_rfl) (Nat.le_of_ble_eq_true (by kernel_rfl)) (by kernel_rfl) (Res.row (Value.slice Aq40 (List.length (ackL (a - xd30) a U)) cq41) 37 2 (List.length (ackL (a - xd30) a U)) (flat true yq42) :: Res.box b [Value.slice A n c, Value.int .i64 ix31, Value.int .i64 hx32] 110 :: Res.row (Value.slice UA (List.length U) Uc) 37 2 (List.length U) (flat true Uy) :: Res.box blk4 [Value.int .i64 a, Value.slice Aq40 (List.length (ackL (a - xd30) a U)) cq41] 55 :: Res.box blk2 [Value.int .i64 0, Value.slice none 0 0] 55 :: ((yq42.map (It.row .u8 5)) ++ ((Uy.map (It.row .u8 5)) ++ tl))) (by kernel_rfl) hS36r (fun w44 hS44 => hK _ _ (fun h => absurd h (by decide)) ?_))
      clear hK K
      refine a_done (by kernel_rfl) ?_
      refine blk_n ?_
      refine then_n ?_
      refine c_reg ?_
      refine q_seg (S := (fun x_ => St w0 x_ (Res.row (Value.slice Aq40 (List.length (ackL (a - xd30) a U)) cq41) 37 2 (List.length (ackL (a - xd30) a U)) (flat true yq42) :: Res.box b [Value.slice A n c, Value.int .i64 ix31, Value.int .i64 hx32] 110 :: Res.row (Value.slice UA (List.length U) Uc) 37 2 (List.length U) (flat true Uy) :: Res.box blk4 [Value.int .i64 a, Value.slice Aq40 (List.length (ackL (a - xd30) a U)) cq41] 55 :: Res.box blk2 [Value.int .i64 0, Value.slice none 0 0] 55 :: ((yq42.map (It.row .u8 5)) ++ ((Uy.map (It.row .u8 5)) ++ tl))))) [(4, Value.int .i64 (j - (1 : Int))), (11, Value.int .i64 (j - (1 : Int))), (10, Value.int .i64 j)] [.no, .no, .no] ((InK .i64 (j - (1 : Int)))) (by kernel_rfl) (in64 (by omega) (by omega)) hS44 ?_
      refine l_nil rfl ?_
      refine then_n ?_
      have hS44s2 : St w0 w44 (Res.row (Value.slice Aq40 (List.length (ackL (a - xd30) a U)) cq41) 37 2 (List.length (ackL (a - xd30) a U)) (flat true yq42) :: Res.box b [Value.slice A n c, Value.int .i64 ix31, Value.int .i64 hx32] 110 :: Res.box blk4 [Value.int .i64 a, Value.slice Aq40 (List.length (ackL (a - xd30) a U)) cq41] 55 :: Res.box blk2 [Value.int .i64 0, Value.slice none 0 0] 55 :: ((yq42.map (It.row .u8 5)) ++ tl)) := (hS44.sub (List.Sublist.cons_cons _ (List.Sublist.cons_cons _ (List.Sublist.cons _ (List.Sublist.cons_cons _ (List.Sublist.cons_cons _ (List.Sublist.append (List.Sublist.refl _) (List.Sublist.trans (List.Sublist.refl _) (List.sublist_append_right _ _)))))))))
      refine round_end ((j - 1, a, (ackL (a - xd30) a U), Aq40, cq41, yq42, ix31, hx32)) ?_ ?_ ?_
      · exact (agree_cons (by kernel_rfl) (agree_cons (by kernel_rfl) (agree_cons (by kernel_rfl) (agree_cons (by kernel_rfl) agree_nil))))
      · exact ⟨hC33, (by omega), (by omega), (by omega), (by omega), hcq43, hlq37o0, (hS44s2.eqv (by rw [hlq37l0]))⟩
      · exact (by first | omega | (dsimp only; omega))
    · skip
      refine c_false (b := ed21) (by kernel_rfl) hb25 ?_
      refine c_drawnS (S := (fun x_ => St w0 x_ (Res.row (Value.slice UA (List.length U) Uc) 37 2 (List.length U) (flat true Uy) :: Res.box blk4 [Value.int .i64 a, Value.slice UA (List.length U) Uc] 55 :: Res.box blk2 [Value.int .i64 0, Value.slice none 0 0] 55 :: ((Uy.map (It.row .u8 5)) ++ tl)))) [10] (by kernel_rfl) hS18 (fun w45 hS45 => ?_)
      refine t_seg (S := (fun x_ => St w0 x_ (Res.row (Value.slice UA (List.length U) Uc) 37 2 (List.length U) (flat true Uy) :: Res.box blk4 [Value.int .i64 a, Value.slice UA (List.length U) Uc] 55 :: Res.box blk2 [Value.int .i64 0, Value.slice none 0 0] 55 :: ((Uy.map (It.row .u8 5)) ++ tl)))) [(0, .v (Value.agg #[Value.int .i64 a, Value.slice UA (List.length U) Uc])), (1, .no), (2, .no)] 8 #[true, true, true, false, false, false, false, false, false, false, false] [(24, Value.pointer (some ⟨b, 0, none⟩)), (23, Value.pointer (some ⟨b, 0, none⟩)), (22, Value.agg #[Value.int .i64 a, Value.slice UA (List.length U) Uc])] ((LoadsAt Try.prog (fun x_ => St w0 x_ (Res.row (Value.slice UA (List.length U) Uc) 37 2 (List.length U) (flat true Uy) :: Res.box blk4 [Value.int .i64 a, Value.slice UA (List.length U) Uc] 55 :: Res.box blk2 [Value.int .i64 0, Value.slice none 0 0] 55 :: ((Uy.map (It.row .u8 5)) ++ tl))) 55 ⟨blk4, 0, none⟩ (Value.agg #[Value.int .i64 a, Value.slice UA (List.length U) Uc]))) (by kernel_rfl) (Qpanic.block (Qpanic.then (Qpanic.then (Qpanic.block (Qpanic.then Qpanic.bp))))) rfl (by kernel_rfl) (ld_boxN (i := 1) (k := 2) rfl rfl rfl (by kernel_rfl)) (hS45.drop) ?_
      refine a_op (i := 3) (fuel := 7) (listed' := #[true, true, true, true, false, false, false, false, false, false, false]) rfl rfl (by kernel_rfl) (by kernel_rfl) rfl (fun K hK => op_callm (d := some 25) rfl rfl ⟨_, Try.func92, by kernel_rfl, by kernel_rfl⟩ (vs := [Value.pointer (some ⟨b, 0, none⟩), Value.int .i64 3]) (by kernel_rfl) (l1Below_s_c b A n c ix22 hx23 (3 : Int) _ w0 w45 hS45 hC24 (by omega)) (fun v47 new48 w46 Rw46 hS46 => ?_))
      obtain ⟨ix50, hx51, xd49, rfl, rfl, hC52, hf53, hf54⟩ := Rw46
      refine hK _ _ (fun _ => (hS46.sub (List.Sublist.cons _ (List.Sublist.cons_cons _ (List.Sublist.cons_cons _ (List.Sublist.cons_cons _ (List.Sublist.append (List.Sublist.refl _) (List.Sublist.refl _)))))))) ?_
      clear hK K
      refine a_op (i := 4) (fuel := 6) (listed' := #[true, true, true, true, true, false, false, false, false, false, false]) rfl rfl (by kernel_rfl) (by kernel_rfl) rfl (fun K hK => op_callm (d := some 26) rfl rfl ⟨_, Try.func85, by kernel_rfl, by kernel_rfl⟩ (vs := [Value.pointer (some ⟨b, 0, none⟩), Value.int .i64 xd49]) (by kernel_rfl) (l1Bytes_s_c b A n c ix50 hx51 xd49 _ w0 w46 hS46 hC52 (by omega) (by omega)) (fun v56 new57 w55 Rw55 hS55 => ?_))
      obtain ⟨ix59, hx60, zd58, zd58A, zd58c, rfl, rfl, hC61, hf62, hf63⟩ := Rw55
      refine hK _ _ (fun _ => (hS55.sub (List.Sublist.cons _ (List.Sublist.cons _ (List.Sublist.cons_cons _ (List.Sublist.cons_cons _ (List.Sublist.cons_cons _ (List.Sublist.append (List.Sublist.refl _) (List.Sublist.refl _))))))))) ?_
      clear hK K
      refine a_op (i := 5) (fuel := 5) (listed' := #[true, true, true, true, true, true, false, false, false, false, false]) rfl rfl (by kernel_rfl) (by kernel_rfl) rfl (fun K hK => op_call (d := some 27) rfl rfl ⟨_, Try.func43, by kernel_rfl, by kernel_rfl⟩ (vs := [Value.agg #[Value.int .i64 a, Value.slice UA (List.length U) Uc], Value.slice zd58A (List.length zd58) zd58c]) (by kernel_rfl) (SendPacket_s_c a UA (List.length U) Uc U zd58A (List.length zd58) zd58c zd58 w55 (i64 (by omega) (by omega)) (hS55.rdl (κ := .u8) (p := true) (tb := 5) (ys := Uy) (List.mem_of_getElem? (i := 2) rfl) (fun y_ hy_ => (List.mem_cons_of_mem _ (List.mem_cons_of_mem _ (List.mem_cons_of_mem _ (List.mem_cons_of_mem _ (List.mem_cons_of_mem _ (List.mem_append_left _ (List.mem_map_of_mem hy_)))))))) hUq hUo rfl) (by omega) (hS55.rd (List.mem_of_getElem? (i := 0) rfl)).u1 (by omega) hf62) hS55 (fun v66 new67 w64 Rw64 hS64 => hK _ _ (fun _ => hS64.after.drop.drop) ?_))
      clear hK K
      have hlq65o0 : okL .u8 (sL a U zd58) := (sL_ok hUo (i64 (by omega) (by omega)) hf62)
      have hlq65l0 : List.length (sL a U zd58) = (sN a U zd58 (List.length U)) := (sL_len rfl)
      have hlq65v0 := wt_len (sL a U zd58)
      have hlq65n1 : sM a U zd58 ≤ zd58.length := sM_le _ _ _
      have hlq65w := sL_wt a U zd58
      obtain ⟨Aq68, cq69, yq70, Aq72, cq73, rfl, rfl, hcq71⟩ := Rw64
      have hS64r : St w0 w64 (Res.row (Value.slice Aq68 (sN a U zd58 (List.length U)) cq69) 37 2 (sN a U zd58 (List.length U)) (flat true yq70) :: Res.row (Value.slice Aq72 (sM a U zd58) cq73) 5 1 (sM a U zd58) ((sZ a U zd58).map (Value.int .u8)) :: Res.row (Value.slice zd58A (List.length zd58) zd58c) 5 1 (List.length zd58) (zd58.map (Value.int .u8)) :: Res.box b [Value.slice A n c, Value.int .i64 ix59, Value.int .i64 hx60] 110 :: Res.row (Value.slice UA (List.length U) Uc) 37 2 (List.length U) (flat true Uy) :: Res.box blk4 [Value.int .i64 a, Value.slice UA (List.length U) Uc] 55 :: Res.box blk2 [Value.int .i64 0, Value.slice none 0 0] 55 :: ((yq70.map (It.row .u8 5)) ++ ((Uy.map (It.row .u8 5)) ++ tl))) := St.rot_1 [Res.row (Value.slice Aq68 (sN a U zd58 (List.length U)) cq69) 37 2 (sN a U zd58 (List.length U)) (flat true yq70), Res.row (Value.slice Aq72 (sM a U zd58) cq73) 5 1 (sM a U zd58) ((sZ a U zd58).map (Value.int .u8))] [Res.row (Value.slice zd58A (List.length zd58) zd58c) 5 1 (List.length zd58) (zd58.map (Value.int .u8)), Res.box b [Value.slice A n c, Value.int .i64 ix59, Value.int .i64 hx60] 110, Res.row (Value.slice UA (List.length U) Uc) 37 2 (List.length U) (flat true Uy), Res.box blk4 [Value.int .i64 a, Value.slice UA (List.length U) Uc] 55, Res.box blk2 [Value.int .i64 0, Value.slice none 0 0] 55] ((Uy.map (It.row .u8 5)) ++ tl) (yq70.map (It.row .u8 5)) hS64
      refine t_seg (S := (fun x_ => St w0 x_ (Res.row (Value.slice UA (List.length U) Uc) 37 2 (List.length U) (flat true Uy) :: Res.box blk4 [Value.int .i64 a, Value.slice UA (List.length U) Uc] 55 :: Res.box blk2 [Value.int .i64 0, Value.slice none 0 0] 55 :: ((Uy.map (It.row .u8 5)) ++ tl)))) [(6, .no), (7, .no), (8, .no), (9, .no)] 1 #[true, true, true, true, true, true, true, true, true, true, false] [(30, Value.bool (sOk a U zd58)), (29, Value.agg #[Value.int .i64 (sB a U zd58), Value.slice Aq72 (sM a U zd58) cq73]), (28, Value.agg #[Value.int .i64 (sA a U zd58), Value.slice Aq68 (sN a U zd58 (List.length U)) cq69]), (21, Value.tuple #[Value.agg #[Value.int .i64 (sA a U zd58), Value.slice Aq68 (sN a U zd58 (List.length U)) cq69], Value.agg #[Value.int .i64 (sB a U zd58), Value.slice Aq72 (sM a U zd58) cq73], Value.bool (sOk a U zd58)])] True (by kernel_rfl) (Qpanic.block (Qpanic.then (Qpanic.then (Qpanic.block (Qpanic.then Qpanic.bp))))) rfl (by kernel_rfl) trivial (hS64r.sub (List.Sublist.cons _ (List.Sublist.cons _ (List.Sublist.cons _ (List.Sublist.cons _ (List.Sublist.cons_cons _ (List.Sublist.cons_cons _ (List.Sublist.cons_cons _ (List.Sublist.trans (List.Sublist.append (List.Sublist.refl _) (List.Sublist.refl _)) (List.sublist_append_right _ _)))))))))) ?_
      refine a_op (i := 10) (fuel := 0) (listed' := #[true, true, true, true, true, true, true, true, true, true, true]) rfl rfl (by kernel_rfl) (by kernel_rfl) rfl (fun K hK => op_store (d := none) rfl rfl (i := 5) (b := blk4) (off := 0) (cs := [Value.int .i64 a, Value.slice UA (List.length U) Uc]) (bt := 55) (by kernel_rfl) (by kernel_rfl) [Value.int .i64 (sA a U zd58), Value.slice Aq68 (sN a U zd58 (List.length U)) cq69] (by kernel_rfl) (by kernel_rfl) (Nat.le_of_ble_eq_true (by kernel_rfl)) (by kernel_rfl) (Res.row (Value.slice Aq68 (sN a U zd58 (List.length U)) cq69) 37 2 (sN a U zd58 (List.length U)) (flat true yq70) :: Res.row (Value.slice Aq72 (sM a U zd58) cq73) 5 1 (sM a U zd58) ((sZ a U zd58).map (Value.int .u8)) :: Res.row (Value.slice zd58A (List.length zd58) zd58c) 5 1 (List.length zd58) (zd58.map (Value.int .u8)) :: Res.box b [Value.slice A n c, Value.int .i64 ix59, Value.int .i64 hx60] 110 :: Res.row (Value.slice UA (List.length U) Uc) 37 2 (List.length U) (flat true Uy) :: Res.box blk4 [Value.int .i64 (sA a U zd58), Value.slice Aq68 (sN a U zd58 (List.length U)) cq69] 55 :: Res.box blk2 [Value.int .i64 0, Value.slice none 0 0] 55 :: ((yq70.map (It.row .u8 5)) ++ ((Uy.map (It.row .u8 5)) ++ tl))) (by kernel_rfl) hS64r (fun w74 hS74 => hK _ _ (fun h => absurd h (by decide)) ?_))
      clear hK K
      refine a_done (by kernel_rfl) ?_
      refine blk_n ?_
      refine then_n ?_
      refine c_reg ?_
      refine q_seg (S := (fun x_ => St w0 x_ (Res.row (Value.slice Aq68 (sN a U zd58 (List.length U)) cq69) 37 2 (sN a U zd58 (List.length U)) (flat true yq70) :: Res.row (Value.slice Aq72 (sM a U zd58) cq73) 5 1 (sM a U zd58) ((sZ a U zd58).map (Value.int .u8)) :: Res.row (Value.slice zd58A (List.length zd58) zd58c) 5 1 (List.length zd58) (zd58.map (Value.int .u8)) :: Res.box b [Value.slice A n c, Value.int .i64 ix59, Value.int .i64 hx60] 110 :: Res.row (Value.slice UA (List.length U) Uc) 37 2 (List.length U) (flat true Uy) :: Res.box blk4 [Value.int .i64 (sA a U zd58), Value.slice Aq68 (sN a U zd58 (List.length U)) cq69] 55 :: Res.box blk2 [Value.int .i64 0, Value.slice none 0 0] 55 :: ((yq70.map (It.row .u8 5)) ++ ((Uy.map (It.row .u8 5)) ++ tl))))) [(4, Value.int .i64 (j - (1 : Int))), (11, Value.int .i64 (j - (1 : Int))), (10, Value.int .i64 j)] [.no, .no, .no] ((InK .i64 (j - (1 : Int)))) (by kernel_rfl) (in64 (by omega) (by omega)) hS74 ?_
      refine l_nil rfl ?_
      refine then_n ?_
      have hS74s3 : St w0 w74 (Res.row (Value.slice Aq68 (sN a U zd58 (List.length U)) cq69) 37 2 (sN a U zd58 (List.length U)) (flat true yq70) :: Res.box b [Value.slice A n c, Value.int .i64 ix59, Value.int .i64 hx60] 110 :: Res.box blk4 [Value.int .i64 (sA a U zd58), Value.slice Aq68 (sN a U zd58 (List.length U)) cq69] 55 :: Res.box blk2 [Value.int .i64 0, Value.slice none 0 0] 55 :: ((yq70.map (It.row .u8 5)) ++ tl)) := (hS74.sub (List.Sublist.cons_cons _ (List.Sublist.cons _ (List.Sublist.cons _ (List.Sublist.cons_cons _ (List.Sublist.cons _ (List.Sublist.cons_cons _ (List.Sublist.cons_cons _ (List.Sublist.append (List.Sublist.refl _) (List.Sublist.trans (List.Sublist.refl _) (List.sublist_append_right _ _)))))))))))
      have hsA := sA_bd (a := a) (L := U) (z := zd58) (by omega) (by omega)
      refine round_end ((j - 1, (sA a U zd58), (sL a U zd58), Aq68, cq69, yq70, ix59, hx60)) ?_ ?_ ?_
      · exact (agree_cons (by kernel_rfl) (agree_cons (by kernel_rfl) (agree_cons (by kernel_rfl) (agree_cons (by kernel_rfl) agree_nil))))
      · exact ⟨hC61, (by omega), (by omega), (by omega), (by omega), hcq71, hlq65o0, (hS74s3.eqv (by rw [hlq65l0]))⟩
      · exact (by first | omega | (dsimp only; omega))
  · skip
    have hb17p := of_decide_eq_false hb17
    refine c_false (b := (decide ((0 : Int) < j))) (by kernel_rfl) hb17 ?_
    refine wp_exit ?_
    refine then_x ?_
    refine then_x ?_
    refine blk_hit ?_
    refine then_n ?_
    refine wp_seq ?_
    refine c_reg ?_
    refine q_seg (S := (fun x_ => St w0 x_ (Res.row (Value.slice UA (List.length U) Uc) 37 2 (List.length U) (flat true Uy) :: Res.box b [Value.slice A n c, Value.int .i64 ic, Value.int .i64 hc] 110 :: Res.box blk4 [Value.int .i64 a, Value.slice UA (List.length U) Uc] 55 :: Res.box blk2 [Value.int .i64 0, Value.slice none 0 0] 55 :: ((Uy.map (It.row .u8 5)) ++ tl)))) [(31, Value.agg #[Value.int .i64 a, Value.slice UA (List.length U) Uc])] [.v (Value.agg #[Value.int .i64 a, Value.slice UA (List.length U) Uc])] ((LoadsAt Try.prog (fun x_ => St w0 x_ (Res.row (Value.slice UA (List.length U) Uc) 37 2 (List.length U) (flat true Uy) :: Res.box b [Value.slice A n c, Value.int .i64 ic, Value.int .i64 hc] 110 :: Res.box blk4 [Value.int .i64 a, Value.slice UA (List.length U) Uc] 55 :: Res.box blk2 [Value.int .i64 0, Value.slice none 0 0] 55 :: ((Uy.map (It.row .u8 5)) ++ tl))) 55 ⟨blk4, 0, none⟩ (Value.agg #[Value.int .i64 a, Value.slice UA (List.length U) Uc]))) (by kernel_rfl) (ld_boxN (i := 2) (k := 2) rfl rfl rfl (by kernel_rfl)) hS15 ?_
    refine l_op rfl rfl (fun K hK => op_store (d := none) rfl rfl (i := 3) (b := blk2) (off := 0) (cs := [Value.int .i64 0, Value.slice none 0 0]) (bt := 55) (by kernel_rfl) (by kernel_rfl) [Value.int .i64 a, Value.slice UA (List.length U) Uc] (by kernel_rfl) (by kernel_rfl) (Nat.le_of_ble_eq_true (by kernel_rfl)) (by kernel_rfl) (Res.row (Value.slice UA (List.length U) Uc) 37 2 (List.length U) (flat true Uy) :: Res.box b [Value.slice A n c, Value.int .i64 ic, Value.int .i64 hc] 110 :: Res.box blk4 [Value.int .i64 a, Value.slice UA (List.length U) Uc] 55 :: Res.box blk2 [Value.int .i64 a, Value.slice UA (List.length U) Uc] 55 :: ((Uy.map (It.row .u8 5)) ++ tl)) (by kernel_rfl) hS15 (fun w75 hS75 => hK _ _ ?_))
    clear hK K
    refine l_nil rfl ?_
    refine then_n ?_
    refine wp_ret ?_
    have hS75s4 : St w0 w75 (Res.row (Value.slice UA (List.length U) Uc) 37 2 (List.length U) (flat true Uy) :: Res.box b [Value.slice A n c, Value.int .i64 ic, Value.int .i64 hc] 110 :: ((Uy.map (It.row .u8 5)) ++ tl)) := (hS75.sub (List.Sublist.cons_cons _ (List.Sublist.cons_cons _ (List.Sublist.cons _ (List.Sublist.cons _ (List.Sublist.append (List.Sublist.refl _) (List.Sublist.refl _)))))))
    have hSo := St.inB [Res.row (Value.slice UA (List.length U) Uc) 37 2 (List.length U) (flat true Uy), Res.box b [Value.slice A n c, Value.int .i64 ic, Value.int .i64 hc] 110] [] [(Uy.map (It.row .u8 5))] tl hS75s4
    exact c_end (S := (fun x_ => St w0 x_ (Res.row (Value.slice UA (List.length U) Uc) 37 2 (List.length U) (flat true Uy) :: Res.box b [Value.slice A n c, Value.int .i64 ic, Value.int .i64 hc] 110 :: Res.box blk4 [Value.int .i64 a, Value.slice UA (List.length U) Uc] 55 :: Res.box blk2 [Value.int .i64 a, Value.slice UA (List.length U) Uc] 55 :: ((Uy.map (It.row .u8 5)) ++ tl)))) (rs := [.cell 2 55]) rfl [Value.agg #[Value.int .i64 a, Value.slice UA (List.length U) Uc]] (v := Value.agg #[Value.int .i64 a, Value.slice UA (List.length U) Uc]) (C := ((LoadsAt Try.prog (fun x_ => St w0 x_ (Res.row (Value.slice UA (List.length U) Uc) 37 2 (List.length U) (flat true Uy) :: Res.box b [Value.slice A n c, Value.int .i64 ic, Value.int .i64 hc] 110 :: Res.box blk4 [Value.int .i64 a, Value.slice UA (List.length U) Uc] 55 :: Res.box blk2 [Value.int .i64 a, Value.slice UA (List.length U) Uc] 55 :: ((Uy.map (It.row .u8 5)) ++ tl))) 55 ⟨blk2, 0, none⟩ (Value.agg #[Value.int .i64 a, Value.slice UA (List.length U) Uc])))) (by kernel_rfl) (ld_boxN (i := 3) (k := 2) rfl rfl rfl (by kernel_rfl)) hS75 (⟨_, _, rfl, hSo, ic, hc, a, U, UA, Uc, Uy, rfl, rfl, hCl, hUq, hUo, (by omega), (by omega), (by omega)⟩)
theorem l24AnySender_s_c (b : Nat) (A : Option Addr) (n c : Nat) (i h : Int)  (tl : List Res) (w0 w : World) (hS : St w0 w (Res.box b [Value.slice A n c, Value.int .i64 i, Value.int .i64 h] 110 :: tl)) (hC : CurI w0 A n i)  : Calls Try.prog 84 #[.pointer (some ⟨b, 0, none⟩)] w (fun e w' => ∃ v own', e = .returned v ∧ St w0 w' own' ∧ (∃ (i' h' : Int) (a_ : Int) (U_ : List (Int × List Int)) (U_A : Option Addr) (U_c : Nat) (U_y : List It), v = Value.agg #[Value.int .i64 a_, Value.slice U_A (List.length U_) U_c] ∧ own' = (Res.row (Value.slice U_A (List.length U_) U_c) 37 2 (List.length U_) (flat true U_y) :: Res.box b [Value.slice A n c, Value.int .i64 i', Value.int .i64 h'] 110 :: (((U_y.map (It.row .u8 5)) ++ tl))) ∧ CurI w0 A n i' ∧ (U_y.map (con true) = U_) ∧ (okL .u8 U_) ∧ (0 ≤ a_) ∧ (a_ ≤ 100001) ∧ (wt U_ ≤ 40))) := by
  obtain ⟨hClo, hChi, hCn, _⟩ := id hC
  refine calls_FA Try.func84 rfl (n := 28) rfl (l := [(0, Value.pointer (some ⟨b, 0, none⟩))]) rfl (by simp) (fun g => ?_)
  refine wp_seq ?_
  refine c_reg ?_
  refine l_op rfl rfl (fun K hK => op_alloc (d := some 2) rfl rfl [Value.int .i64 0, Value.slice none 0 0] (by kernel_rfl) hS (fun blk2 w1 hS1 => hK _ _ ?_))
  clear hK K
  refine l_nil rfl ?_
  refine then_n ?_
  refine wp_seq ?_
  refine c_reg ?_
  refine q_seg (S := (fun x_ => St w0 x_ (Res.box blk2 [Value.int .i64 0, Value.slice none 0 0] 55 :: Res.box b [Value.slice A n c, Value.int .i64 i, Value.int .i64 h] 110 :: tl))) [(4, Value.pointer (some ⟨b, 0, none⟩))] [.no] True (by kernel_rfl) trivial hS1 ?_
  refine l_op rfl rfl (fun K hK => op_callm (d := some 5) rfl rfl ⟨_, Try.func103, by kernel_rfl, by kernel_rfl⟩ (vs := [Value.pointer (some ⟨b, 0, none⟩)]) (by kernel_rfl) (l24DrawSender_s_c b A n c i h  _ w0 w1 (hS1.front 1 rfl) hC ) (fun v4 new5 w3 Rw3 hS3 => ?_))
  obtain ⟨ix8, hx9, ad6, ld7, ld7A, ld7c, ld7y, rfl, rfl, hC10, ld7q, ld7o, hf11, hf12, hf13⟩ := Rw3
  have hS3r : St w0 w3 (Res.row (Value.slice ld7A (List.length ld7) ld7c) 37 2 (List.length ld7) (flat true ld7y) :: Res.box b [Value.slice A n c, Value.int .i64 ix8, Value.int .i64 hx9] 110 :: Res.box blk2 [Value.int .i64 0, Value.slice none 0 0] 55 :: ((ld7y.map (It.row .u8 5)) ++ tl)) := St.outB [Res.row (Value.slice ld7A (List.length ld7) ld7c) 37 2 (List.length ld7) (flat true ld7y), Res.box b [Value.slice A n c, Value.int .i64 ix8, Value.int .i64 hx9] 110] [Res.box blk2 [Value.int .i64 0, Value.slice none 0 0] 55] [(ld7y.map (It.row .u8 5))] tl hS3
  have ld7w := wt_len ld7
  refine hK _ _ ?_
  clear hK K
  refine l_op rfl rfl (fun K hK => op_alloc (d := some 3) rfl rfl [Value.int .i64 0, Value.slice none 0 0] (by kernel_rfl) hS3r (fun blk15 w14 hS14 => hK _ _ ?_))
  clear hK K
  refine l_op rfl rfl (fun K hK => op_store (d := none) rfl rfl (i := 0) (b := blk15) (off := 0) (cs := [Value.int .i64 0, Value.slice none 0 0]) (bt := 55) (by kernel_rfl) (by kernel_rfl) [Value.int .i64 ad6, Value.slice ld7A (List.length ld7) ld7c] (by kernel_rfl) (by kernel_rfl) (Nat.le_of_ble_eq_true (by kernel_rfl)) (by kernel_rfl) (Res.box blk15 [Value.int .i64 ad6, Value.slice ld7A (List.length ld7) ld7c] 55 :: Res.row (Value.slice ld7A (List.length ld7) ld7c) 37 2 (List.length ld7) (flat true ld7y) :: Res.box b [Value.slice A n c, Value.int .i64 ix8, Value.int .i64 hx9] 110 :: Res.box blk2 [Value.int .i64 0, Value.slice none 0 0] 55 :: ((ld7y.map (It.row .u8 5)) ++ tl)) (by kernel_rfl) hS14 (fun w16 hS16 => hK _ _ ?_))
  clear hK K
  refine l_nil rfl ?_
  refine then_n ?_
  refine wp_seq ?_
  refine wp_seq ?_
  refine c_reg ?_
  refine q_seg (S := (fun x_ => St w0 x_ (Res.box blk15 [Value.int .i64 ad6, Value.slice ld7A (List.length ld7) ld7c] 55 :: Res.row (Value.slice ld7A (List.length ld7) ld7c) 37 2 (List.length ld7) (flat true ld7y) :: Res.box b [Value.slice A n c, Value.int .i64 ix8, Value.int .i64 hx9] 110 :: Res.box blk2 [Value.int .i64 0, Value.slice none 0 0] 55 :: ((ld7y.map (It.row .u8 5)) ++ tl)))) [(6, Value.pointer (some ⟨b, 0, none⟩))] [.no] True (by kernel_rfl) trivial hS16 ?_
  refine l_op rfl rfl (fun K hK => op_callm (d := some 7) rfl rfl ⟨_, Try.func92, by kernel_rfl, by kernel_rfl⟩ (vs := [Value.pointer (some ⟨b, 0, none⟩), Value.int .i64 8]) (by kernel_rfl) (l1Below_s_c b A n c ix8 hx9 (8 : Int) _ w0 w16 (hS16.front 2 rfl) hC10 (by omega)) (fun v18 new19 w17 Rw17 hS17 => ?_))
  obtain ⟨ix21, hx22, xd20, rfl, rfl, hC23, hf24, hf25⟩ := Rw17
  refine hK _ _ ?_
  clear hK K
  refine l_nil rfl ?_
  refine then_n ?_
  refine wp_block ?_
  refine wp_seq ?_
  refine c_reg ?_
  refine q_seg (S := (fun x_ => St w0 x_ (Res.box b [Value.slice A n c, Value.int .i64 ix21, Value.int .i64 hx22] 110 :: Res.box blk15 [Value.int .i64 ad6, Value.slice ld7A (List.length ld7) ld7c] 55 :: Res.row (Value.slice ld7A (List.length ld7) ld7c) 37 2 (List.length ld7) (flat true ld7y) :: Res.box blk2 [Value.int .i64 0, Value.slice none 0 0] 55 :: ((ld7y.map (It.row .u8 5)) ++ tl)))) [(8, Value.bool (decide (xd20 = (0 : Int)))), (9, Value.bool (decide (xd20 = (0 : Int))))] [.no, .no] True (by kernel_rfl) trivial hS17 ?_
  refine l_nil rfl ?_
  refine then_n ?_
  rcases Bool.eq_false_or_eq_true (decide (xd20 = (0 : Int))) with hb26 | hb26
  · skip
    have hb26p := of_decide_eq_true hb26
    refine c_true (b := (decide (xd20 = (0 : Int)))) (by kernel_rfl) hb26 ?_
    refine c_reg ?_
    refine q_seg (S := (fun x_ => St w0 x_ (Res.box b [Value.slice A n c, Value.int .i64 ix21, Value.int .i64 hx22] 110 :: Res.box blk15 [Value.int .i64 ad6, Value.slice ld7A (List.length ld7) ld7c] 55 :: Res.row (Value.slice ld7A (List.length ld7) ld7c) 37 2 (List.length ld7) (flat true ld7y) :: Res.box blk2 [Value.int .i64 0, Value.slice none 0 0] 55 :: ((ld7y.map (It.row .u8 5)) ++ tl)))) [(13, Value.int .i64 (ad6 + (1 : Int))), (12, Value.int .i64 ad6), (11, Value.pointer (some ⟨blk15, 0 + 0, none⟩)), (10, Value.pointer (some ⟨b, 0, none⟩))] [.no, .no, .v (Value.int .i64 ad6), .no] ((LoadsAt Try.prog (fun x_ => St w0 x_ (Res.box b [Value.slice A n c, Value.int .i64 ix21, Value.int .i64 hx22] 110 :: Res.box blk15 [Value.int .i64 ad6, Value.slice ld7A (List.length ld7) ld7c] 55 :: Res.row (Value.slice ld7A (List.length ld7) ld7c) 37 2 (List.length ld7) (flat true ld7y) :: Res.box blk2 [Value.int .i64 0, Value.slice none 0 0] 55 :: ((ld7y.map (It.row .u8 5)) ++ tl))) 3 ⟨blk15, 0 + 0, none⟩ (Value.int .i64 ad6)) ∧ (InK .i64 (ad6 + (1 : Int)))) (by kernel_rfl) ⟨(ld_box (i := 1) rfl rfl (by kernel_rfl)), (in64 (by omega) (by omega))⟩ hS17 ?_
    refine l_op rfl rfl (fun K hK => op_buildSlice (d := some 14) rfl rfl (e := 3) (by kernel_rfl) 1 (by kernel_rfl) (by decide) (by decide) [Value.int .i64 0, Value.int .i64 100000, Value.int .i64 100001, Value.int .i64 (ad6 + (1 : Int))] (by kernel_rfl) rfl hS17 (fun blk28 w27 hS27 => hK _ _ ?_))
    clear hK K
    refine l_op rfl rfl (fun K hK => op_callm (d := some 15) rfl rfl ⟨_, Try.func86, by kernel_rfl, by kernel_rfl⟩ (vs := [Value.pointer (some ⟨b, 0, none⟩), Value.slice (some ⟨blk28, 0, none⟩) 4 4]) (by kernel_rfl) (l1Int_s_c b A n c ix21 hx22 (some ⟨blk28, 0, none⟩) 4 ([0, 100000, 100001, (ad6 + (1 : Int))]) _ w0 w27 (hS27.front 1 rfl) hC23 (by first | omega | decide | simp)) (fun v30 new31 w29 Rw29 hS29 => ?_))
    obtain ⟨ix33, hx34, xd32, rfl, rfl, hC35, hf36⟩ := Rw29
    simp only [List.mem_cons, List.mem_nil_iff, or_false, List.not_mem_nil] at hf36
    refine hK _ _ ?_
    clear hK K
    refine q_seg (S := (fun x_ => St w0 x_ (Res.box b [Value.slice A n c, Value.int .i64 ix33, Value.int .i64 hx34] 110 :: Res.row (Value.slice (some ⟨blk28, 0, none⟩) 4 4) 3 1 4 ([Value.int .i64 0, Value.int .i64 100000, Value.int .i64 100001, Value.int .i64 (ad6 + (1 : Int))]) :: Res.box blk15 [Value.int .i64 ad6, Value.slice ld7A (List.length ld7) ld7c] 55 :: Res.row (Value.slice ld7A (List.length ld7) ld7c) 37 2 (List.length ld7) (flat true ld7y) :: Res.box blk2 [Value.int .i64 0, Value.slice none 0 0] 55 :: ((ld7y.map (It.row .u8 5)) ++ tl)))) [(16, Value.pointer (some ⟨blk15, 0 + 0, none⟩))] [.no] True (by kernel_rfl) trivial hS29 ?_
    refine l_op rfl rfl (fun K hK => op_store (d := none) rfl rfl (i := 2) (b := blk15) (off := 0 + 0) (cs := [Value.int .i64 ad6, Value.slice ld7A (List.length ld7) ld7c]) (bt := 55) (by kernel_rfl) (by kernel_rfl) [Value.int .i64 xd32] (by kernel_rfl) (by kernel_rfl) (Nat.le_of_ble_eq_true (by kernel_rfl)) (by kernel_rfl) (Res.box b [Value.slice A n c, Value.int .i64 ix33, Value.int .i64 hx34] 110 :: Res.row (Value.slice (some ⟨blk28, 0, none⟩) 4 4) 3 1 4 ([Value.int .i64 0, Value.int .i64 100000, Value.int .i64 100001, Value.int .i64 (ad6 + (1 : Int))]) :: Res.box blk15 [Value.int .i64 xd32, Value.slice ld7A (List.length ld7) ld7c] 55 :: Res.row (Value.slice ld7A (List.length ld7) ld7c) 37 2 (List.length ld7) (flat true ld7y) :: Res.box blk2 [Value.int .i64 0, Value.slice none 0 0] 55 :: ((ld7y.map (It.row .u8 5)) ++ tl)) (by kernel_rfl) hS29 (fun w37 hS37 => hK _ _ ?_))
    clear hK K
    refine l_nil rfl ?_
    refine blk_n ?_
    refine then_n ?_
    refine wp_seq ?_
    refine c_reg ?_
    refine q_seg (S := (fun x_ => St w0 x_ (Res.box b [Value.slice A n c, Value.int .i64 ix33, Value.int .i64 hx34] 110 :: Res.row (Value.slice (some ⟨blk28, 0, none⟩) 4 4) 3 1 4 ([Value.int .i64 0, Value.int .i64 100000, Value.int .i64 100001, Value.int .i64 (ad6 + (1 : Int))]) :: Res.box blk15 [Value.int .i64 xd32, Value.slice ld7A (List.length ld7) ld7c] 55 :: Res.row (Value.slice ld7A (List.length ld7) ld7c) 37 2 (List.length ld7) (flat true ld7y) :: Res.box blk2 [Value.int .i64 0, Value.slice none 0 0] 55 :: ((ld7y.map (It.row .u8 5)) ++ tl)))) [(27, Value.agg #[Value.int .i64 xd32, Value.slice ld7A (List.length ld7) ld7c])] [.v (Value.agg #[Value.int .i64 xd32, Value.slice ld7A (List.length ld7) ld7c])] ((LoadsAt Try.prog (fun x_ => St w0 x_ (Res.box b [Value.slice A n c, Value.int .i64 ix33, Value.int .i64 hx34] 110 :: Res.row (Value.slice (some ⟨blk28, 0, none⟩) 4 4) 3 1 4 ([Value.int .i64 0, Value.int .i64 100000, Value.int .i64 100001, Value.int .i64 (ad6 + (1 : Int))]) :: Res.box blk15 [Value.int .i64 xd32, Value.slice ld7A (List.length ld7) ld7c] 55 :: Res.row (Value.slice ld7A (List.length ld7) ld7c) 37 2 (List.length ld7) (flat true ld7y) :: Res.box blk2 [Value.int .i64 0, Value.slice none 0 0] 55 :: ((ld7y.map (It.row .u8 5)) ++ tl))) 55 ⟨blk15, 0, none⟩ (Value.agg #[Value.int .i64 xd32, Value.slice ld7A (List.length ld7) ld7c]))) (by kernel_rfl) (ld_boxN (i := 2) (k := 2) rfl rfl rfl (by kernel_rfl)) hS37 ?_
    refine l_op rfl rfl (fun K hK => op_store (d := none) rfl rfl (i := 4) (b := blk2) (off := 0) (cs := [Value.int .i64 0, Value.slice none 0 0]) (bt := 55) (by kernel_rfl) (by kernel_rfl) [Value.int .i64 xd32, Value.slice ld7A (List.length ld7) ld7c] (by kernel_rfl) (by kernel_rfl) (Nat.le_of_ble_eq_true (by kernel_rfl)) (by kernel_rfl) (Res.box b [Value.slice A n c, Value.int .i64 ix33, Value.int .i64 hx34] 110 :: Res.row (Value.slice (some ⟨blk28, 0, none⟩) 4 4) 3 1 4 ([Value.int .i64 0, Value.int .i64 100000, Value.int .i64 100001, Value.int .i64 (ad6 + (1 : Int))]) :: Res.box blk15 [Value.int .i64 xd32, Value.slice ld7A (List.length ld7) ld7c] 55 :: Res.row (Value.slice ld7A (List.length ld7) ld7c) 37 2 (List.length ld7) (flat true ld7y) :: Res.box blk2 [Value.int .i64 xd32, Value.slice ld7A (List.length ld7) ld7c] 55 :: ((ld7y.map (It.row .u8 5)) ++ tl)) (by kernel_rfl) hS37 (fun w38 hS38 => hK _ _ ?_))
    clear hK K
    refine l_nil rfl ?_
    refine then_n ?_
    refine wp_ret ?_
    have hS38s1 : St w0 w38 (Res.box b [Value.slice A n c, Value.int .i64 ix33, Value.int .i64 hx34] 110 :: Res.row (Value.slice ld7A (List.length ld7) ld7c) 37 2 (List.length ld7) (flat true ld7y) :: ((ld7y.map (It.row .u8 5)) ++ tl)) := (hS38.sub (List.Sublist.cons_cons _ (List.Sublist.cons _ (List.Sublist.cons _ (List.Sublist.cons_cons _ (List.Sublist.cons _ (List.Sublist.append (List.Sublist.refl _) (List.Sublist.refl _))))))))
    have hS38s1s2 : St w0 w38 (Res.box b [Value.slice A n c, Value.int .i64 ix33, Value.int .i64 hx34] 110 :: Res.row (Value.slice ld7A (List.length ld7) ld7c) 37 2 (List.length ld7) (flat true ld7y) :: ((ld7y.map (It.row .u8 5)) ++ tl)) := hS38s1.front 0 rfl
    have hS38s1s2s3 : St w0 w38 (Res.row (Value.slice ld7A (List.length ld7) ld7c) 37 2 (List.length ld7) (flat true ld7y) :: Res.box b [Value.slice A n c, Value.int .i64 ix33, Value.int .i64 hx34] 110 :: ((ld7y.map (It.row .u8 5)) ++ tl)) := hS38s1s2.front 1 rfl
    have hSo := St.inB [Res.row (Value.slice ld7A (List.length ld7) ld7c) 37 2 (List.length ld7) (flat true ld7y), Res.box b [Value.slice A n c, Value.int .i64 ix33, Value.int .i64 hx34] 110] [] [(ld7y.map (It.row .u8 5))] tl hS38s1s2s3
    exact c_end (S := (fun x_ => St w0 x_ (Res.box b [Value.slice A n c, Value.int .i64 ix33, Value.int .i64 hx34] 110 :: Res.row (Value.slice (some ⟨blk28, 0, none⟩) 4 4) 3 1 4 ([Value.int .i64 0, Value.int .i64 100000, Value.int .i64 100001, Value.int .i64 (ad6 + (1 : Int))]) :: Res.box blk15 [Value.int .i64 xd32, Value.slice ld7A (List.length ld7) ld7c] 55 :: Res.row (Value.slice ld7A (List.length ld7) ld7c) 37 2 (List.length ld7) (flat true ld7y) :: Res.box blk2 [Value.int .i64 xd32, Value.slice ld7A (List.length ld7) ld7c] 55 :: ((ld7y.map (It.row .u8 5)) ++ tl)))) (rs := [.cell 2 55]) rfl [Value.agg #[Value.int .i64 xd32, Value.slice ld7A (List.length ld7) ld7c]] (v := Value.agg #[Value.int .i64 xd32, Value.slice ld7A (List.length ld7) ld7c]) (C := ((LoadsAt Try.prog (fun x_ => St w0 x_ (Res.box b [Value.slice A n c, Value.int .i64 ix33, Value.int .i64 hx34] 110 :: Res.row (Value.slice (some ⟨blk28, 0, none⟩) 4 4) 3 1 4 ([Value.int .i64 0, Value.int .i64 100000, Value.int .i64 100001, Value.int .i64 (ad6 + (1 : Int))]) :: Res.box blk15 [Value.int .i64 xd32, Value.slice ld7A (List.length ld7) ld7c] 55 :: Res.row (Value.slice ld7A (List.length ld7) ld7c) 37 2 (List.length ld7) (flat true ld7y) :: Res.box blk2 [Value.int .i64 xd32, Value.slice ld7A (List.length ld7) ld7c] 55 :: ((ld7y.map (It.row .u8 5)) ++ tl))) 55 ⟨blk2, 0, none⟩ (Value.agg #[Value.int .i64 xd32, Value.slice ld7A (List.length ld7) ld7c])))) (by kernel_rfl) (ld_boxN (i := 4) (k := 2) rfl rfl rfl (by kernel_rfl)) hS38 (⟨_, _, rfl, hSo, ix33, hx34, xd32, ld7, ld7A, ld7c, ld7y, rfl, rfl, hC35, ld7q, ld7o, (by omega), (by omega), (by first | omega | (simp only [wt_append, wt_one, List.length_nil]; omega))⟩)
  · skip
    have hb26p := of_decide_eq_false hb26
    refine c_false (b := (decide (xd20 = (0 : Int)))) (by kernel_rfl) hb26 ?_
    refine wp_seq ?_
    refine c_reg ?_
    refine q_seg (S := (fun x_ => St w0 x_ (Res.box b [Value.slice A n c, Value.int .i64 ix21, Value.int .i64 hx22] 110 :: Res.box blk15 [Value.int .i64 ad6, Value.slice ld7A (List.length ld7) ld7c] 55 :: Res.row (Value.slice ld7A (List.length ld7) ld7c) 37 2 (List.length ld7) (flat true ld7y) :: Res.box blk2 [Value.int .i64 0, Value.slice none 0 0] 55 :: ((ld7y.map (It.row .u8 5)) ++ tl)))) [(17, Value.bool (decide (xd20 = (1 : Int)))), (18, Value.bool (decide (xd20 = (1 : Int))))] [.no, .no] True (by kernel_rfl) trivial hS17 ?_
    refine l_nil rfl ?_
    refine then_n ?_
    rcases Bool.eq_false_or_eq_true (decide (xd20 = (1 : Int))) with hb39 | hb39
    · skip
      have hb39p := of_decide_eq_true hb39
      refine c_true (b := (decide (xd20 = (1 : Int)))) (by kernel_rfl) hb39 ?_
      refine c_drawnS (S := (fun x_ => St w0 x_ (Res.box blk15 [Value.int .i64 ad6, Value.slice ld7A (List.length ld7) ld7c] 55 :: Res.box blk2 [Value.int .i64 0, Value.slice none 0 0] 55 :: tl))) [8] (by kernel_rfl) hS17 (fun w40 hS40 => ?_)
      refine t_seg (S := (fun x_ => St w0 x_ (Res.box blk15 [Value.int .i64 ad6, Value.slice ld7A (List.length ld7) ld7c] 55 :: Res.box blk2 [Value.int .i64 0, Value.slice none 0 0] 55 :: tl))) [(0, .no), (2, .no), (1, .v (Value.slice ld7A (List.length ld7) ld7c))] 6 #[true, true, true, false, false, false, false, false, false] [(20, Value.slice ld7A (List.length ld7) ld7c), (21, Value.pointer (some ⟨b, 0, none⟩)), (19, Value.pointer (some ⟨blk15, 0 + 1, none⟩))] ((LoadsAt Try.prog (fun x_ => St w0 x_ (Res.box blk15 [Value.int .i64 ad6, Value.slice ld7A (List.length ld7) ld7c] 55 :: Res.box blk2 [Value.int .i64 0, Value.slice none 0 0] 55 :: tl)) 31 ⟨blk15, 0 + 1, none⟩ (Value.slice ld7A (List.length ld7) ld7c))) (by kernel_rfl) (Qpanic.block (Qpanic.then Qpanic.bp)) rfl (by kernel_rfl) (ld_box (i := 0) rfl rfl (by kernel_rfl)) (hS40.sub (List.Sublist.cons _ (List.Sublist.cons_cons _ (List.Sublist.cons _ (List.Sublist.cons_cons _ (List.Sublist.trans (List.Sublist.refl _) (List.sublist_append_right _ _))))))) ?_
      refine a_op (i := 3) (fuel := 5) (listed' := #[true, true, true, true, false, false, false, false, false]) rfl rfl (by kernel_rfl) (by kernel_rfl) rfl (fun K hK => op_callm (d := some 22) rfl rfl ⟨_, Try.func92, by kernel_rfl, by kernel_rfl⟩ (vs := [Value.pointer (some ⟨b, 0, none⟩), Value.int .i64 9]) (by kernel_rfl) (l1Below_s_c b A n c ix21 hx22 (9 : Int) _ w0 w40 hS40 hC23 (by omega)) (fun v42 new43 w41 Rw41 hS41 => ?_))
      obtain ⟨ix45, hx46, xd44, rfl, rfl, hC47, hf48, hf49⟩ := Rw41
      refine hK _ _ (fun _ => (hS41.sub (List.Sublist.cons _ (List.Sublist.cons_cons _ (List.Sublist.cons _ (List.Sublist.cons_cons _ (List.Sublist.trans (List.Sublist.refl _) (List.sublist_append_right _ _)))))))) ?_
      clear hK K
      refine t_seg (S := (fun x_ => St w0 x_ (Res.box blk15 [Value.int .i64 ad6, Value.slice ld7A (List.length ld7) ld7c] 55 :: Res.box blk2 [Value.int .i64 0, Value.slice none 0 0] 55 :: tl))) [(4, .no)] 4 #[true, true, true, true, true, false, false, false, false] [(23, Value.agg #[Value.int .i64 xd44, Value.slice none 0 0])] True (by kernel_rfl) (Qpanic.block (Qpanic.then Qpanic.bp)) rfl (by kernel_rfl) trivial (hS41.sub (List.Sublist.cons _ (List.Sublist.cons_cons _ (List.Sublist.cons _ (List.Sublist.cons_cons _ (List.Sublist.trans (List.Sublist.refl _) (List.sublist_append_right _ _))))))) ?_
      refine a_op (i := 5) (fuel := 3) (listed' := #[true, true, true, true, true, true, false, false, false]) rfl rfl (by kernel_rfl) (by kernel_rfl) rfl (fun K hK => op_buildSlice (d := some 24) rfl rfl (e := 37) (by kernel_rfl) 2 (by kernel_rfl) (by decide) (by decide) [Value.int .i64 xd44, Value.slice none 0 0] (by kernel_rfl) rfl hS41 (fun blk51 w50 hS50 => hK _ _ (fun _ => (hS50.sub (List.Sublist.cons _ (List.Sublist.cons _ (List.Sublist.cons_cons _ (List.Sublist.cons _ (List.Sublist.cons_cons _ (List.Sublist.trans (List.Sublist.refl _) (List.sublist_append_right _ _))))))))) ?_))
      clear hK K
      refine a_op (i := 6) (fuel := 2) (listed' := #[true, true, true, true, true, true, true, false, false]) rfl rfl (by kernel_rfl) (by kernel_rfl) rfl (fun K hK => op_append (d := some 25) rfl rfl el_37 hS50 (i := 3) rfl rfl rfl (news := [Value.int .i64 xd44, Value.slice none 0 0]) (hS50.rd (List.mem_of_getElem? (i := 0) rfl)) (all_one (by rfl)) (by omega) (by omega) (fun v53 w52 hS52 => hK _ _ (fun _ => (hS52.sub (List.Sublist.cons _ (List.Sublist.cons _ (List.Sublist.cons_cons _ (List.Sublist.cons _ (List.Sublist.cons_cons _ (List.Sublist.trans (List.Sublist.refl _) (List.sublist_append_right _ _))))))))) ?_))
      clear hK K
      obtain ⟨hlv53, Av53, cv53, hvv53, hnv53, hmv53⟩ := hS52.row_slice (List.mem_of_getElem? (i := 3) rfl)
      subst hvv53
      have hS52s4 : St w0 w52 (Res.row (Value.slice none 0 0) 5 1 0 (([] : List Int).map (Value.int .u8)) :: Res.row (Value.slice (some ⟨blk51, 0, none⟩) 1 1) 37 2 1 ([Value.int .i64 xd44, Value.slice none 0 0]) :: Res.box b [Value.slice A n c, Value.int .i64 ix45, Value.int .i64 hx46] 110 :: Res.box blk15 [Value.int .i64 ad6, Value.slice ld7A (List.length ld7) ld7c] 55 :: Res.row (Value.slice Av53 ((List.length ld7) + 1) cv53) 37 2 ((List.length ld7) + 1) ((flat true ld7y) ++ [Value.int .i64 xd44, Value.slice none 0 0]) :: Res.box blk2 [Value.int .i64 0, Value.slice none 0 0] 55 :: ((ld7y.map (It.row .u8 5)) ++ tl)) := hS52.nilrow 5 1
      have hS52s4s5 : St w0 w52 (Res.row (Value.slice none 0 0) 5 1 0 (([] : List Int).map (Value.int .u8)) :: Res.row (Value.slice (some ⟨blk51, 0, none⟩) 1 1) 37 2 1 ([Value.int .i64 xd44, Value.slice none 0 0]) :: Res.box b [Value.slice A n c, Value.int .i64 ix45, Value.int .i64 hx46] 110 :: Res.box blk15 [Value.int .i64 ad6, Value.slice ld7A (List.length ld7) ld7c] 55 :: Res.row (Value.slice Av53 ((List.length ld7) + 1) cv53) 37 2 ((List.length ld7) + 1) (flat true (ld7y ++ [(It.mk xd44 none 0 ([] : List Int))])) :: Res.box blk2 [Value.int .i64 0, Value.slice none 0 0] 55 :: ((ld7y.map (It.row .u8 5)) ++ tl)) := hS52s4.eqv (by rw [flat_snoc]; rfl)
      have hS52s4s5s6 : St w0 w52 (Res.row (Value.slice none 0 0) 5 1 0 (([] : List Int).map (Value.int .u8)) :: Res.box b [Value.slice A n c, Value.int .i64 ix45, Value.int .i64 hx46] 110 :: Res.box blk15 [Value.int .i64 ad6, Value.slice ld7A (List.length ld7) ld7c] 55 :: Res.row (Value.slice Av53 ((List.length ld7) + 1) cv53) 37 2 ((List.length ld7) + 1) (flat true (ld7y ++ [(It.mk xd44 none 0 ([] : List Int))])) :: Res.box blk2 [Value.int .i64 0, Value.slice none 0 0] 55 :: ((ld7y.map (It.row .u8 5)) ++ tl)) := (hS52s4s5.sub (List.Sublist.cons_cons _ (List.Sublist.cons _ (List.Sublist.cons_cons _ (List.Sublist.cons_cons _ (List.Sublist.cons_cons _ (List.Sublist.cons_cons _ (List.Sublist.append (List.Sublist.refl _) (List.Sublist.refl _)))))))))
      have hS52s4s5s6s7 : St w0 w52 (Res.box b [Value.slice A n c, Value.int .i64 ix45, Value.int .i64 hx46] 110 :: Res.box blk15 [Value.int .i64 ad6, Value.slice ld7A (List.length ld7) ld7c] 55 :: Res.row (Value.slice Av53 ((List.length ld7) + 1) cv53) 37 2 ((List.length ld7) + 1) (flat true (ld7y ++ [(It.mk xd44 none 0 ([] : List Int))])) :: Res.box blk2 [Value.int .i64 0, Value.slice none 0 0] 55 :: (((ld7y ++ [(It.mk xd44 none 0 ([] : List Int))]).map (It.row .u8 5)) ++ tl)) := St.pickB (κ := .u8) (tb := 5) [Res.box b [Value.slice A n c, Value.int .i64 ix45, Value.int .i64 hx46] 110, Res.box blk15 [Value.int .i64 ad6, Value.slice ld7A (List.length ld7) ld7c] 55, Res.row (Value.slice Av53 ((List.length ld7) + 1) cv53) 37 2 ((List.length ld7) + 1) (flat true (ld7y ++ [(It.mk xd44 none 0 ([] : List Int))])), Res.box blk2 [Value.int .i64 0, Value.slice none 0 0] 55] [] tl ld7y (It.mk xd44 none 0 ([] : List Int)) hS52s4s5s6
      have hcq54 : (ld7y ++ [(It.mk xd44 none 0 ([] : List Int))]).map (con true) = (ld7 ++ [(xd44, ([] : List Int))]) := by rw [List.map_append, ld7q]; rfl
      have hcq54l : List.length (ld7 ++ [(xd44, ([] : List Int))]) = ((List.length ld7) + 1) := by have h1_ : List.length ld7 = (List.length ld7) := rfl; rw [List.length_append, List.length_singleton] <;> omega
      refine t_seg (S := (fun x_ => St w0 x_ (Res.box blk15 [Value.int .i64 ad6, Value.slice ld7A (List.length ld7) ld7c] 55 :: Res.box blk2 [Value.int .i64 0, Value.slice none 0 0] 55 :: tl))) [(7, .no)] 1 #[true, true, true, true, true, true, true, true, false] [(26, Value.pointer (some ⟨blk15, 0 + 1, none⟩))] True (by kernel_rfl) (Qpanic.block (Qpanic.then Qpanic.bp)) rfl (by kernel_rfl) trivial (hS52s4s5s6s7.sub (List.Sublist.cons _ (List.Sublist.cons_cons _ (List.Sublist.cons _ (List.Sublist.cons_cons _ (List.Sublist.trans (List.Sublist.refl _) (List.sublist_append_right _ _))))))) ?_
      refine a_op (i := 8) (fuel := 0) (listed' := #[true, true, true, true, true, true, true, true, true]) rfl rfl (by kernel_rfl) (by kernel_rfl) rfl (fun K hK => op_store (d := none) rfl rfl (i := 1) (b := blk15) (off := 0 + 1) (cs := [Value.int .i64 ad6, Value.slice ld7A (List.length ld7) ld7c]) (bt := 55) (by kernel_rfl) (by kernel_rfl) [Value.slice Av53 ((List.length ld7) + 1) cv53] (by kernel_rfl) (by kernel_rfl) (Nat.le_of_ble_eq_true (by kernel_rfl)) (by kernel_rfl) (Res.box b [Value.slice A n c, Value.int .i64 ix45, Value.int .i64 hx46] 110 :: Res.box blk15 [Value.int .i64 ad6, Value.slice Av53 ((List.length ld7) + 1) cv53] 55 :: Res.row (Value.slice Av53 ((List.length ld7) + 1) cv53) 37 2 ((List.length ld7) + 1) (flat true (ld7y ++ [(It.mk xd44 none 0 ([] : List Int))])) :: Res.box blk2 [Value.int .i64 0, Value.slice none 0 0] 55 :: (((ld7y ++ [(It.mk xd44 none 0 ([] : List Int))]).map (It.row .u8 5)) ++ tl)) (by kernel_rfl) hS52s4s5s6s7 (fun w55 hS55 => hK _ _ (fun h => absurd h (by decide)) ?_))
      clear hK K
      refine a_done (by kernel_rfl) ?_
      refine blk_n ?_
      refine then_n ?_
      refine wp_seq ?_
      refine c_reg ?_
      refine q_seg (S := (fun x_ => St w0 x_ (Res.box b [Value.slice A n c, Value.int .i64 ix45, Value.int .i64 hx46] 110 :: Res.box blk15 [Value.int .i64 ad6, Value.slice Av53 ((List.length ld7) + 1) cv53] 55 :: Res.row (Value.slice Av53 ((List.length ld7) + 1) cv53) 37 2 ((List.length ld7) + 1) (flat true (ld7y ++ [(It.mk xd44 none 0 ([] : List Int))])) :: Res.box blk2 [Value.int .i64 0, Value.slice none 0 0] 55 :: (((ld7y ++ [(It.mk xd44 none 0 ([] : List Int))]).map (It.row .u8 5)) ++ tl)))) [(27, Value.agg #[Value.int .i64 ad6, Value.slice Av53 ((List.length ld7) + 1) cv53])] [.v (Value.agg #[Value.int .i64 ad6, Value.slice Av53 ((List.length ld7) + 1) cv53])] ((LoadsAt Try.prog (fun x_ => St w0 x_ (Res.box b [Value.slice A n c, Value.int .i64 ix45, Value.int .i64 hx46] 110 :: Res.box blk15 [Value.int .i64 ad6, Value.slice Av53 ((List.length ld7) + 1) cv53] 55 :: Res.row (Value.slice Av53 ((List.length ld7) + 1) cv53) 37 2 ((List.length ld7) + 1) (flat true (ld7y ++ [(It.mk xd44 none 0 ([] : List Int))])) :: Res.box blk2 [Value.int .i64 0, Value.slice none 0 0] 55 :: (((ld7y ++ [(It.mk xd44 none 0 ([] : List Int))]).map (It.row .u8 5)) ++ tl))) 55 ⟨blk15, 0, none⟩ (Value.agg #[Value.int .i64 ad6, Value.slice Av53 ((List.length ld7) + 1) cv53]))) (by kernel_rfl) (ld_boxN (i := 1) (k := 2) rfl rfl rfl (by kernel_rfl)) hS55 ?_
      refine l_op rfl rfl (fun K hK => op_store (d := none) rfl rfl (i := 3) (b := blk2) (off := 0) (cs := [Value.int .i64 0, Value.slice none 0 0]) (bt := 55) (by kernel_rfl) (by kernel_rfl) [Value.int .i64 ad6, Value.slice Av53 ((List.length ld7) + 1) cv53] (by kernel_rfl) (by kernel_rfl) (Nat.le_of_ble_eq_true (by kernel_rfl)) (by kernel_rfl) (Res.box b [Value.slice A n c, Value.int .i64 ix45, Value.int .i64 hx46] 110 :: Res.box blk15 [Value.int .i64 ad6, Value.slice Av53 ((List.length ld7) + 1) cv53] 55 :: Res.row (Value.slice Av53 ((List.length ld7) + 1) cv53) 37 2 ((List.length ld7) + 1) (flat true (ld7y ++ [(It.mk xd44 none 0 ([] : List Int))])) :: Res.box blk2 [Value.int .i64 ad6, Value.slice Av53 ((List.length ld7) + 1) cv53] 55 :: (((ld7y ++ [(It.mk xd44 none 0 ([] : List Int))]).map (It.row .u8 5)) ++ tl)) (by kernel_rfl) hS55 (fun w56 hS56 => hK _ _ ?_))
      clear hK K
      refine l_nil rfl ?_
      refine then_n ?_
      refine wp_ret ?_
      have hS56s8 : St w0 w56 (Res.box b [Value.slice A n c, Value.int .i64 ix45, Value.int .i64 hx46] 110 :: Res.row (Value.slice Av53 ((List.length ld7) + 1) cv53) 37 2 ((List.length ld7) + 1) (flat true (ld7y ++ [(It.mk xd44 none 0 ([] : List Int))])) :: (((ld7y ++ [(It.mk xd44 none 0 ([] : List Int))]).map (It.row .u8 5)) ++ tl)) := (hS56.sub (List.Sublist.cons_cons _ (List.Sublist.cons _ (List.Sublist.cons_cons _ (List.Sublist.cons _ (List.Sublist.append (List.Sublist.refl _) (List.Sublist.refl _)))))))
      have hS56s8s9 : St w0 w56 (Res.box b [Value.slice A n c, Value.int .i64 ix45, Value.int .i64 hx46] 110 :: Res.row (Value.slice Av53 ((List.length ld7) + 1) cv53) 37 2 ((List.length ld7) + 1) (flat true (ld7y ++ [(It.mk xd44 none 0 ([] : List Int))])) :: (((ld7y ++ [(It.mk xd44 none 0 ([] : List Int))]).map (It.row .u8 5)) ++ tl)) := hS56s8.front 0 rfl
      have hS56s8s9s10 : St w0 w56 (Res.row (Value.slice Av53 ((List.length ld7) + 1) cv53) 37 2 ((List.length ld7) + 1) (flat true (ld7y ++ [(It.mk xd44 none 0 ([] : List Int))])) :: Res.box b [Value.slice A n c, Value.int .i64 ix45, Value.int .i64 hx46] 110 :: (((ld7y ++ [(It.mk xd44 none 0 ([] : List Int))]).map (It.row .u8 5)) ++ tl)) := hS56s8s9.front 1 rfl
      have hSo := St.inB [Res.row (Value.slice Av53 ((List.length ld7) + 1) cv53) 37 2 ((List.length ld7) + 1) (flat true (ld7y ++ [(It.mk xd44 none 0 ([] : List Int))])), Res.box b [Value.slice A n c, Value.int .i64 ix45, Value.int .i64 hx46] 110] [] [((ld7y ++ [(It.mk xd44 none 0 ([] : List Int))]).map (It.row .u8 5))] tl hS56s8s9s10
      exact c_end (S := (fun x_ => St w0 x_ (Res.box b [Value.slice A n c, Value.int .i64 ix45, Value.int .i64 hx46] 110 :: Res.box blk15 [Value.int .i64 ad6, Value.slice Av53 ((List.length ld7) + 1) cv53] 55 :: Res.row (Value.slice Av53 ((List.length ld7) + 1) cv53) 37 2 ((List.length ld7) + 1) (flat true (ld7y ++ [(It.mk xd44 none 0 ([] : List Int))])) :: Res.box blk2 [Value.int .i64 ad6, Value.slice Av53 ((List.length ld7) + 1) cv53] 55 :: (((ld7y ++ [(It.mk xd44 none 0 ([] : List Int))]).map (It.row .u8 5)) ++ tl)))) (rs := [.cell 2 55]) rfl [Value.agg #[Value.int .i64 ad6, Value.slice Av53 ((List.length ld7) + 1) cv53]] (v := Value.agg #[Value.int .i64 ad6, Value.slice Av53 ((List.length ld7) + 1) cv53]) (C := ((LoadsAt Try.prog (fun x_ => St w0 x_ (Res.box b [Value.slice A n c, Value.int .i64 ix45, Value.int .i64 hx46] 110 :: Res.box blk15 [Value.int .i64 ad6, Value.slice Av53 ((List.length ld7) + 1) cv53] 55 :: Res.row (Value.slice Av53 ((List.length ld7) + 1) cv53) 37 2 ((List.length ld7) + 1) (flat true (ld7y ++ [(It.mk xd44 none 0 ([] : List Int))])) :: Res.box blk2 [Value.int .i64 ad6, Value.slice Av53 ((List.length ld7) + 1) cv53] 55 :: (((ld7y ++ [(It.mk xd44 none 0 ([] : List Int))]).map (It.row .u8 5)) ++ tl))) 55 ⟨blk2, 0, none⟩ (Value.agg #[Value.int .i64 ad6, Value.slice Av53 ((List.length ld7) + 1) cv53])))) (by kernel_rfl) (ld_boxN (i := 3) (k := 2) rfl rfl rfl (by kernel_rfl)) hS56 (⟨_, _, rfl, hSo, ix45, hx46, ad6, (ld7 ++ [(xd44, ([] : List Int))]), Av53, cv53, (ld7y ++ [(It.mk xd44 none 0 ([] : List Int))]), (by first | (rw [hcq54l]; done) | (rw [hcq54l]; rfl)), (by first | (rw [hcq54l]; done) | (rw [hcq54l]; rfl)), hC47, hcq54, (okL.append ld7o (okL.one (i64 (by omega) (by omega)) (fun z h => by simp at h))), (by omega), (by omega), (by first | omega | (simp only [wt_append, wt_one, List.length_nil]; omega))⟩)
    · skip
      have hb39p := of_decide_eq_false hb39
      refine c_false (b := (decide (xd20 = (1 : Int)))) (by kernel_rfl) hb39 ?_
      refine wp_skip ?_
      refine blk_n ?_
      refine then_n ?_
      refine wp_seq ?_
      refine c_reg ?_
      refine q_seg (S := (fun x_ => St w0 x_ (Res.box b [Value.slice A n c, Value.int .i64 ix21, Value.int .i64 hx22] 110 :: Res.box blk15 [Value.int .i64 ad6, Value.slice ld7A (List.length ld7) ld7c] 55 :: Res.row (Value.slice ld7A (List.length ld7) ld7c) 37 2 (List.length ld7) (flat true ld7y) :: Res.box blk2 [Value.int .i64 0, Value.slice none 0 0] 55 :: ((ld7y.map (It.row .u8 5)) ++ tl)))) [(27, Value.agg #[Value.int .i64 ad6, Value.slice ld7A (List.length ld7) ld7c])] [.v (Value.agg #[Value.int .i64 ad6, Value.slice ld7A (List.length ld7) ld7c])] ((LoadsAt Try.prog (fun x_ => St w0 x_ (Res.box b [Value.slice A n c, Value.int .i64 ix21, Value.int .i64 hx22] 110 :: Res.box blk15 [Value.int .i64 ad6, Value.slice ld7A (List.length ld7) ld7c] 55 :: Res.row (Value.slice ld7A (List.length ld7) ld7c) 37 2 (List.length ld7) (flat true ld7y) :: Res.box blk2 [Value.int .i64 0, Value.slice none 0 0] 55 :: ((ld7y.map (It.row .u8 5)) ++ tl))) 55 ⟨blk15, 0, none⟩ (Value.agg #[Value.int .i64 ad6, Value.slice ld7A (List.length ld7) ld7c]))) (by kernel_rfl) (ld_boxN (i := 1) (k := 2) rfl rfl rfl (by kernel_rfl)) hS17 ?_
      refine l_op rfl rfl (fun K hK => op_store (d := none) rfl rfl (i := 3) (b := blk2) (off := 0) (cs := [Value.int .i64 0, Value.slice none 0 0]) (bt := 55) (by kernel_rfl) (by kernel_rfl) [Value.int .i64 ad6, Value.slice ld7A (List.length ld7) ld7c] (by kernel_rfl) (by kernel_rfl) (Nat.le_of_ble_eq_true (by kernel_rfl)) (by kernel_rfl) (Res.box b [Value.slice A n c, Value.int .i64 ix21, Value.int .i64 hx22] 110 :: Res.box blk15 [Value.int .i64 ad6, Value.slice ld7A (List.length ld7) ld7c] 55 :: Res.row (Value.slice ld7A (List.length ld7) ld7c) 37 2 (List.length ld7) (flat true ld7y) :: Res.box blk2 [Value.int .i64 ad6, Value.slice ld7A (List.length ld7) ld7c] 55 :: ((ld7y.map (It.row .u8 5)) ++ tl)) (by kernel_rfl) hS17 (fun w57 hS57 => hK _ _ ?_))
      clear hK K
      refine l_nil rfl ?_
      refine then_n ?_
      refine wp_ret ?_
      have hS57s11 : St w0 w57 (Res.box b [Value.slice A n c, Value.int .i64 ix21, Value.int .i64 hx22] 110 :: Res.row (Value.slice ld7A (List.length ld7) ld7c) 37 2 (List.length ld7) (flat true ld7y) :: ((ld7y.map (It.row .u8 5)) ++ tl)) := (hS57.sub (List.Sublist.cons_cons _ (List.Sublist.cons _ (List.Sublist.cons_cons _ (List.Sublist.cons _ (List.Sublist.append (List.Sublist.refl _) (List.Sublist.refl _)))))))
      have hS57s11s12 : St w0 w57 (Res.box b [Value.slice A n c, Value.int .i64 ix21, Value.int .i64 hx22] 110 :: Res.row (Value.slice ld7A (List.length ld7) ld7c) 37 2 (List.length ld7) (flat true ld7y) :: ((ld7y.map (It.row .u8 5)) ++ tl)) := hS57s11.front 0 rfl
      have hS57s11s12s13 : St w0 w57 (Res.row (Value.slice ld7A (List.length ld7) ld7c) 37 2 (List.length ld7) (flat true ld7y) :: Res.box b [Value.slice A n c, Value.int .i64 ix21, Value.int .i64 hx22] 110 :: ((ld7y.map (It.row .u8 5)) ++ tl)) := hS57s11s12.front 1 rfl
      have hSo := St.inB [Res.row (Value.slice ld7A (List.length ld7) ld7c) 37 2 (List.length ld7) (flat true ld7y), Res.box b [Value.slice A n c, Value.int .i64 ix21, Value.int .i64 hx22] 110] [] [(ld7y.map (It.row .u8 5))] tl hS57s11s12s13
      exact c_end (S := (fun x_ => St w0 x_ (Res.box b [Value.slice A n c, Value.int .i64 ix21, Value.int .i64 hx22] 110 :: Res.box blk15 [Value.int .i64 ad6, Value.slice ld7A (List.length ld7) ld7c] 55 :: Res.row (Value.slice ld7A (List.length ld7) ld7c) 37 2 (List.length ld7) (flat true ld7y) :: Res.box blk2 [Value.int .i64 ad6, Value.slice ld7A (List.length ld7) ld7c] 55 :: ((ld7y.map (It.row .u8 5)) ++ tl)))) (rs := [.cell 2 55]) rfl [Value.agg #[Value.int .i64 ad6, Value.slice ld7A (List.length ld7) ld7c]] (v := Value.agg #[Value.int .i64 ad6, Value.slice ld7A (List.length ld7) ld7c]) (C := ((LoadsAt Try.prog (fun x_ => St w0 x_ (Res.box b [Value.slice A n c, Value.int .i64 ix21, Value.int .i64 hx22] 110 :: Res.box blk15 [Value.int .i64 ad6, Value.slice ld7A (List.length ld7) ld7c] 55 :: Res.row (Value.slice ld7A (List.length ld7) ld7c) 37 2 (List.length ld7) (flat true ld7y) :: Res.box blk2 [Value.int .i64 ad6, Value.slice ld7A (List.length ld7) ld7c] 55 :: ((ld7y.map (It.row .u8 5)) ++ tl))) 55 ⟨blk2, 0, none⟩ (Value.agg #[Value.int .i64 ad6, Value.slice ld7A (List.length ld7) ld7c])))) (by kernel_rfl) (ld_boxN (i := 3) (k := 2) rfl rfl rfl (by kernel_rfl)) hS57 (⟨_, _, rfl, hSo, ix21, hx22, ad6, ld7, ld7A, ld7c, ld7y, rfl, rfl, hC23, ld7q, ld7o, (by omega), (by omega), (by first | omega | (simp only [wt_append, wt_one, List.length_nil]; omega))⟩)
theorem DrawSendPacket_s_c (A : Option Addr) (n c : Nat) (zs : List Int) (w : World) (hn : n ≤ 1048576) (hz : okz .u8 zs) (hr : Rd w w.heap.size A n (zs.map (Value.int .u8))) : Calls Try.prog 41 #[.slice A n c] w (Ret w (fun v new => ∃ (a_ : Int) (U_ : List (Int × List Int)) (U_A : Option Addr) (U_c : Nat) (U_y : List It) (z_ : List Int) (z_A : Option Addr) (z_c : Nat), v = Value.tuple #[Value.agg #[Value.int .i64 a_, Value.slice U_A (List.length U_) U_c], Value.slice z_A (List.length z_) z_c] ∧ new = (Res.row (Value.slice U_A (List.length U_) U_c) 37 2 (List.length U_) (flat true U_y) :: Res.row (Value.slice z_A (List.length z_) z_c) 5 1 (List.length z_) (z_.map (Value.int .u8)) :: (((U_y.map (It.row .u8 5)) ++ []))) ∧ (U_y.map (con true) = U_) ∧ (okL .u8 U_) ∧ (0 ≤ a_) ∧ (a_ ≤ 100001) ∧ (wt U_ ≤ 40) ∧ (okz .u8 z_) ∧ (List.length z_ ≤ 61))) := by
  have hzl := hr.len
  refine calls_FA Try.func41 rfl (n := 16) rfl (l := [(0, Value.slice A n c)]) rfl (by simp) (fun g => ?_)
  have hS := St.init w
  refine wp_seq ?_
  refine c_reg ?_
  refine l_op rfl rfl (fun K hK => op_alloc (d := some 2) rfl rfl [Value.int .i64 0, Value.slice none 0 0] (by kernel_rfl) hS (fun blk2 w1 hS1 => hK _ _ ?_))
  clear hK K
  refine q_seg (S := (fun x_ => St w x_ [Res.box blk2 [Value.int .i64 0, Value.slice none 0 0] 55])) [(3, Value.slice none 0 0)] [.no] True (by kernel_rfl) trivial hS1 ?_
  refine l_nil rfl ?_
  refine then_n ?_
  refine wp_seq ?_
  refine c_reg ?_
  refine q_seg (S := (fun x_ => St w x_ [Res.box blk2 [Value.int .i64 0, Value.slice none 0 0] 55])) [(6, Value.slice A n c)] [.no] True (by kernel_rfl) trivial hS1 ?_
  refine l_op rfl rfl (fun K hK => op_call (d := some 7) rfl rfl ⟨_, Try.func83, by kernel_rfl, by kernel_rfl⟩ (vs := [Value.slice A n c]) (by kernel_rfl) (l1New_c A n c zs w1 (by omega) hz (hS1.rdlow hr)) hS1 (fun v4 new5 w3 Rw3 hS3 => hK _ _ ?_))
  clear hK K
  obtain ⟨blk6, hx7, rfl, rfl⟩ := Rw3
  have hC8 : CurI w A n 0 := CurI.zero (by omega) hz hr
  refine q_seg (S := (fun x_ => St w x_ [Res.box blk6 [Value.slice A n c, Value.int .i64 0, Value.int .i64 hx7] 110, Res.box blk2 [Value.int .i64 0, Value.slice none 0 0] 55])) [(4, Value.pointer (some ⟨blk6, 0, none⟩))] [.no] True (by kernel_rfl) trivial hS3 ?_
  refine l_nil rfl ?_
  refine then_n ?_
  refine wp_seq ?_
  refine c_reg ?_
  refine q_seg (S := (fun x_ => St w x_ [Res.box blk6 [Value.slice A n c, Value.int .i64 0, Value.int .i64 hx7] 110, Res.box blk2 [Value.int .i64 0, Value.slice none 0 0] 55])) [(8, Value.pointer (some ⟨blk6, 0, none⟩))] [.no] True (by kernel_rfl) trivial hS3 ?_
  refine l_op rfl rfl (fun K hK => op_callm (d := some 9) rfl rfl ⟨_, Try.func84, by kernel_rfl, by kernel_rfl⟩ (vs := [Value.pointer (some ⟨blk6, 0, none⟩)]) (by kernel_rfl) (l24AnySender_s_c blk6 A n c 0 hx7  _ w w3 hS3 hC8 ) (fun v10 new11 w9 Rw9 hS9 => ?_))
  obtain ⟨ix14, hx15, ad12, ld13, ld13A, ld13c, ld13y, rfl, rfl, hC16, ld13q, ld13o, hf17, hf18, hf19⟩ := Rw9
  have hS9r : St w w9 (Res.row (Value.slice ld13A (List.length ld13) ld13c) 37 2 (List.length ld13) (flat true ld13y) :: Res.box blk6 [Value.slice A n c, Value.int .i64 ix14, Value.int .i64 hx15] 110 :: Res.box blk2 [Value.int .i64 0, Value.slice none 0 0] 55 :: ((ld13y.map (It.row .u8 5)) ++ [])) := St.outB [Res.row (Value.slice ld13A (List.length ld13) ld13c) 37 2 (List.length ld13) (flat true ld13y), Res.box blk6 [Value.slice A n c, Value.int .i64 ix14, Value.int .i64 hx15] 110] [Res.box blk2 [Value.int .i64 0, Value.slice none 0 0] 55] [(ld13y.map (It.row .u8 5))] [] hS9
  have ld13w := wt_len ld13
  refine hK _ _ ?_
  clear hK K
  refine l_op rfl rfl (fun K hK => op_alloc (d := some 5) rfl rfl [Value.int .i64 0, Value.slice none 0 0] (by kernel_rfl) hS9r (fun blk21 w20 hS20 => hK _ _ ?_))
  clear hK K
  refine l_op rfl rfl (fun K hK => op_store (d := none) rfl rfl (i := 0) (b := blk21) (off := 0) (cs := [Value.int .i64 0, Value.slice none 0 0]) (bt := 55) (by kernel_rfl) (by kernel_rfl) [Value.int .i64 ad12, Value.slice ld13A (List.length ld13) ld13c] (by kernel_rfl) (by kernel_rfl) (Nat.le_of_ble_eq_true (by kernel_rfl)) (by kernel_rfl) (Res.box blk21 [Value.int .i64 ad12, Value.slice ld13A (List.length ld13) ld13c] 55 :: Res.row (Value.slice ld13A (List.length ld13) ld13c) 37 2 (List.length ld13) (flat true ld13y) :: Res.box blk6 [Value.slice A n c, Value.int .i64 ix14, Value.int .i64 hx15] 110 :: Res.box blk2 [Value.int .i64 0, Value.slice none 0 0] 55 :: ((ld13y.map (It.row .u8 5)) ++ [])) (by kernel_rfl) hS20 (fun w22 hS22 => hK _ _ ?_))
  clear hK K
  refine l_nil rfl ?_
  refine then_n ?_
  refine wp_seq ?_
  refine c_drawnS (S := (fun x_ => St w x_ (Res.box blk21 [Value.int .i64 ad12, Value.slice ld13A (List.length ld13) ld13c] 55 :: Res.row (Value.slice ld13A (List.length ld13) ld13c) 37 2 (List.length ld13) (flat true ld13y) :: ((ld13y.map (It.row .u8 5)) ++ [])))) [] (by kernel_rfl) hS22 (fun w23 hS23 => ?_)
  refine t_seg (S := (fun x_ => St w x_ (Res.box blk21 [Value.int .i64 ad12, Value.slice ld13A (List.length ld13) ld13c] 55 :: Res.row (Value.slice ld13A (List.length ld13) ld13c) 37 2 (List.length ld13) (flat true ld13y) :: ((ld13y.map (It.row .u8 5)) ++ [])))) [(0, .v (Value.agg #[Value.int .i64 ad12, Value.slice ld13A (List.length ld13) ld13c])), (1, .no), (2, .no)] 5 #[true, true, true, false, false, false, false, false] [(12, Value.pointer (some ⟨blk6, 0, none⟩)), (11, Value.pointer (some ⟨blk6, 0, none⟩)), (10, Value.agg #[Value.int .i64 ad12, Value.slice ld13A (List.length ld13) ld13c])] ((LoadsAt Try.prog (fun x_ => St w x_ (Res.box blk21 [Value.int .i64 ad12, Value.slice ld13A (List.length ld13) ld13c] 55 :: Res.row (Value.slice ld13A (List.length ld13) ld13c) 37 2 (List.length ld13) (flat true ld13y) :: ((ld13y.map (It.row .u8 5)) ++ []))) 55 ⟨blk21, 0, none⟩ (Value.agg #[Value.int .i64 ad12, Value.slice ld13A (List.length ld13) ld13c]))) (by kernel_rfl) (Qpanic.then Qpanic.bp) rfl (by kernel_rfl) (ld_boxN (i := 0) (k := 2) rfl rfl rfl (by kernel_rfl)) (hS23.sub (List.Sublist.cons_cons _ (List.Sublist.cons_cons _ (List.Sublist.cons _ (List.Sublist.cons _ (List.Sublist.append (List.Sublist.refl _) List.Sublist.slnil)))))) ?_
  refine a_op (i := 3) (fuel := 4) (listed' := #[true, true, true, true, false, false, false, false]) rfl rfl (by kernel_rfl) (by kernel_rfl) rfl (fun K hK => op_buildSlice (d := some 13) rfl rfl (e := 3) (by kernel_rfl) 1 (by kernel_rfl) (by decide) (by decide) [Value.int .i64 0, Value.int .i64 2, Value.int .i64 60, Value.int .i64 61] (by kernel_rfl) rfl hS23 (fun blk25 w24 hS24 => hK _ _ (fun _ => (hS24.sub (List.Sublist.cons _ (List.Sublist.cons_cons _ (List.Sublist.cons_cons _ (List.Sublist.cons _ (List.Sublist.cons _ (List.Sublist.append (List.Sublist.refl _) List.Sublist.slnil)))))))) ?_))
  clear hK K
  refine a_op (i := 4) (fuel := 3) (listed' := #[true, true, true, true, true, false, false, false]) rfl rfl (by kernel_rfl) (by kernel_rfl) rfl (fun K hK => op_callm (d := some 14) rfl rfl ⟨_, Try.func86, by kernel_rfl, by kernel_rfl⟩ (vs := [Value.pointer (some ⟨blk6, 0, none⟩), Value.slice (some ⟨blk25, 0, none⟩) 4 4]) (by kernel_rfl) (l1Int_s_c blk6 A n c ix14 hx15 (some ⟨blk25, 0, none⟩) 4 ([0, 2, 60, 61]) _ w w24 (hS24.front 3 rfl) hC16 (by first | omega | decide | simp)) (fun v27 new28 w26 Rw26 hS26 => ?_))
  obtain ⟨ix30, hx31, xd29, rfl, rfl, hC32, hf33⟩ := Rw26
  simp only [List.mem_cons, List.mem_nil_iff, or_false, List.not_mem_nil] at hf33
  have hf33b : 0 ≤ xd29 ∧ xd29 ≤ 61 := by omega
  refine hK _ _ (fun _ => (hS26.sub (List.Sublist.cons _ (List.Sublist.cons _ (List.Sublist.cons_cons _ (List.Sublist.cons_cons _ (List.Sublist.cons _ (List.Sublist.append (List.Sublist.refl _) List.Sublist.slnil)))))))) ?_
  clear hK K
  refine a_op (i := 5) (fuel := 2) (listed' := #[true, true, true, true, true, true, false, false]) rfl rfl (by kernel_rfl) (by kernel_rfl) rfl (fun K hK => op_callm (d := some 15) rfl rfl ⟨_, Try.func85, by kernel_rfl, by kernel_rfl⟩ (vs := [Value.pointer (some ⟨blk6, 0, none⟩), Value.int .i64 xd29]) (by kernel_rfl) (l1Bytes_s_c blk6 A n c ix30 hx31 xd29 _ w w26 hS26 hC32 (by omega) (by omega)) (fun v35 new36 w34 Rw34 hS34 => ?_))
  obtain ⟨ix38, hx39, zd37, zd37A, zd37c, rfl, rfl, hC40, hf41, hf42⟩ := Rw34
  refine hK _ _ (fun _ => (hS34.sub (List.Sublist.cons _ (List.Sublist.cons _ (List.Sublist.cons _ (List.Sublist.cons_cons _ (List.Sublist.cons_cons _ (List.Sublist.cons _ (List.Sublist.append (List.Sublist.refl _) List.Sublist.slnil))))))))) ?_
  clear hK K
  refine a_op (i := 6) (fuel := 1) (listed' := #[true, true, true, true, true, true, true, false]) rfl rfl (by kernel_rfl) (by kernel_rfl) rfl (fun K hK => op_store (d := none) rfl rfl (i := 5) (b := blk2) (off := 0) (cs := [Value.int .i64 0, Value.slice none 0 0]) (bt := 55) (by kernel_rfl) (by kernel_rfl) [Value.int .i64 ad12, Value.slice ld13A (List.length ld13) ld13c] (by kernel_rfl) (by kernel_rfl) (Nat.le_of_ble_eq_true (by kernel_rfl)) (by kernel_rfl) (Res.row (Value.slice zd37A (List.length zd37) zd37c) 5 1 (List.length zd37) (zd37.map (Value.int .u8)) :: Res.box blk6 [Value.slice A n c, Value.int .i64 ix38, Value.int .i64 hx39] 110 :: Res.row (Value.slice (some ⟨blk25, 0, none⟩) 4 4) 3 1 4 ([Value.int .i64 0, Value.int .i64 2, Value.int .i64 60, Value.int .i64 61]) :: Res.box blk21 [Value.int .i64 ad12, Value.slice ld13A (List.length ld13) ld13c] 55 :: Res.row (Value.slice ld13A (List.length ld13) ld13c) 37 2 (List.length ld13) (flat true ld13y) :: Res.box blk2 [Value.int .i64 ad12, Value.slice ld13A (List.length ld13) ld13c] 55 :: ((ld13y.map (It.row .u8 5)) ++ [])) (by kernel_rfl) hS34 (fun w43 hS43 => hK _ _ (fun _ => (hS43.sub (List.Sublist.cons _ (List.Sublist.cons _ (List.Sublist.cons _ (List.Sublist.cons_cons _ (List.Sublist.cons_cons _ (List.Sublist.cons _ (List.Sublist.append (List.Sublist.refl _) List.Sublist.slnil))))))))) ?_))
  clear hK K
  refine t_seg (S := (fun x_ => St w x_ (Res.box blk21 [Value.int .i64 ad12, Value.slice ld13A (List.length ld13) ld13c] 55 :: Res.row (Value.slice ld13A (List.length ld13) ld13c) 37 2 (List.length ld13) (flat true ld13y) :: ((ld13y.map (It.row .u8 5)) ++ [])))) [(7, .no)] 0 #[true, true, true, true, true, true, true, true] [(3, Value.slice zd37A (List.length zd37) zd37c)] True (by kernel_rfl) (Qpanic.then Qpanic.bp) rfl (by kernel_rfl) trivial (hS43.sub (List.Sublist.cons _ (List.Sublist.cons _ (List.Sublist.cons _ (List.Sublist.cons_cons _ (List.Sublist.cons_cons _ (List.Sublist.cons _ (List.Sublist.append (List.Sublist.refl _) List.Sublist.slnil)))))))) ?_
  refine a_done (by kernel_rfl) ?_
  refine then_n ?_
  refine wp_ret ?_
  have hS43s1 : St w w43 (Res.row (Value.slice zd37A (List.length zd37) zd37c) 5 1 (List.length zd37) (zd37.map (Value.int .u8)) :: Res.row (Value.slice ld13A (List.length ld13) ld13c) 37 2 (List.length ld13) (flat true ld13y) :: ((ld13y.map (It.row .u8 5)) ++ [])) := (hS43.sub (List.Sublist.cons_cons _ (List.Sublist.cons _ (List.Sublist.cons _ (List.Sublist.cons _ (List.Sublist.cons_cons _ (List.Sublist.cons _ (List.Sublist.append (List.Sublist.refl _) List.Sublist.slnil))))))))
  have hS43s1s2 : St w w43 (Res.row (Value.slice zd37A (List.length zd37) zd37c) 5 1 (List.length zd37) (zd37.map (Value.int .u8)) :: Res.row (Value.slice ld13A (List.length ld13) ld13c) 37 2 (List.length ld13) (flat true ld13y) :: ((ld13y.map (It.row .u8 5)) ++ [])) := hS43s1.front 0 rfl
  have hS43s1s2s3 : St w w43 (Res.row (Value.slice ld13A (List.length ld13) ld13c) 37 2 (List.length ld13) (flat true ld13y) :: Res.row (Value.slice zd37A (List.length zd37) zd37c) 5 1 (List.length zd37) (zd37.map (Value.int .u8)) :: ((ld13y.map (It.row .u8 5)) ++ [])) := hS43s1s2.front 1 rfl
  exact c_end (S := (fun x_ => St w x_ (Res.row (Value.slice zd37A (List.length zd37) zd37c) 5 1 (List.length zd37) (zd37.map (Value.int .u8)) :: Res.box blk6 [Value.slice A n c, Value.int .i64 ix38, Value.int .i64 hx39] 110 :: Res.row (Value.slice (some ⟨blk25, 0, none⟩) 4 4) 3 1 4 ([Value.int .i64 0, Value.int .i64 2, Value.int .i64 60, Value.int .i64 61]) :: Res.box blk21 [Value.int .i64 ad12, Value.slice ld13A (List.length ld13) ld13c] 55 :: Res.row (Value.slice ld13A (List.length ld13) ld13c) 37 2 (List.length ld13) (flat true ld13y) :: Res.box blk2 [Value.int .i64 ad12, Value.slice ld13A (List.length ld13) ld13c] 55 :: ((ld13y.map (It.row .u8 5)) ++ [])))) (rs := [.cell 2 55, .tmp 3]) rfl [Value.agg #[Value.int .i64 ad12, Value.slice ld13A (List.length ld13) ld13c]] (v := Value.tuple #[Value.agg #[Value.int .i64 ad12, Value.slice ld13A (List.length ld13) ld13c], Value.slice zd37A (List.length zd37) zd37c]) (C := ((LoadsAt Try.prog (fun x_ => St w x_ (Res.row (Value.slice zd37A (List.length zd37) zd37c) 5 1 (List.length zd37) (zd37.map (Value.int .u8)) :: Res.box blk6 [Value.slice A n c, Value.int .i64 ix38, Value.int .i64 hx39] 110 :: Res.row (Value.slice (some ⟨blk25, 0, none⟩) 4 4) 3 1 4 ([Value.int .i64 0, Value.int .i64 2, Value.int .i64 60, Value.int .i64 61]) :: Res.box blk21 [Value.int .i64 ad12, Value.slice ld13A (List.length ld13) ld13c] 55 :: Res.row (Value.slice ld13A (List.length ld13) ld13c) 37 2 (List.length ld13) (flat true ld13y) :: Res.box blk2 [Value.int .i64 ad12, Value.slice ld13A (List.length ld13) ld13c] 55 :: ((ld13y.map (It.row .u8 5)) ++ []))) 55 ⟨blk2, 0, none⟩ (Value.agg #[Value.int .i64 ad12, Value.slice ld13A (List.length ld13) ld13c])))) (by kernel_rfl) (ld_boxN (i := 5) (k := 2) rfl rfl rfl (by kernel_rfl)) hS43 (hS43s1s2s3.rt ⟨ad12, ld13, ld13A, ld13c, ld13y, zd37, zd37A, zd37c, rfl, rfl, ld13q, ld13o, (by omega), (by omega), (by omega), hf41, (by omega)⟩)
end Go.Proofs.Ytchkiohikhfecaa
