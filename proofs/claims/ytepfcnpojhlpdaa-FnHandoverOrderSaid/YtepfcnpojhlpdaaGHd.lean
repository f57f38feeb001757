/-
  Contracts of the draws of the handover seat, and of the comparisons of its laws.
-/
import Derived.Test.YtepfcnpojhlpdaaGDr
import Derived.Test.YtepfcnpojhlpdaaGRp
namespace Go.Proofs.Ytepfcnpojhlpdaa
open Go.RowKit
set_option maxRecDepth 100000

theorem big_c (A : Option Addr) (n c : Nat) (w : World) : Calls Try.prog 26 #[.slice A n c] w (RetV w (.bool (decide ((1048576 : Int) < ((n : Nat) : Int))))) := by
  refine calls_FA Try.func26 rfl (n := 6) rfl (l := [(0, Value.slice A n c)]) rfl (by simp) (fun g => ?_)
  have hS := St.init w
  refine wp_seq ?_
  refine c_reg ?_
  refine q_seg (S := (fun x_ => St w x_ [])) [(2, Value.bool false)] [.no] True (by kernel_rfl) trivial hS ?_
  refine l_nil rfl ?_
  refine then_n ?_
  refine wp_seq ?_
  refine c_reg ?_
  refine q_seg (S := (fun x_ => St w x_ [])) [(2, Value.bool (decide ((1048576 : Int) < ((n : Nat) : Int)))), (5, Value.bool (decide ((1048576 : Int) < ((n : Nat) : Int)))), (4, Value.int .i64 ((n : Nat) : Int)), (3, Value.slice A n c)] [.no, .no, .no, .no] True (by kernel_rfl) trivial hS ?_
  refine l_nil rfl ?_
  refine then_n ?_
  refine wp_ret ?_
  exact c_end (S := (fun x_ => St w x_ [])) (rs := [.tmp 2]) rfl [] (v := Value.bool (decide ((1048576 : Int) < ((n : Nat) : Int)))) (C := True) (by kernel_rfl) trivial hS ((hS.rv rfl))
theorem sameBytes_c (A B : Option Addr) (n c m d : Nat) (xs ys : List Int) (w : World) (hn : n ≤ 9223372036854775807) (hm : m ≤ 9223372036854775807) (hr : Rd w w.heap.size A n (xs.map (Value.int .u8))) (hr2 : Rd w w.heap.size B m (ys.map (Value.int .u8))) : Calls Try.prog 59 #[.slice A n c, .slice B m d] w (RetV w (.bool (decide (xs = ys)))) := by
  refine calls_FA Try.func59 rfl (n := 26) rfl (l := [(0, Value.slice A n c), (1, Value.slice B m d)]) rfl (by simp) (fun g => ?_)
  have hS := St.init w
  refine wp_seq ?_
  refine c_reg ?_
  refine q_seg (S := (fun x_ => St w x_ [])) [(4, Value.bool false)] [.no] True (by kernel_rfl) trivial hS ?_
  refine l_nil rfl ?_
  refine then_n ?_
  refine wp_seq ?_
  refine wp_seq ?_
  refine c_reg ?_
  refine q_seg (S := (fun x_ => St w x_ [])) [(10, Value.bool (!(decide (((n : Nat) : Int) = ((m : Nat) : Int))))), (9, Value.int .i64 ((m : Nat) : Int)), (8, Value.slice B m d), (7, Value.int .i64 ((n : Nat) : Int)), (6, Value.slice A n c)] [.no, .no, .no, .no, .no] True (by kernel_rfl) trivial hS ?_
  refine l_nil rfl ?_
  refine then_n ?_
  rcases Bool.eq_false_or_eq_true (decide (((n : Nat) : Int) = ((m : Nat) : Int))) with hb1 | hb1
  · skip
    have hb1p := of_decide_eq_true hb1
    refine c_false (b := (!(decide (((n : Nat) : Int) = ((m : Nat) : Int))))) (by kernel_rfl) (nb (v := true) hb1) ?_
    refine wp_skip ?_
    refine then_n ?_
    refine wp_seq ?_
    refine wp_seq ?_
    refine c_reg ?_
    refine q_seg (S := (fun x_ => St w x_ [])) [(5, Value.int .i64 0)] [.no] True (by kernel_rfl) trivial hS ?_
    refine l_nil rfl ?_
    refine then_n ?_
    refine wp_block ?_
    refine c_loop (X := Nat) (fun (k : Nat) => [(0, Value.slice A n c), (1, Value.slice B m d), (5, Value.int .i64 ((k : Nat) : Int))]) (fun (k : Nat) (wr : World) => (k ≤ n) ∧ (xs.take k = ys.take k) ∧ St w wr []) (fun (k : Nat) => n - k) 0 ?_ ?_ ?_
    · exact (agree_cons (by kernel_rfl) (agree_cons (by kernel_rfl) (agree_cons (by kernel_rfl) agree_nil)))
    · exact ⟨Nat.zero_le _, rfl, hS⟩
    rintro k g3 w2 ⟨hkn, htk, hS2⟩
    refine wp_seq ?_
    refine wp_seq ?_
    refine c_reg ?_
    refine q_seg (S := (fun x_ => St w x_ [])) [(14, Value.bool (decide (((k : Nat) : Int) < ((n : Nat) : Int)))), (13, Value.int .i64 ((n : Nat) : Int)), (12, Value.slice A n c), (11, Value.int .i64 ((k : Nat) : Int))] [.no, .no, .no, .no] True (by kernel_rfl) trivial hS2 ?_
    refine l_nil rfl ?_
    refine then_n ?_
    rcases Bool.eq_false_or_eq_true (decide (((k : Nat) : Int) < ((n : Nat) : Int))) with hb4 | hb4
    · skip
      have hb4p := of_decide_eq_true hb4
      obtain ⟨b, off, rfl, hbB, hcl⟩ := hr.2 (by omega)
      obtain ⟨b2, off2, rfl, hbB2, hcl2⟩ := hr2.2 (by omega)
      obtain ⟨z, hzk, hzm⟩ := get_of_lt (l := xs) (k := k) (by have := hr.len; omega)
      obtain ⟨y, hyk, hym⟩ := get_of_lt (l := ys) (k := k) (by have := hr2.len; omega)
      refine c_true (b := (decide (((k : Nat) : Int) < ((n : Nat) : Int)))) (by kernel_rfl) hb4 ?_
      refine wp_skip ?_
      refine then_n ?_
      refine wp_seq ?_
      refine wp_block ?_
      refine wp_seq ?_
      refine c_drawn [] (by kernel_rfl) hS2 (fun w5 hS5 => ?_)
      refine t_seg (S := (fun x_ => St w x_ [])) [(0, .no), (1, .no), (4, .no), (5, .no), (2, .no), (6, .no), (3, .v (Value.int .u8 z)), (7, .v (Value.int .u8 y)), (8, .no)] 0 #[true, true, true, true, true, true, true, true, true] [(25, Value.bool (!(decide (z = y)))), (24, Value.int .u8 y), (20, Value.int .u8 z), (23, Value.pointer (some ⟨b2, off2 + Int.toNat ((k : Nat) : Int) * 1, none⟩)), (19, Value.pointer (some ⟨b, off + Int.toNat ((k : Nat) : Int) * 1, none⟩)), (22, Value.int .i64 ((k : Nat) : Int)), (21, Value.slice (some ⟨b2, off2, none⟩) m d), (18, Value.int .i64 ((k : Nat) : Int)), (17, Value.slice (some ⟨b, off, none⟩) n c)] (((0 : Int) ≤ ((k : Nat) : Int)) ∧ (((k : Nat) : Int) < ((n : Nat) : Int)) ∧ ((0 : Int) ≤ ((k : Nat) : Int)) ∧ (((k : Nat) : Int) < ((m : Nat) : Int)) ∧ (LoadsAt Try.prog (fun x_ => St w x_ []) 5 ⟨b, off + Int.toNat ((k : Nat) : Int) * 1, none⟩ (Value.int .u8 z)) ∧ (LoadsAt Try.prog (fun x_ => St w x_ []) 5 ⟨b2, off2 + Int.toNat ((k : Nat) : Int) * 1, none⟩ (Value.int .u8 y))) (by kernel_rfl) (Qpanic.then (Qpanic.block (Qpanic.then (Qpanic.then (Qpanic.block (Qpanic.then Qpanic.bp)))))) rfl (by kernel_rfl) ⟨(by omega), (by omega), (by omega), (by omega), (ld_low (hcl _ _ (by simp [hzk])) (by kernel_rfl)), (ld_low (hcl2 _ _ (by simp [hyk])) (by kernel_rfl))⟩ hS5 ?_
      refine a_done (by kernel_rfl) ?_
      refine then_n ?_
      rcases Bool.eq_false_or_eq_true (decide (z = y)) with hb6 | hb6
      · skip
        have hb6p := of_decide_eq_true hb6
        refine c_false (b := (!(decide (z = y)))) (by kernel_rfl) (nb (v := true) hb6) ?_
        refine wp_skip ?_
        refine blk_n ?_
        refine then_n ?_
        refine c_reg ?_
        refine q_seg (S := (fun x_ => St w x_ [])) [(5, Value.int .i64 (((k : Nat) : Int) + (1 : Int))), (16, Value.int .i64 (((k : Nat) : Int) + (1 : Int))), (15, Value.int .i64 ((k : Nat) : Int))] [.no, .no, .no] ((InK .i64 (((k : Nat) : Int) + (1 : Int)))) (by kernel_rfl) (in64 (by omega) (by omega)) hS5 ?_
        refine l_nil rfl ?_
        refine then_n ?_
        refine round_end (k + 1) ?_ ?_ ?_
        · exact (agree_cons (by kernel_rfl) (agree_cons (by kernel_rfl) (agree_cons (by kernel_rfl) agree_nil)))
        · exact ⟨(by omega), (tk_step htk hzk hyk hb6p), hS5⟩
        · exact (by first | omega | (dsimp only; omega))
      · skip
        have hb6p := of_decide_eq_false hb6
        refine c_true (b := (!(decide (z = y)))) (by kernel_rfl) (nb (v := false) hb6) ?_
        refine wp_seq ?_
        refine c_reg ?_
        refine q_seg (S := (fun x_ => St w x_ [])) [(4, Value.bool false)] [.no] True (by kernel_rfl) trivial hS5 ?_
        refine l_nil rfl ?_
        refine then_n ?_
        refine wp_ret ?_
        refine blk_r ?_
        refine then_r ?_
        refine then_r ?_
        refine blk_r ?_
        refine then_r ?_
        exact c_end (S := (fun x_ => St w x_ [])) (rs := [.tmp 4]) rfl [] (v := Value.bool false) (C := True) (by kernel_rfl) trivial hS5 ((hS5.rv (congrArg Value.bool (decide_eq_false (fun e_ => hb6p (Option.some.inj (hzk.symm.trans ((congrArg (fun l => l[k]?) e_).trans hyk))))).symm)))
    · skip
      have hb4p := of_decide_eq_false hb4
      refine c_false (b := (decide (((k : Nat) : Int) < ((n : Nat) : Int)))) (by kernel_rfl) hb4 ?_
      refine wp_exit ?_
      refine then_x ?_
      refine then_x ?_
      refine blk_hit ?_
      refine then_n ?_
      refine wp_seq ?_
      refine c_reg ?_
      refine q_seg (S := (fun x_ => St w x_ [])) [(4, Value.bool true)] [.no] True (by kernel_rfl) trivial hS2 ?_
      refine l_nil rfl ?_
      refine then_n ?_
      refine wp_ret ?_
      exact c_end (S := (fun x_ => St w x_ [])) (rs := [.tmp 4]) rfl [] (v := Value.bool true) (C := True) (by kernel_rfl) trivial hS2 ((hS2.rv (congrArg Value.bool (decide_eq_true (by rw [take_all (by have := hr.len; omega), take_all (by have := hr2.len; omega)] at htk; exact htk)).symm)))
  · skip
    have hb1p := of_decide_eq_false hb1
    refine c_true (b := (!(decide (((n : Nat) : Int) = ((m : Nat) : Int))))) (by kernel_rfl) (nb (v := false) hb1) ?_
    refine wp_seq ?_
    refine c_reg ?_
    refine q_seg (S := (fun x_ => St w x_ [])) [(4, Value.bool false)] [.no] True (by kernel_rfl) trivial hS ?_
    refine l_nil rfl ?_
    refine then_n ?_
    refine wp_ret ?_
    refine then_r ?_
    exact c_end (S := (fun x_ => St w x_ [])) (rs := [.tmp 4]) rfl [] (v := Value.bool false) (C := True) (by kernel_rfl) trivial hS ((hS.rv (congrArg Value.bool (decide_eq_false (fun e_ => by have h1_ := hr.len; have h2_ := hr2.len; rw [e_] at h1_; omega)).symm)))
theorem samePayloads_c (A B : Option Addr) (n c m d : Nat) (L M : List (Int × List Int)) (w : World) (hs : wt L ≤ 1099511627776) (hs2 : wt M ≤ 1099511627776) (hr : RdL .u8 false w w.heap.size A n L) (hr2 : RdL .u8 false w w.heap.size B m M) : Calls Try.prog 29 #[.slice A n c, .slice B m d] w (RetV w (.bool (decide (L = M)))) := by
  obtain ⟨hok, ys, hr, rfl⟩ := hr
  have hwl := wt_len (ys.map (con false))
  have hln := hr.len
  rw [List.length_map] at hwl
  obtain ⟨hok2, zs, hr2, rfl⟩ := hr2
  have hwl2 := wt_len (zs.map (con false))
  have hln2 := hr2.len
  rw [List.length_map] at hwl2
  refine calls_FA Try.func29 rfl (n := 29) rfl (l := [(0, Value.slice A n c), (1, Value.slice B m d)]) rfl (by simp) (fun g => ?_)
  have hS := St.init w
  refine wp_seq ?_
  refine c_reg ?_
  refine q_seg (S := (fun x_ => St w x_ [])) [(4, Value.bool false)] [.no] True (by kernel_rfl) trivial hS ?_
  refine l_nil rfl ?_
  refine then_n ?_
  refine wp_seq ?_
  refine wp_seq ?_
  refine c_reg ?_
  refine q_seg (S := (fun x_ => St w x_ [])) [(10, Value.bool (!(decide (((n : Nat) : Int) = ((m : Nat) : Int))))), (9, Value.int .i64 ((m : Nat) : Int)), (8, Value.slice B m d), (7, Value.int .i64 ((n : Nat) : Int)), (6, Value.slice A n c)] [.no, .no, .no, .no, .no] True (by kernel_rfl) trivial hS ?_
  refine l_nil rfl ?_
  refine then_n ?_
  rcases Bool.eq_false_or_eq_true (decide (((n : Nat) : Int) = ((m : Nat) : Int))) with hb1 | hb1
  · skip
    have hb1p := of_decide_eq_true hb1
    refine c_false (b := (!(decide (((n : Nat) : Int) = ((m : Nat) : Int))))) (by kernel_rfl) (nb (v := true) hb1) ?_
    refine wp_skip ?_
    refine then_n ?_
    refine wp_seq ?_
    refine wp_seq ?_
    refine c_reg ?_
    refine q_seg (S := (fun x_ => St w x_ [])) [(5, Value.int .i64 0)] [.no] True (by kernel_rfl) trivial hS ?_
    refine l_nil rfl ?_
    refine then_n ?_
    refine wp_block ?_
    refine c_loop (X := Nat) (fun (k : Nat) => [(0, Value.slice A n c), (1, Value.slice B m d), (5, Value.int .i64 ((k : Nat) : Int))]) (fun (k : Nat) (wr : World) => (k ≤ n) ∧ ((ys.map (con false)).take k = (zs.map (con false)).take k) ∧ St w wr []) (fun (k : Nat) => n - k) 0 ?_ ?_ ?_
    · exact (agree_cons (by kernel_rfl) (agree_cons (by kernel_rfl) (agree_cons (by kernel_rfl) agree_nil)))
    · exact ⟨Nat.zero_le _, rfl, hS⟩
    rintro k g3 w2 ⟨hkn, htk, hS2⟩
    refine wp_seq ?_
    refine wp_seq ?_
    refine c_reg ?_
    refine q_seg (S := (fun x_ => St w x_ [])) [(14, Value.bool (decide (((k : Nat) : Int) < ((n : Nat) : Int)))), (13, Value.int .i64 ((n : Nat) : Int)), (12, Value.slice A n c), (11, Value.int .i64 ((k : Nat) : Int))] [.no, .no, .no, .no] True (by kernel_rfl) trivial hS2 ?_
    refine l_nil rfl ?_
    refine then_n ?_
    rcases Bool.eq_false_or_eq_true (decide (((k : Nat) : Int) < ((n : Nat) : Int))) with hb4 | hb4
    · skip
      have hb4p := of_decide_eq_true hb4
      obtain ⟨b, off, rfl, hbB, hcl⟩ := hr.at (k := k) (by omega)
      obtain ⟨y, hyk, hym⟩ := get_of_lt (l := ys) (k := k) (by have := hr.len; omega)
      obtain ⟨hy1, hy2, hy3⟩ := hr.el y hym
      obtain ⟨hyi, hyz⟩ := hok _ (List.mem_map_of_mem (f := (con false)) hym)
      have hyl : y.zs.length + 1 ≤ wt (ys.map (con false)) := wt_mem (List.mem_map_of_mem (f := (con false)) hym)
      obtain ⟨b2, off2, rfl, hbB2, hcl2⟩ := hr2.at (k := k) (by omega)
      obtain ⟨z, hzk, hzm⟩ := get_of_lt (l := zs) (k := k) (by have := hr2.len; omega)
      obtain ⟨hz1, hz2, hz3⟩ := hr2.el z hzm
      obtain ⟨hzi, hzz⟩ := hok2 _ (List.mem_map_of_mem (f := (con false)) hzm)
      have hzl : z.zs.length + 1 ≤ wt (zs.map (con false)) := wt_mem (List.mem_map_of_mem (f := (con false)) hzm)
      refine c_true (b := (decide (((k : Nat) : Int) < ((n : Nat) : Int)))) (by kernel_rfl) hb4 ?_
      refine wp_skip ?_
      refine then_n ?_
      refine wp_seq ?_
      refine wp_block ?_
      refine wp_seq ?_
      refine c_drawn [] (by kernel_rfl) hS2 (fun w5 hS5 => ?_)
      refine t_seg (S := (fun x_ => St w x_ [])) [(0, .no), (1, .no), (5, .no), (6, .no), (2, .no), (7, .no), (3, .no), (8, .no), (4, .v (Value.slice y.A y.zs.length y.c)), (9, .v (Value.slice z.A z.zs.length z.c))] 2 #[true, true, true, true, true, true, true, true, true, true, false, false] [(26, Value.slice z.A z.zs.length z.c), (21, Value.slice y.A y.zs.length y.c), (25, Value.pointer (some ⟨b2, off2 + Int.toNat ((k : Nat) : Int) * 1 + 0, none⟩)), (20, Value.pointer (some ⟨b, off + Int.toNat ((k : Nat) : Int) * 1 + 0, none⟩)), (24, Value.pointer (some ⟨b2, off2 + Int.toNat ((k : Nat) : Int) * 1, none⟩)), (19, Value.pointer (some ⟨b, off + Int.toNat ((k : Nat) : Int) * 1, none⟩)), (23, Value.int .i64 ((k : Nat) : Int)), (22, Value.slice (some ⟨b2, off2, none⟩) m d), (18, Value.int .i64 ((k : Nat) : Int)), (17, Value.slice (some ⟨b, off, none⟩) n c)] (((0 : Int) ≤ ((k : Nat) : Int)) ∧ (((k : Nat) : Int) < ((n : Nat) : Int)) ∧ ((0 : Int) ≤ ((k : Nat) : Int)) ∧ (((k : Nat) : Int) < ((m : Nat) : Int)) ∧ (LoadsAt Try.prog (fun x_ => St w x_ []) 38 ⟨b, off + Int.toNat ((k : Nat) : Int) * 1 + 0, none⟩ (Value.slice y.A y.zs.length y.c)) ∧ (LoadsAt Try.prog (fun x_ => St w x_ []) 38 ⟨b2, off2 + Int.toNat ((k : Nat) : Int) * 1 + 0, none⟩ (Value.slice z.A z.zs.length z.c))) (by kernel_rfl) (Qpanic.then (Qpanic.block (Qpanic.then (Qpanic.then (Qpanic.block (Qpanic.then Qpanic.bp)))))) rfl (by kernel_rfl) ⟨(by omega), (by omega), (by omega), (by omega), (ld_low (flat_cell (p := false) (r := 0) hcl hyk rfl) (by kernel_rfl)), (ld_low (flat_cell (p := false) (r := 0) hcl2 hzk rfl) (by kernel_rfl))⟩ hS5 ?_
      refine a_op (i := 10) (fuel := 1) (listed' := #[true, true, true, true, true, true, true, true, true, true, true, false]) rfl rfl (by kernel_rfl) (by kernel_rfl) rfl (fun K hK => op_callv (d := some 27) rfl rfl ⟨_, Try.func59, by kernel_rfl, by kernel_rfl⟩ (vs := [Value.slice y.A y.zs.length y.c, Value.slice z.A z.zs.length z.c]) (by kernel_rfl) (v := Value.bool (decide (y.zs = z.zs))) (sameBytes_c y.A z.A y.zs.length y.c z.zs.length z.c y.zs z.zs w5 (by omega) (by omega) (hS5.rdlow hy1) (hS5.rdlow hz1)) hS5 (fun w6 hS6 => hK _ _ (fun _ => hS6) ?_))
      clear hK K
      refine t_seg (S := (fun x_ => St w x_ [])) [(11, .no)] 0 #[true, true, true, true, true, true, true, true, true, true, true, true] [(28, Value.bool (!(decide (y.zs = z.zs))))] True (by kernel_rfl) (Qpanic.then (Qpanic.block (Qpanic.then (Qpanic.then (Qpanic.block (Qpanic.then Qpanic.bp)))))) rfl (by kernel_rfl) trivial hS6 ?_
      refine a_done (by kernel_rfl) ?_
      refine then_n ?_
      rcases Bool.eq_false_or_eq_true (decide (y.zs = z.zs)) with hb7 | hb7
      · skip
        have hb7p := of_decide_eq_true hb7
        refine c_false (b := (!(decide (y.zs = z.zs)))) (by kernel_rfl) (nb (v := true) hb7) ?_
        refine wp_skip ?_
        refine blk_n ?_
        refine then_n ?_
        refine c_reg ?_
        refine q_seg (S := (fun x_ => St w x_ [])) [(5, Value.int .i64 (((k : Nat) : Int) + (1 : Int))), (16, Value.int .i64 (((k : Nat) : Int) + (1 : Int))), (15, Value.int .i64 ((k : Nat) : Int))] [.no, .no, .no] ((InK .i64 (((k : Nat) : Int) + (1 : Int)))) (by kernel_rfl) (in64 (by omega) (by omega)) hS6 ?_
        refine l_nil rfl ?_
        refine then_n ?_
        refine round_end (k + 1) ?_ ?_ ?_
        · exact (agree_cons (by kernel_rfl) (agree_cons (by kernel_rfl) (agree_cons (by kernel_rfl) agree_nil)))
        · exact ⟨(by omega), (tk_step htk (con_get hyk) (con_get hzk) (con_ff hb7p)), hS6⟩
        · exact (by first | omega | (dsimp only; omega))
      · skip
        have hb7p := of_decide_eq_false hb7
        refine c_true (b := (!(decide (y.zs = z.zs)))) (by kernel_rfl) (nb (v := false) hb7) ?_
        refine wp_seq ?_
        refine c_reg ?_
        refine q_seg (S := (fun x_ => St w x_ [])) [(4, Value.bool false)] [.no] True (by kernel_rfl) trivial hS6 ?_
        refine l_nil rfl ?_
        refine then_n ?_
        refine wp_ret ?_
        refine blk_r ?_
        refine then_r ?_
        refine then_r ?_
        refine blk_r ?_
        refine then_r ?_
        exact c_end (S := (fun x_ => St w x_ [])) (rs := [.tmp 4]) rfl [] (v := Value.bool false) (C := True) (by kernel_rfl) trivial hS6 ((hS6.rv (congrArg Value.bool (same_false (con_get hyk) (con_get hzk) (con_ne hb7p)).symm)))
    · skip
      have hb4p := of_decide_eq_false hb4
      refine c_false (b := (decide (((k : Nat) : Int) < ((n : Nat) : Int)))) (by kernel_rfl) hb4 ?_
      refine wp_exit ?_
      refine then_x ?_
      refine then_x ?_
      refine blk_hit ?_
      refine then_n ?_
      refine wp_seq ?_
      refine c_reg ?_
      refine q_seg (S := (fun x_ => St w x_ [])) [(4, Value.bool true)] [.no] True (by kernel_rfl) trivial hS2 ?_
      refine l_nil rfl ?_
      refine then_n ?_
      refine wp_ret ?_
      exact c_end (S := (fun x_ => St w x_ [])) (rs := [.tmp 4]) rfl [] (v := Value.bool true) (C := True) (by kernel_rfl) trivial hS2 ((hS2.rv (congrArg Value.bool (same_true htk (by rw [List.length_map]; omega) (by rw [List.length_map]; omega)).symm)))
  · skip
    have hb1p := of_decide_eq_false hb1
    refine c_true (b := (!(decide (((n : Nat) : Int) = ((m : Nat) : Int))))) (by kernel_rfl) (nb (v := false) hb1) ?_
    refine wp_seq ?_
    refine c_reg ?_
    refine q_seg (S := (fun x_ => St w x_ [])) [(4, Value.bool false)] [.no] True (by kernel_rfl) trivial hS ?_
    refine l_nil rfl ?_
    refine then_n ?_
    refine wp_ret ?_
    refine then_r ?_
    exact c_end (S := (fun x_ => St w x_ [])) (rs := [.tmp 4]) rfl [] (v := Value.bool false) (C := True) (by kernel_rfl) trivial hS ((hS.rv (congrArg Value.bool (same_len (by rw [List.length_map, List.length_map]; omega)).symm)))
theorem sameQueue_c (a0A : Option Addr) (a0n a0c : Nat) (a0L : List (Int × List Int)) (a1 : Bool) (a2A : Option Addr) (a2n a2c : Nat) (a2L : List (Int × List Int)) (b0A : Option Addr) (b0n b0c : Nat) (b0L : List (Int × List Int)) (b1 : Bool) (b2A : Option Addr) (b2n b2c : Nat) (b2L : List (Int × List Int)) (w : World) (a0h : RdL .u8 false w w.heap.size a0A a0n a0L) (a0w : wt a0L ≤ 1099511627776) (a2h : RdL .u8 false w w.heap.size a2A a2n a2L) (a2w : wt a2L ≤ 1099511627776) (b0h : RdL .u8 false w w.heap.size b0A b0n b0L) (b0w : wt b0L ≤ 1099511627776) (b2h : RdL .u8 false w w.heap.size b2A b2n b2L) (b2w : wt b2L ≤ 1099511627776) : Calls Try.prog 42 #[Value.agg #[Value.slice a0A a0n a0c, Value.bool a1, Value.slice a2A a2n a2c], Value.agg #[Value.slice b0A b0n b0c, Value.bool b1, Value.slice b2A b2n b2c]] w (RetV w (.bool ((a1 == b1) && (decide (a0L = b0L) && decide (a2L = b2L))))) := by
  have a0l := a0h.len
  have a0v := wt_len a0L
  have a2l := a2h.len
  have a2v := wt_len a2L
  have b0l := b0h.len
  have b0v := wt_len b0L
  have b2l := b2h.len
  have b2v := wt_len b2L
  refine calls_FA Try.func42 rfl (n := 24) rfl (l := [(0, Value.agg #[Value.slice a0A a0n a0c, Value.bool a1, Value.slice a2A a2n a2c]), (1, Value.agg #[Value.slice b0A b0n b0c, Value.bool b1, Value.slice b2A b2n b2c])]) rfl (by simp) (fun g => ?_)
  have hS := St.init w
  refine wp_seq ?_
  refine c_reg ?_
  refine l_op rfl rfl (fun K hK => op_box (d := some 2) rfl rfl [Value.slice a0A a0n a0c, Value.bool a1, Value.slice a2A a2n a2c] (by kernel_rfl) hS (fun blk2 w1 hS1 => hK _ _ ?_))
  clear hK K
  refine l_op rfl rfl (fun K hK => op_box (d := some 3) rfl rfl [Value.slice b0A b0n b0c, Value.bool b1, Value.slice b2A b2n b2c] (by kernel_rfl) hS1 (fun blk4 w3 hS3 => hK _ _ ?_))
  clear hK K
  refine q_seg (S := (fun x_ => St w x_ [Res.box blk4 [Value.slice b0A b0n b0c, Value.bool b1, Value.slice b2A b2n b2c] 35, Res.box blk2 [Value.slice a0A a0n a0c, Value.bool a1, Value.slice a2A a2n a2c] 35])) [(4, Value.bool false)] [.no] True (by kernel_rfl) trivial hS3 ?_
  refine l_nil rfl ?_
  refine then_n ?_
  refine wp_seq ?_
  refine c_reg ?_
  refine q_seg (S := (fun x_ => St w x_ [Res.box blk4 [Value.slice b0A b0n b0c, Value.bool b1, Value.slice b2A b2n b2c] 35, Res.box blk2 [Value.slice a0A a0n a0c, Value.bool a1, Value.slice a2A a2n a2c] 35])) [(10, Value.bool ((a1) == (b1))), (9, Value.bool ((a1) == (b1))), (8, Value.bool b1), (7, Value.pointer (some ⟨blk4, 0 + 1, none⟩)), (6, Value.bool a1), (5, Value.pointer (some ⟨blk2, 0 + 1, none⟩))] [.no, .v (Value.bool a1), .no, .v (Value.bool b1), .no, .no] ((LoadsAt Try.prog (fun x_ => St w x_ [Res.box blk4 [Value.slice b0A b0n b0c, Value.bool b1, Value.slice b2A b2n b2c] 35, Res.box blk2 [Value.slice a0A a0n a0c, Value.bool a1, Value.slice a2A a2n a2c] 35]) 4 ⟨blk2, 0 + 1, none⟩ (Value.bool a1)) ∧ (LoadsAt Try.prog (fun x_ => St w x_ [Res.box blk4 [Value.slice b0A b0n b0c, Value.bool b1, Value.slice b2A b2n b2c] 35, Res.box blk2 [Value.slice a0A a0n a0c, Value.bool a1, Value.slice a2A a2n a2c] 35]) 4 ⟨blk4, 0 + 1, none⟩ (Value.bool b1))) (by kernel_rfl) ⟨(ld_box (i := 1) rfl rfl (by kernel_rfl)), (ld_box (i := 0) rfl rfl (by kernel_rfl))⟩ hS3 ?_
  rcases Bool.eq_false_or_eq_true (((a1) == (b1))) with hb5 | hb5
  · skip
    refine q_seg (S := (fun x_ => St w x_ [Res.box blk4 [Value.slice b0A b0n b0c, Value.bool b1, Value.slice b2A b2n b2c] 35, Res.box blk2 [Value.slice a0A a0n a0c, Value.bool a1, Value.slice a2A a2n a2c] 35])) [(14, Value.slice b0A b0n b0c), (13, Value.pointer (some ⟨blk4, 0 + 0, none⟩)), (12, Value.slice a0A a0n a0c), (11, Value.pointer (some ⟨blk2, 0 + 0, none⟩))] [.no, .v (Value.slice a0A a0n a0c), .no, .v (Value.slice b0A b0n b0c)] ((((a1) == (b1)) = true) ∧ (((a1) == (b1)) = true) ∧ (LoadsAt Try.prog (fun x_ => St w x_ [Res.box blk4 [Value.slice b0A b0n b0c, Value.bool b1, Value.slice b2A b2n b2c] 35, Res.box blk2 [Value.slice a0A a0n a0c, Value.bool a1, Value.slice a2A a2n a2c] 35]) 25 ⟨blk2, 0 + 0, none⟩ (Value.slice a0A a0n a0c)) ∧ (((a1) == (b1)) = true) ∧ (((a1) == (b1)) = true) ∧ (LoadsAt Try.prog (fun x_ => St w x_ [Res.box blk4 [Value.slice b0A b0n b0c, Value.bool b1, Value.slice b2A b2n b2c] 35, Res.box blk2 [Value.slice a0A a0n a0c, Value.bool a1, Value.slice a2A a2n a2c] 35]) 25 ⟨blk4, 0 + 0, none⟩ (Value.slice b0A b0n b0c))) (by kernel_rfl) ⟨hb5, hb5, (ld_box (i := 1) rfl rfl (by kernel_rfl)), hb5, hb5, (ld_box (i := 0) rfl rfl (by kernel_rfl))⟩ hS3 ?_
    refine l_opg rfl (b := ((a1) == (b1))) (want := true) (by kernel_rfl) hb5 (fun K hK => op_callv (d := some 15) rfl rfl ⟨_, Try.func29, by kernel_rfl, by kernel_rfl⟩ (vs := [Value.slice a0A a0n a0c, Value.slice b0A b0n b0c]) (by kernel_rfl) (v := Value.bool (decide (a0L = b0L))) (samePayloads_c a0A b0A a0n a0c b0n b0c a0L b0L w3 (by omega) (by omega) (hS3.rdllow a0h) (hS3.rdllow b0h)) hS3 (fun w6 hS6 => hK _ _ ?_))
    clear hK K
    refine q_seg (S := (fun x_ => St w x_ [Res.box blk4 [Value.slice b0A b0n b0c, Value.bool b1, Value.slice b2A b2n b2c] 35, Res.box blk2 [Value.slice a0A a0n a0c, Value.bool a1, Value.slice a2A a2n a2c] 35])) [(17, Value.bool (decide (a0L = b0L))), (16, Value.bool (decide (a0L = b0L)))] [.v (.bool true), .no] ((((a1) == (b1)) = true)) (by kernel_rfl) hb5 hS6 ?_
    rcases Bool.eq_false_or_eq_true (decide (a0L = b0L)) with hb7 | hb7
    · skip
      have hb7p := of_decide_eq_true hb7
      refine q_seg (S := (fun x_ => St w x_ [Res.box blk4 [Value.slice b0A b0n b0c, Value.bool b1, Value.slice b2A b2n b2c] 35, Res.box blk2 [Value.slice a0A a0n a0c, Value.bool a1, Value.slice a2A a2n a2c] 35])) [(21, Value.slice b2A b2n b2c), (20, Value.pointer (some ⟨blk4, 0 + 2, none⟩)), (19, Value.slice a2A a2n a2c), (18, Value.pointer (some ⟨blk2, 0 + 2, none⟩))] [.no, .v (Value.slice a2A a2n a2c), .no, .v (Value.slice b2A b2n b2c)] (((decide (a0L = b0L)) = true) ∧ ((decide (a0L = b0L)) = true) ∧ (LoadsAt Try.prog (fun x_ => St w x_ [Res.box blk4 [Value.slice b0A b0n b0c, Value.bool b1, Value.slice b2A b2n b2c] 35, Res.box blk2 [Value.slice a0A a0n a0c, Value.bool a1, Value.slice a2A a2n a2c] 35]) 25 ⟨blk2, 0 + 2, none⟩ (Value.slice a2A a2n a2c)) ∧ ((decide (a0L = b0L)) = true) ∧ ((decide (a0L = b0L)) = true) ∧ (LoadsAt Try.prog (fun x_ => St w x_ [Res.box blk4 [Value.slice b0A b0n b0c, Value.bool b1, Value.slice b2A b2n b2c] 35, Res.box blk2 [Value.slice a0A a0n a0c, Value.bool a1, Value.slice a2A a2n a2c] 35]) 25 ⟨blk4, 0 + 2, none⟩ (Value.slice b2A b2n b2c))) (by kernel_rfl) ⟨hb7, hb7, (ld_box (i := 1) rfl rfl (by kernel_rfl)), hb7, hb7, (ld_box (i := 0) rfl rfl (by kernel_rfl))⟩ hS6 ?_
      refine l_opg rfl (b := (decide (a0L = b0L))) (want := true) (by kernel_rfl) hb7 (fun K hK => op_callv (d := some 22) rfl rfl ⟨_, Try.func29, by kernel_rfl, by kernel_rfl⟩ (vs := [Value.slice a2A a2n a2c, Value.slice b2A b2n b2c]) (by kernel_rfl) (v := Value.bool (decide (a2L = b2L))) (samePayloads_c a2A b2A a2n a2c b2n b2c a2L b2L w6 (by omega) (by omega) (hS6.rdllow a2h) (hS6.rdllow b2h)) hS6 (fun w8 hS8 => hK _ _ ?_))
      clear hK K
      refine q_seg (S := (fun x_ => St w x_ [Res.box blk4 [Value.slice b0A b0n b0c, Value.bool b1, Value.slice b2A b2n b2c] 35, Res.box blk2 [Value.slice a0A a0n a0c, Value.bool a1, Value.slice a2A a2n a2c] 35])) [(4, Value.bool (decide (a2L = b2L))), (23, Value.bool (decide (a2L = b2L)))] [.v (.bool true), .no] (((decide (a0L = b0L)) = true)) (by kernel_rfl) hb7 hS8 ?_
      refine l_nil rfl ?_
      refine then_n ?_
      refine wp_ret ?_
      exact c_end (S := (fun x_ => St w x_ [Res.box blk4 [Value.slice b0A b0n b0c, Value.bool b1, Value.slice b2A b2n b2c] 35, Res.box blk2 [Value.slice a0A a0n a0c, Value.bool a1, Value.slice a2A a2n a2c] 35])) (rs := [.tmp 4]) rfl [] (v := Value.bool (decide (a2L = b2L))) (C := True) (by kernel_rfl) trivial hS8 ((hS8.rv (congrArg Value.bool (by first | rfl | simp [*]))))
    · skip
      have hb7p := of_decide_eq_false hb7
      refine q_seg (S := (fun x_ => St w x_ [Res.box blk4 [Value.slice b0A b0n b0c, Value.bool b1, Value.slice b2A b2n b2c] 35, Res.box blk2 [Value.slice a0A a0n a0c, Value.bool a1, Value.slice a2A a2n a2c] 35])) [(4, Value.bool false), (23, Value.bool false), (22, undef), (21, undef), (20, undef), (19, undef), (18, undef)] [.skip, .skip, .skip, .skip, .skip, .v (.bool false), .no] (((decide (a0L = b0L)) = !true) ∧ ((decide (a0L = b0L)) = !true) ∧ ((decide (a0L = b0L)) = !true) ∧ ((decide (a0L = b0L)) = !true) ∧ ((decide (a0L = b0L)) = !true) ∧ ((decide (a0L = b0L)) = false)) (by kernel_rfl) ⟨hb7, hb7, hb7, hb7, hb7, hb7⟩ hS6 ?_
      refine l_nil rfl ?_
      refine then_n ?_
      refine wp_ret ?_
      exact c_end (S := (fun x_ => St w x_ [Res.box blk4 [Value.slice b0A b0n b0c, Value.bool b1, Value.slice b2A b2n b2c] 35, Res.box blk2 [Value.slice a0A a0n a0c, Value.bool a1, Value.slice a2A a2n a2c] 35])) (rs := [.tmp 4]) rfl [] (v := Value.bool false) (C := True) (by kernel_rfl) trivial hS6 ((hS6.rv (congrArg Value.bool (by first | rfl | simp [*]))))
  · skip
    refine q_seg (S := (fun x_ => St w x_ [Res.box blk4 [Value.slice b0A b0n b0c, Value.bool b1, Value.slice b2A b2n b2c] 35, Res.box blk2 [Value.slice a0A a0n a0c, Value.bool a1, Value.slice a2A a2n a2c] 35])) [(4, Value.bool false), (23, Value.bool false), (22, undef), (21, undef), (20, undef), (19, undef), (18, undef), (17, Value.bool false), (16, Value.bool false), (15, undef), (14, undef), (13, undef), (12, undef), (11, undef)] [.skip, .skip, .skip, .skip, .skip, .v (.bool false), .no, .skip, .skip, .skip, .skip, .skip, .v (.bool false), .no] ((((a1) == (b1)) = !true) ∧ (((a1) == (b1)) = !true) ∧ (((a1) == (b1)) = !true) ∧ (((a1) == (b1)) = !true) ∧ (((a1) == (b1)) = !true) ∧ (((a1) == (b1)) = false) ∧ (false = !true) ∧ (false = !true) ∧ (false = !true) ∧ (false = !true) ∧ (false = !true) ∧ (false = false)) (by kernel_rfl) ⟨hb5, hb5, hb5, hb5, hb5, hb5, rfl, rfl, rfl, rfl, rfl, rfl⟩ hS3 ?_
    refine l_nil rfl ?_
    refine then_n ?_
    refine wp_ret ?_
    exact c_end (S := (fun x_ => St w x_ [Res.box blk4 [Value.slice b0A b0n b0c, Value.bool b1, Value.slice b2A b2n b2c] 35, Res.box blk2 [Value.slice a0A a0n a0c, Value.bool a1, Value.slice a2A a2n a2c] 35])) (rs := [.tmp 4]) rfl [] (v := Value.bool false) (C := True) (by kernel_rfl) trivial hS3 ((hS3.rv (congrArg Value.bool (by first | rfl | simp [*]))))
theorem l25Bodies_s_c (b : Nat) (A : Option Addr) (n c : Nat) (i h : Int) (m : Int) (tl : List Res) (w0 w : World) (hS : St w0 w (Res.box b [Value.slice A n c, Value.int .i64 i, Value.int .i64 h] 71 :: tl)) (hC : CurI w0 A n i) (hm0 : 1 ≤ m) (hm1 : m ≤ 1000) : Calls Try.prog 57 #[.pointer (some ⟨b, 0, none⟩), Value.int .i64 m] w (fun e w' => ∃ v own', e = .returned v ∧ St w0 w' own' ∧ (∃ (i' h' : Int) (p_ : List (Int × List Int)) (p_A : Option Addr) (p_c : Nat) (p_y : List It), v = Value.slice p_A (List.length p_) p_c ∧ own' = (Res.row (Value.slice p_A (List.length p_) p_c) 61 1 (List.length p_) (flat false p_y) :: Res.box b [Value.slice A n c, Value.int .i64 i', Value.int .i64 h'] 71 :: (((p_y.map (It.row .u8 5)) ++ tl))) ∧ CurI w0 A n i' ∧ (p_y.map (con false) = p_) ∧ (okL .u8 p_) ∧ (wt p_ ≤ 3000))) := by
  obtain ⟨hClo, hChi, hCn, _⟩ := id hC
  refine calls_FA Try.func57 rfl (n := 24) rfl (l := [(0, Value.pointer (some ⟨b, 0, none⟩)), (1, Value.int .i64 m)]) rfl (by simp) (fun g => ?_)
  refine wp_seq ?_
  refine c_reg ?_
  refine q_seg (S := (fun x_ => St w0 x_ (Res.box b [Value.slice A n c, Value.int .i64 i, Value.int .i64 h] 71 :: tl))) [(4, Value.slice none 0 0)] [.no] True (by kernel_rfl) trivial hS ?_
  refine l_nil rfl ?_
  refine then_n ?_
  refine wp_seq ?_
  refine c_reg ?_
  refine l_op rfl rfl (fun K hK => op_buildSlice (d := some 7) rfl rfl (e := 61) (by kernel_rfl) 1 (by kernel_rfl) (by decide) (by decide) [] (by kernel_rfl) rfl hS (fun blk2 w1 hS1 => hK _ _ ?_))
  clear hK K
  refine q_seg (S := (fun x_ => St w0 x_ (Res.row (Value.slice (some ⟨blk2, 0, none⟩) 0 0) 61 1 0 ([]) :: Res.box b [Value.slice A n c, Value.int .i64 i, Value.int .i64 h] 71 :: tl))) [(5, Value.slice (some ⟨blk2, 0, none⟩) 0 0)] [.no] True (by kernel_rfl) trivial hS1 ?_
  refine l_nil rfl ?_
  refine then_n ?_
  refine wp_seq ?_
  refine wp_seq ?_
  refine c_reg ?_
  refine q_seg (S := (fun x_ => St w0 x_ (Res.row (Value.slice (some ⟨blk2, 0, none⟩) 0 0) 61 1 0 ([]) :: Res.box b [Value.slice A n c, Value.int .i64 i, Value.int .i64 h] 71 :: tl))) [(9, Value.int .i64 m), (8, Value.pointer (some ⟨b, 0, none⟩))] [.no, .no] True (by kernel_rfl) trivial hS1 ?_
  refine l_op rfl rfl (fun K hK => op_callm (d := some 10) rfl rfl ⟨_, Try.func68, by kernel_rfl, by kernel_rfl⟩ (vs := [Value.pointer (some ⟨b, 0, none⟩), Value.int .i64 m]) (by kernel_rfl) (l1Below_s_c b A n c i h m _ w0 w1 (hS1.front 1 rfl) hC (by omega)) (fun v4 new5 w3 Rw3 hS3 => ?_))
  obtain ⟨ix7, hx8, xd6, rfl, rfl, hC9, hf10, hf11⟩ := Rw3
  refine hK _ _ ?_
  clear hK K
  refine q_seg (S := (fun x_ => St w0 x_ (Res.box b [Value.slice A n c, Value.int .i64 ix7, Value.int .i64 hx8] 71 :: Res.row (Value.slice (some ⟨blk2, 0, none⟩) 0 0) 61 1 0 ([]) :: tl))) [(6, Value.int .i64 xd6)] [.no] True (by kernel_rfl) trivial hS3 ?_
  refine l_nil rfl ?_
  refine then_n ?_
  refine wp_block ?_
  have hS3s1 : St w0 w3 (Res.box b [Value.slice A n c, Value.int .i64 ix7, Value.int .i64 hx8] 71 :: Res.row (Value.slice (some ⟨blk2, 0, none⟩) 0 0) 61 1 0 (flat false ([] : List It)) :: ((([] : List It).map (It.row .u8 5)) ++ tl)) := hS3
  refine c_loop (X := Int × List (Int × List Int) × Option Addr × Nat × List It × Int × Int) (fun (x_ : Int × List (Int × List Int) × Option Addr × Nat × List It × Int × Int) => match x_ with | (j, L, A2, c2, ys, ic, hc) => [(0, Value.pointer (some ⟨b, 0, none⟩)), (5, Value.slice A2 (List.length L) c2), (6, Value.int .i64 j)]) (fun (x_ : Int × List (Int × List Int) × Option Addr × Nat × List It × Int × Int) (wr : World) => match x_ with | (j, L, A2, c2, ys, ic, hc) => (CurI w0 A n ic) ∧ (0 ≤ j) ∧ (j + ((List.length L : Nat) : Int) ≤ xd6) ∧ (ys.map (con false) = L) ∧ (okL .u8 L) ∧ (wt L ≤ 3 * List.length L) ∧ St w0 wr (Res.box b [Value.slice A n c, Value.int .i64 ic, Value.int .i64 hc] 71 :: Res.row (Value.slice A2 (List.length L) c2) 61 1 (List.length L) (flat false ys) :: ((ys.map (It.row .u8 5)) ++ tl))) (fun (x_ : Int × List (Int × List Int) × Option Addr × Nat × List It × Int × Int) => match x_ with | (j, L, A2, c2, ys, ic, hc) => j.toNat) ((xd6, [], (some ⟨blk2, 0, none⟩), 0, [], ix7, hx8)) ?_ ?_ ?_
  · exact (agree_cons (by kernel_rfl) (agree_cons (by kernel_rfl) (agree_cons (by kernel_rfl) agree_nil)))
  · exact ⟨hC9, (by omega), (by simp), rfl, okL.nil, (by decide), hS3s1⟩
  rintro ⟨j, L, A2, c2, ys, ic, hc⟩ g13 w12 ⟨hCl, hj0, hjz, hyL, hoL, hwt, hS12⟩
  obtain ⟨hClo2, hChi2, hCn2, _⟩ := id hCl
  have hwL := wt_len L
  refine wp_seq ?_
  refine wp_seq ?_
  refine c_reg ?_
  refine q_seg (S := (fun x_ => St w0 x_ (Res.box b [Value.slice A n c, Value.int .i64 ic, Value.int .i64 hc] 71 :: Res.row (Value.slice A2 (List.length L) c2) 61 1 (List.length L) (flat false ys) :: ((ys.map (It.row .u8 5)) ++ tl)))) [(12, Value.bool (decide ((0 : Int) < j))), (11, Value.int .i64 j)] [.no, .no] True (by kernel_rfl) trivial hS12 ?_
  refine l_nil rfl ?_
  refine then_n ?_
  rcases Bool.eq_false_or_eq_true (decide ((0 : Int) < j)) with hb14 | hb14
  · skip
    have hb14p := of_decide_eq_true hb14
    refine c_true (b := (decide ((0 : Int) < j))) (by kernel_rfl) hb14 ?_
    refine wp_skip ?_
    refine then_n ?_
    refine wp_seq ?_
    refine wp_block ?_
    refine c_reg ?_
    refine q_seg (S := (fun x_ => St w0 x_ (Res.box b [Value.slice A n c, Value.int .i64 ic, Value.int .i64 hc] 71 :: Res.row (Value.slice A2 (List.length L) c2) 61 1 (List.length L) (flat false ys) :: ((ys.map (It.row .u8 5)) ++ tl)))) [(17, Value.pointer (some ⟨b, 0, none⟩)), (16, Value.pointer (some ⟨b, 0, none⟩)), (15, Value.slice A2 (List.length L) c2)] [.no, .no, .no] True (by kernel_rfl) trivial hS12 ?_
    refine l_op rfl rfl (fun K hK => op_callm (d := some 18) rfl rfl ⟨_, Try.func68, by kernel_rfl, by kernel_rfl⟩ (vs := [Value.pointer (some ⟨b, 0, none⟩), Value.int .i64 3]) (by kernel_rfl) (l1Below_s_c b A n c ic hc (3 : Int) _ w0 w12 hS12 hCl (by omega)) (fun v16 new17 w15 Rw15 hS15 => ?_))
    obtain ⟨ix19, hx20, xd18, rfl, rfl, hC21, hf22, hf23⟩ := Rw15
    refine hK _ _ ?_
    clear hK K
    refine l_op rfl rfl (fun K hK => op_callm (d := some 19) rfl rfl ⟨_, Try.func69, by kernel_rfl, by kernel_rfl⟩ (vs := [Value.pointer (some ⟨b, 0, none⟩), Value.int .i64 xd18]) (by kernel_rfl) (l1Bytes_s_c b A n c ix19 hx20 xd18 _ w0 w15 hS15 hC21 (by omega) (by omega)) (fun v25 new26 w24 Rw24 hS24 => ?_))
    obtain ⟨ix28, hx29, zd27, zd27A, zd27c, rfl, rfl, hC30, hf31, hf32⟩ := Rw24
    refine hK _ _ ?_
    clear hK K
    refine q_seg (S := (fun x_ => St w0 x_ (Res.row (Value.slice zd27A (List.length zd27) zd27c) 5 1 (List.length zd27) (zd27.map (Value.int .u8)) :: Res.box b [Value.slice A n c, Value.int .i64 ix28, Value.int .i64 hx29] 71 :: Res.row (Value.slice A2 (List.length L) c2) 61 1 (List.length L) (flat false ys) :: ((ys.map (It.row .u8 5)) ++ tl)))) [(20, Value.agg #[Value.slice zd27A (List.length zd27) zd27c])] [.no] True (by kernel_rfl) trivial hS24 ?_
    refine l_op rfl rfl (fun K hK => op_buildSlice (d := some 21) rfl rfl (e := 61) (by kernel_rfl) 1 (by kernel_rfl) (by decide) (by decide) [Value.slice zd27A (List.length zd27) zd27c] (by kernel_rfl) rfl hS24 (fun blk34 w33 hS33 => hK _ _ ?_))
    clear hK K
    refine l_op rfl rfl (fun K hK => op_append (d := some 22) rfl rfl el_61 hS33 (i := 3) rfl rfl rfl (news := [Value.slice zd27A (List.length zd27) zd27c]) (hS33.rd (List.mem_of_getElem? (i := 0) rfl)) (all_one (by rfl)) (by omega) (by omega) (fun v36 w35 hS35 => hK _ _ ?_))
    clear hK K
    obtain ⟨hlv36, Av36, cv36, hvv36, hnv36, hmv36⟩ := hS35.row_slice (List.mem_of_getElem? (i := 3) rfl)
    subst hvv36
    have hS35s2 : St w0 w35 (Res.row (Value.slice (some ⟨blk34, 0, none⟩) 1 1) 61 1 1 ([Value.slice zd27A (List.length zd27) zd27c]) :: Res.row (Value.slice zd27A (List.length zd27) zd27c) 5 1 (List.length zd27) (zd27.map (Value.int .u8)) :: Res.box b [Value.slice A n c, Value.int .i64 ix28, Value.int .i64 hx29] 71 :: Res.row (Value.slice Av36 ((List.length L) + 1) cv36) 61 1 ((List.length L) + 1) (flat false (ys ++ [(It.mk 0 zd27A zd27c zd27)])) :: ((ys.map (It.row .u8 5)) ++ tl)) := hS35.eqv (by rw [flat_snoc]; rfl)
    have hS35s2s3 : St w0 w35 (Res.row (Value.slice zd27A (List.length zd27) zd27c) 5 1 (List.length zd27) (zd27.map (Value.int .u8)) :: Res.box b [Value.slice A n c, Value.int .i64 ix28, Value.int .i64 hx29] 71 :: Res.row (Value.slice Av36 ((List.length L) + 1) cv36) 61 1 ((List.length L) + 1) (flat false (ys ++ [(It.mk 0 zd27A zd27c zd27)])) :: ((ys.map (It.row .u8 5)) ++ tl)) := (hS35s2.sub (List.Sublist.cons _ (List.Sublist.cons_cons _ (List.Sublist.cons_cons _ (List.Sublist.cons_cons _ (List.Sublist.append (List.Sublist.refl _) (List.Sublist.refl _)))))))
    have hS35s2s3s4 : St w0 w35 (Res.box b [Value.slice A n c, Value.int .i64 ix28, Value.int .i64 hx29] 71 :: Res.row (Value.slice Av36 ((List.length L) + 1) cv36) 61 1 ((List.length L) + 1) (flat false (ys ++ [(It.mk 0 zd27A zd27c zd27)])) :: (((ys ++ [(It.mk 0 zd27A zd27c zd27)]).map (It.row .u8 5)) ++ tl)) := St.pickB (κ := .u8) (tb := 5) [Res.box b [Value.slice A n c, Value.int .i64 ix28, Value.int .i64 hx29] 71, Res.row (Value.slice Av36 ((List.length L) + 1) cv36) 61 1 ((List.length L) + 1) (flat false (ys ++ [(It.mk 0 zd27A zd27c zd27)]))] [] tl ys (It.mk 0 zd27A zd27c zd27) hS35s2s3
    have hcq37 : (ys ++ [(It.mk 0 zd27A zd27c zd27)]).map (con false) = (L ++ [(0, zd27)]) := by rw [List.map_append, hyL]; rfl
    have hcq37l : List.length (L ++ [(0, zd27)]) = ((List.length L) + 1) := by have h1_ : List.length L = (List.length L) := rfl; rw [List.length_append, List.length_singleton] <;> omega
    refine q_seg (S := (fun x_ => St w0 x_ (Res.box b [Value.slice A n c, Value.int .i64 ix28, Value.int .i64 hx29] 71 :: Res.row (Value.slice Av36 ((List.length L) + 1) cv36) 61 1 ((List.length L) + 1) (flat false (ys ++ [(It.mk 0 zd27A zd27c zd27)])) :: (((ys ++ [(It.mk 0 zd27A zd27c zd27)]).map (It.row .u8 5)) ++ tl)))) [(5, Value.slice Av36 ((List.length L) + 1) cv36)] [.no] True (by kernel_rfl) trivial hS35s2s3s4 ?_
    refine l_nil rfl ?_
    refine blk_n ?_
    refine then_n ?_
    refine c_reg ?_
    refine q_seg (S := (fun x_ => St w0 x_ (Res.box b [Value.slice A n c, Value.int .i64 ix28, Value.int .i64 hx29] 71 :: Res.row (Value.slice Av36 ((List.length L) + 1) cv36) 61 1 ((List.length L) + 1) (flat false (ys ++ [(It.mk 0 zd27A zd27c zd27)])) :: (((ys ++ [(It.mk 0 zd27A zd27c zd27)]).map (It.row .u8 5)) ++ tl)))) [(6, Value.int .i64 (j - (1 : Int))), (14, Value.int .i64 (j - (1 : Int))), (13, Value.int .i64 j)] [.no, .no, .no] ((InK .i64 (j - (1 : Int)))) (by kernel_rfl) (in64 (by omega) (by omega)) hS35s2s3s4 ?_
    refine l_nil rfl ?_
    refine then_n ?_
    refine round_end ((j - 1, (L ++ [(0, zd27)]), Av36, cv36, (ys ++ [(It.mk 0 zd27A zd27c zd27)]), ix28, hx29)) ?_ ?_ ?_
    · exact (agree_cons (by kernel_rfl) (agree_eq (v0 := Value.slice Av36 ((List.length L) + 1) cv36) (by kernel_rfl) (congrArg (fun m => Value.slice Av36 m cv36) (by rw [hcq37l])) (agree_cons (by kernel_rfl) agree_nil)))
    · exact ⟨hC30, (by omega), (by rw [hcq37l]; omega), hcq37, (okL.append hoL (okL.one (i64 (by omega) (by omega)) hf31)), (by simp only [wt_append, wt_one, List.length_append, List.length_singleton]; omega), (hS35s2s3s4.eqv (by rw [hcq37l]))⟩
    · exact (by first | omega | (dsimp only; omega))
  · skip
    have hb14p := of_decide_eq_false hb14
    refine c_false (b := (decide ((0 : Int) < j))) (by kernel_rfl) hb14 ?_
    refine wp_exit ?_
    refine then_x ?_
    refine then_x ?_
    refine blk_hit ?_
    refine then_n ?_
    refine wp_seq ?_
    refine c_reg ?_
    refine q_seg (S := (fun x_ => St w0 x_ (Res.box b [Value.slice A n c, Value.int .i64 ic, Value.int .i64 hc] 71 :: Res.row (Value.slice A2 (List.length L) c2) 61 1 (List.length L) (flat false ys) :: ((ys.map (It.row .u8 5)) ++ tl)))) [(4, Value.slice A2 (List.length L) c2), (23, Value.slice A2 (List.length L) c2)] [.no, .no] True (by kernel_rfl) trivial hS12 ?_
    refine l_nil rfl ?_
    refine then_n ?_
    refine wp_ret ?_
    have hS12s5 : St w0 w12 (Res.box b [Value.slice A n c, Value.int .i64 ic, Value.int .i64 hc] 71 :: Res.row (Value.slice A2 (List.length L) c2) 61 1 (List.length L) (flat false ys) :: ((ys.map (It.row .u8 5)) ++ tl)) := hS12.front 0 rfl
    have hS12s5s6 : St w0 w12 (Res.row (Value.slice A2 (List.length L) c2) 61 1 (List.length L) (flat false ys) :: Res.box b [Value.slice A n c, Value.int .i64 ic, Value.int .i64 hc] 71 :: ((ys.map (It.row .u8 5)) ++ tl)) := hS12s5.front 1 rfl
    have hSo := St.inB [Res.row (Value.slice A2 (List.length L) c2) 61 1 (List.length L) (flat false ys), Res.box b [Value.slice A n c, Value.int .i64 ic, Value.int .i64 hc] 71] [] [(ys.map (It.row .u8 5))] tl hS12s5s6
    exact c_end (S := (fun x_ => St w0 x_ (Res.box b [Value.slice A n c, Value.int .i64 ic, Value.int .i64 hc] 71 :: Res.row (Value.slice A2 (List.length L) c2) 61 1 (List.length L) (flat false ys) :: ((ys.map (It.row .u8 5)) ++ tl)))) (rs := [.tmp 4]) rfl [] (v := Value.slice A2 (List.length L) c2) (C := True) (by kernel_rfl) trivial hS12 (⟨_, _, rfl, hSo, ic, hc, L, A2, c2, ys, rfl, rfl, hCl, hyL, hoL, (by omega)⟩)
theorem l25Order_s_c (b : Nat) (A : Option Addr) (n c : Nat) (i h : Int)  (tl : List Res) (w0 w : World) (hS : St w0 w (Res.box b [Value.slice A n c, Value.int .i64 i, Value.int .i64 h] 71 :: tl)) (hC : CurI w0 A n i)  : Calls Try.prog 58 #[.pointer (some ⟨b, 0, none⟩)] w (fun e w' => ∃ v own', e = .returned v ∧ St w0 w' own' ∧ (∃ (i' h' : Int) (z_ : List Int) (z_A : Option Addr) (z_c : Nat), v = Value.slice z_A (List.length z_) z_c ∧ own' = (Res.row (Value.slice z_A (List.length z_) z_c) 3 1 (List.length z_) (z_.map (Value.int .i64)) :: Res.box b [Value.slice A n c, Value.int .i64 i', Value.int .i64 h'] 71 :: tl) ∧ CurI w0 A n i' ∧ (List.length z_ ≤ 15))) := by
  obtain ⟨hClo, hChi, hCn, _⟩ := id hC
  refine calls_FA Try.func58 rfl (n := 19) rfl (l := [(0, Value.pointer (some ⟨b, 0, none⟩))]) rfl (by simp) (fun g => ?_)
  refine wp_seq ?_
  refine c_reg ?_
  refine q_seg (S := (fun x_ => St w0 x_ (Res.box b [Value.slice A n c, Value.int .i64 i, Value.int .i64 h] 71 :: tl))) [(2, Value.slice none 0 0)] [.no] True (by kernel_rfl) trivial hS ?_
  refine l_nil rfl ?_
  refine then_n ?_
  refine wp_seq ?_
  refine c_reg ?_
  refine l_op rfl rfl (fun K hK => op_buildSlice (d := some 5) rfl rfl (e := 3) (by kernel_rfl) 1 (by kernel_rfl) (by decide) (by decide) [] (by kernel_rfl) rfl hS (fun blk2 w1 hS1 => hK _ _ ?_))
  clear hK K
  refine q_seg (S := (fun x_ => St w0 x_ (Res.row (Value.slice (some ⟨blk2, 0, none⟩) 0 0) 3 1 0 ([]) :: Res.box b [Value.slice A n c, Value.int .i64 i, Value.int .i64 h] 71 :: tl))) [(3, Value.slice (some ⟨blk2, 0, none⟩) 0 0)] [.no] True (by kernel_rfl) trivial hS1 ?_
  refine l_nil rfl ?_
  refine then_n ?_
  refine wp_seq ?_
  refine wp_seq ?_
  refine c_reg ?_
  refine q_seg (S := (fun x_ => St w0 x_ (Res.row (Value.slice (some ⟨blk2, 0, none⟩) 0 0) 3 1 0 ([]) :: Res.box b [Value.slice A n c, Value.int .i64 i, Value.int .i64 h] 71 :: tl))) [(6, Value.pointer (some ⟨b, 0, none⟩))] [.no] True (by kernel_rfl) trivial hS1 ?_
  refine l_op rfl rfl (fun K hK => op_callm (d := some 7) rfl rfl ⟨_, Try.func68, by kernel_rfl, by kernel_rfl⟩ (vs := [Value.pointer (some ⟨b, 0, none⟩), Value.int .i64 16]) (by kernel_rfl) (l1Below_s_c b A n c i h (16 : Int) _ w0 w1 (hS1.front 1 rfl) hC (by omega)) (fun v4 new5 w3 Rw3 hS3 => ?_))
  obtain ⟨ix7, hx8, xd6, rfl, rfl, hC9, hf10, hf11⟩ := Rw3
  refine hK _ _ ?_
  clear hK K
  refine q_seg (S := (fun x_ => St w0 x_ (Res.box b [Value.slice A n c, Value.int .i64 ix7, Value.int .i64 hx8] 71 :: Res.row (Value.slice (some ⟨blk2, 0, none⟩) 0 0) 3 1 0 ([]) :: tl))) [(4, Value.int .i64 xd6)] [.no] True (by kernel_rfl) trivial hS3 ?_
  refine l_nil rfl ?_
  refine then_n ?_
  refine wp_block ?_
  refine c_loop (X := Int × List Int × Option Addr × Nat × Int × Int) (fun (x_ : Int × List Int × Option Addr × Nat × Int × Int) => match x_ with | (j, zs, A2, c2, ic, hc) => [(0, Value.pointer (some ⟨b, 0, none⟩)), (3, Value.slice A2 (List.length zs) c2), (4, Value.int .i64 j)]) (fun (x_ : Int × List Int × Option Addr × Nat × Int × Int) (wr : World) => match x_ with | (j, zs, A2, c2, ic, hc) => (CurI w0 A n ic) ∧ (0 ≤ j) ∧ (j + ((zs.length : Nat) : Int) ≤ xd6) ∧ St w0 wr (Res.box b [Value.slice A n c, Value.int .i64 ic, Value.int .i64 hc] 71 :: Res.row (Value.slice A2 (List.length zs) c2) 3 1 (List.length zs) (zs.map (Value.int .i64)) :: tl)) (fun (x_ : Int × List Int × Option Addr × Nat × Int × Int) => match x_ with | (j, zs, A2, c2, ic, hc) => j.toNat) ((xd6, [], (some ⟨blk2, 0, none⟩), 0, ix7, hx8)) ?_ ?_ ?_
  · exact (agree_cons (by kernel_rfl) (agree_cons (by kernel_rfl) (agree_cons (by kernel_rfl) agree_nil)))
  · exact ⟨hC9, (by omega), (by simp), hS3⟩
  rintro ⟨j, zs, A2, c2, ic, hc⟩ g13 w12 ⟨hCl, hj0, hjz, hS12⟩
  obtain ⟨hClo2, hChi2, hCn2, _⟩ := id hCl
  refine wp_seq ?_
  refine wp_seq ?_
  refine c_reg ?_
  refine q_seg (S := (fun x_ => St w0 x_ (Res.box b [Value.slice A n c, Value.int .i64 ic, Value.int .i64 hc] 71 :: Res.row (Value.slice A2 (List.length zs) c2) 3 1 (List.length zs) (zs.map (Value.int .i64)) :: tl))) [(9, Value.bool (decide ((0 : Int) < j))), (8, Value.int .i64 j)] [.no, .no] True (by kernel_rfl) trivial hS12 ?_
  refine l_nil rfl ?_
  refine then_n ?_
  rcases Bool.eq_false_or_eq_true (decide ((0 : Int) < j)) with hb14 | hb14
  · skip
    have hb14p := of_decide_eq_true hb14
    refine c_true (b := (decide ((0 : Int) < j))) (by kernel_rfl) hb14 ?_
    refine wp_skip ?_
    refine then_n ?_
    refine wp_seq ?_
    refine wp_block ?_
    refine c_reg ?_
    refine q_seg (S := (fun x_ => St w0 x_ (Res.box b [Value.slice A n c, Value.int .i64 ic, Value.int .i64 hc] 71 :: Res.row (Value.slice A2 (List.length zs) c2) 3 1 (List.length zs) (zs.map (Value.int .i64)) :: tl))) [(13, Value.pointer (some ⟨b, 0, none⟩)), (12, Value.slice A2 (List.length zs) c2)] [.no, .no] True (by kernel_rfl) trivial hS12 ?_
    refine l_op rfl rfl (fun K hK => op_buildSlice (d := some 14) rfl rfl (e := 3) (by kernel_rfl) 1 (by kernel_rfl) (by decide) (by decide) [Value.int .i64 0, Value.int .i64 1, Value.int .i64 0, Value.int .i64 1, Value.int .i64 0, Value.int .i64 1, Value.int .i64 2, Value.int .i64 (-1)] (by kernel_rfl) rfl hS12 (fun blk16 w15 hS15 => hK _ _ ?_))
    clear hK K
    refine l_op rfl rfl (fun K hK => op_callm (d := some 15) rfl rfl ⟨_, Try.func70, by kernel_rfl, by kernel_rfl⟩ (vs := [Value.pointer (some ⟨b, 0, none⟩), Value.slice (some ⟨blk16, 0, none⟩) 8 8]) (by kernel_rfl) (l1Int_s_c b A n c ic hc (some ⟨blk16, 0, none⟩) 8 ([0, 1, 0, 1, 0, 1, 2, (-1)]) _ w0 w15 (hS15.front 1 rfl) hCl (by first | omega | decide | simp)) (fun v18 new19 w17 Rw17 hS17 => ?_))
    obtain ⟨ix21, hx22, xd20, rfl, rfl, hC23, hf24⟩ := Rw17
    simp only [List.mem_cons, List.mem_nil_iff, or_false, List.not_mem_nil] at hf24
    have hf24b : -1 ≤ xd20 ∧ xd20 ≤ 2 := by omega
    refine hK _ _ ?_
    clear hK K
    refine l_op rfl rfl (fun K hK => op_buildSlice (d := some 16) rfl rfl (e := 3) (by kernel_rfl) 1 (by kernel_rfl) (by decide) (by decide) [Value.int .i64 xd20] (by kernel_rfl) rfl hS17 (fun blk26 w25 hS25 => hK _ _ ?_))
    clear hK K
    refine l_op rfl rfl (fun K hK => op_append (d := some 17) rfl rfl elInt hS25 (i := 3) rfl rfl rfl (news := [Value.int .i64 xd20]) (hS25.rd (List.mem_of_getElem? (i := 0) rfl)) (all_one (by rfl)) (by omega) (by omega) (fun v28 w27 hS27 => hK _ _ ?_))
    clear hK K
    obtain ⟨hlv28, Av28, cv28, hvv28, hnv28, hmv28⟩ := hS27.row_slice (List.mem_of_getElem? (i := 3) rfl)
    subst hvv28
    refine q_seg (S := (fun x_ => St w0 x_ (Res.row (Value.slice (some ⟨blk26, 0, none⟩) 1 1) 3 1 1 ([Value.int .i64 xd20]) :: Res.box b [Value.slice A n c, Value.int .i64 ix21, Value.int .i64 hx22] 71 :: Res.row (Value.slice (some ⟨blk16, 0, none⟩) 8 8) 3 1 8 ([Value.int .i64 0, Value.int .i64 1, Value.int .i64 0, Value.int .i64 1, Value.int .i64 0, Value.int .i64 1, Value.int .i64 2, Value.int .i64 (-1)]) :: Res.row (Value.slice Av28 ((List.length zs) + 1) cv28) 3 1 ((List.length zs) + 1) ((zs.map (Value.int .i64)) ++ [Value.int .i64 xd20]) :: tl))) [(3, Value.slice Av28 ((List.length zs) + 1) cv28)] [.no] True (by kernel_rfl) trivial hS27 ?_
    refine l_nil rfl ?_
    refine blk_n ?_
    refine then_n ?_
    refine c_reg ?_
    refine q_seg (S := (fun x_ => St w0 x_ (Res.row (Value.slice (some ⟨blk26, 0, none⟩) 1 1) 3 1 1 ([Value.int .i64 xd20]) :: Res.box b [Value.slice A n c, Value.int .i64 ix21, Value.int .i64 hx22] 71 :: Res.row (Value.slice (some ⟨blk16, 0, none⟩) 8 8) 3 1 8 ([Value.int .i64 0, Value.int .i64 1, Value.int .i64 0, Value.int .i64 1, Value.int .i64 0, Value.int .i64 1, Value.int .i64 2, Value.int .i64 (-1)]) :: Res.row (Value.slice Av28 ((List.length zs) + 1) cv28) 3 1 ((List.length zs) + 1) ((zs.map (Value.int .i64)) ++ [Value.int .i64 xd20]) :: tl))) [(4, Value.int .i64 (j - (1 : Int))), (11, Value.int .i64 (j - (1 : Int))), (10, Value.int .i64 j)] [.no, .no, .no] ((InK .i64 (j - (1 : Int)))) (by kernel_rfl) (in64 (by omega) (by omega)) hS27 ?_
    refine l_nil rfl ?_
    refine then_n ?_
    have hS27s1 : St w0 w27 (Res.box b [Value.slice A n c, Value.int .i64 ix21, Value.int .i64 hx22] 71 :: Res.row (Value.slice Av28 ((List.length zs) + 1) cv28) 3 1 ((List.length zs) + 1) ((zs.map (Value.int .i64)) ++ [Value.int .i64 xd20]) :: tl) := (hS27.sub (List.Sublist.cons _ (List.Sublist.cons_cons _ (List.Sublist.cons _ (List.Sublist.cons_cons _ (List.Sublist.refl _))))))
    refine round_end ((j - 1, zs ++ [xd20], Av28, cv28, ix21, hx22)) ?_ ?_ ?_
    · exact (agree_cons (by kernel_rfl) (agree_eq (v0 := Value.slice Av28 ((List.length zs) + 1) cv28) (by kernel_rfl) (congrArg (fun m => Value.slice Av28 m cv28) (by simp)) (agree_cons (by kernel_rfl) agree_nil)))
    · exact ⟨hC23, (by omega), (by simp; omega), (hS27s1.eqv (by simp))⟩
    · exact (by first | omega | (dsimp only; omega))
  · skip
    have hb14p := of_decide_eq_false hb14
    refine c_false (b := (decide ((0 : Int) < j))) (by kernel_rfl) hb14 ?_
    refine wp_exit ?_
    refine then_x ?_
    refine then_x ?_
    refine blk_hit ?_
    refine then_n ?_
    refine wp_seq ?_
    refine c_reg ?_
    refine q_seg (S := (fun x_ => St w0 x_ (Res.box b [Value.slice A n c, Value.int .i64 ic, Value.int .i64 hc] 71 :: Res.row (Value.slice A2 (List.length zs) c2) 3 1 (List.length zs) (zs.map (Value.int .i64)) :: tl))) [(2, Value.slice A2 (List.length zs) c2), (18, Value.slice A2 (List.length zs) c2)] [.no, .no] True (by kernel_rfl) trivial hS12 ?_
    refine l_nil rfl ?_
    refine then_n ?_
    refine wp_ret ?_
    have hS12s2 : St w0 w12 (Res.box b [Value.slice A n c, Value.int .i64 ic, Value.int .i64 hc] 71 :: Res.row (Value.slice A2 (List.length zs) c2) 3 1 (List.length zs) (zs.map (Value.int .i64)) :: tl) := hS12.front 0 rfl
    have hS12s2s3 : St w0 w12 (Res.row (Value.slice A2 (List.length zs) c2) 3 1 (List.length zs) (zs.map (Value.int .i64)) :: Res.box b [Value.slice A n c, Value.int .i64 ic, Value.int .i64 hc] 71 :: tl) := hS12s2.front 1 rfl
    exact c_end (S := (fun x_ => St w0 x_ (Res.box b [Value.slice A n c, Value.int .i64 ic, Value.int .i64 hc] 71 :: Res.row (Value.slice A2 (List.length zs) c2) 3 1 (List.length zs) (zs.map (Value.int .i64)) :: tl))) (rs := [.tmp 2]) rfl [] (v := Value.slice A2 (List.length zs) c2) (C := True) (by kernel_rfl) trivial hS12 (⟨_, _, rfl, hS12s2s3, ic, hc, zs, A2, c2, rfl, rfl, hCl, (by omega)⟩)
theorem l25Draw_s_c (b : Nat) (A : Option Addr) (n c : Nat) (i h : Int)  (tl : List Res) (w0 w : World) (hS : St w0 w (Res.box b [Value.slice A n c, Value.int .i64 i, Value.int .i64 h] 71 :: tl)) (hC : CurI w0 A n i)  : Calls Try.prog 71 #[.pointer (some ⟨b, 0, none⟩)] w (fun e w' => ∃ v own', e = .returned v ∧ St w0 w' own' ∧ (∃ (i' h' : Int) (W_ : List (Int × List Int)) (W_A : Option Addr) (W_c : Nat) (W_y : List It) (e_ : Bool) (O_ : List (Int × List Int)) (O_A : Option Addr) (O_c : Nat) (O_y : List It), v = Value.agg #[Value.slice W_A (List.length W_) W_c, Value.bool e_, Value.slice O_A (List.length O_) O_c] ∧ own' = (Res.row (Value.slice W_A (List.length W_) W_c) 61 1 (List.length W_) (flat false W_y) :: Res.row (Value.slice O_A (List.length O_) O_c) 61 1 (List.length O_) (flat false O_y) :: Res.box b [Value.slice A n c, Value.int .i64 i', Value.int .i64 h'] 71 :: (((W_y.map (It.row .u8 5)) ++ ((O_y.map (It.row .u8 5)) ++ tl)))) ∧ CurI w0 A n i' ∧ (W_y.map (con false) = W_) ∧ (okL .u8 W_) ∧ (O_y.map (con false) = O_) ∧ (okL .u8 O_) ∧ (wt W_ + wt O_ ≤ 6000))) := by
  obtain ⟨hClo, hChi, hCn, _⟩ := id hC
  refine calls_FA Try.func71 rfl (n := 22) rfl (l := [(0, Value.pointer (some ⟨b, 0, none⟩))]) rfl (by simp) (fun g => ?_)
  refine wp_seq ?_
  refine c_reg ?_
  refine l_op rfl rfl (fun K hK => op_alloc (d := some 2) rfl rfl [Value.slice none 0 0, Value.bool false, Value.slice none 0 0] (by kernel_rfl) hS (fun blk2 w1 hS1 => hK _ _ ?_))
  clear hK K
  refine l_nil rfl ?_
  refine then_n ?_
  refine wp_seq ?_
  refine c_reg ?_
  refine q_seg (S := (fun x_ => St w0 x_ (Res.box blk2 [Value.slice none 0 0, Value.bool false, Value.slice none 0 0] 35 :: Res.box b [Value.slice A n c, Value.int .i64 i, Value.int .i64 h] 71 :: tl))) [(6, Value.pointer (some ⟨b, 0, none⟩))] [.no] True (by kernel_rfl) trivial hS1 ?_
  refine l_op rfl rfl (fun K hK => op_callm (d := some 7) rfl rfl ⟨_, Try.func57, by kernel_rfl, by kernel_rfl⟩ (vs := [Value.pointer (some ⟨b, 0, none⟩), Value.int .i64 5]) (by kernel_rfl) (l25Bodies_s_c b A n c i h (5 : Int) _ w0 w1 (hS1.front 1 rfl) hC (by omega) (by omega)) (fun v4 new5 w3 Rw3 hS3 => ?_))
  obtain ⟨ix7, hx8, ld6, ld6A, ld6c, ld6y, rfl, rfl, hC9, ld6q, ld6o, hf10⟩ := Rw3
  have hS3r : St w0 w3 (Res.row (Value.slice ld6A (List.length ld6) ld6c) 61 1 (List.length ld6) (flat false ld6y) :: Res.box b [Value.slice A n c, Value.int .i64 ix7, Value.int .i64 hx8] 71 :: Res.box blk2 [Value.slice none 0 0, Value.bool false, Value.slice none 0 0] 35 :: ((ld6y.map (It.row .u8 5)) ++ tl)) := St.outB [Res.row (Value.slice ld6A (List.length ld6) ld6c) 61 1 (List.length ld6) (flat false ld6y), Res.box b [Value.slice A n c, Value.int .i64 ix7, Value.int .i64 hx8] 71] [Res.box blk2 [Value.slice none 0 0, Value.bool false, Value.slice none 0 0] 35] [(ld6y.map (It.row .u8 5))] tl hS3
  have ld6w := wt_len ld6
  refine hK _ _ ?_
  clear hK K
  refine q_seg (S := (fun x_ => St w0 x_ (Res.row (Value.slice ld6A (List.length ld6) ld6c) 61 1 (List.length ld6) (flat false ld6y) :: Res.box b [Value.slice A n c, Value.int .i64 ix7, Value.int .i64 hx8] 71 :: Res.box blk2 [Value.slice none 0 0, Value.bool false, Value.slice none 0 0] 35 :: ((ld6y.map (It.row .u8 5)) ++ tl)))) [(3, Value.slice ld6A (List.length ld6) ld6c)] [.no] True (by kernel_rfl) trivial hS3r ?_
  refine l_nil rfl ?_
  refine then_n ?_
  refine wp_seq ?_
  refine c_reg ?_
  refine q_seg (S := (fun x_ => St w0 x_ (Res.row (Value.slice ld6A (List.length ld6) ld6c) 61 1 (List.length ld6) (flat false ld6y) :: Res.box b [Value.slice A n c, Value.int .i64 ix7, Value.int .i64 hx8] 71 :: Res.box blk2 [Value.slice none 0 0, Value.bool false, Value.slice none 0 0] 35 :: ((ld6y.map (It.row .u8 5)) ++ tl)))) [(8, Value.pointer (some ⟨b, 0, none⟩))] [.no] True (by kernel_rfl) trivial hS3r ?_
  refine l_op rfl rfl (fun K hK => op_callm (d := some 9) rfl rfl ⟨_, Try.func57, by kernel_rfl, by kernel_rfl⟩ (vs := [Value.pointer (some ⟨b, 0, none⟩), Value.int .i64 5]) (by kernel_rfl) (l25Bodies_s_c b A n c ix7 hx8 (5 : Int) _ w0 w3 (hS3r.front 1 rfl) hC9 (by omega) (by omega)) (fun v12 new13 w11 Rw11 hS11 => ?_))
  obtain ⟨ix15, hx16, ld14, ld14A, ld14c, ld14y, rfl, rfl, hC17, ld14q, ld14o, hf18⟩ := Rw11
  have hS11r : St w0 w11 (Res.row (Value.slice ld14A (List.length ld14) ld14c) 61 1 (List.length ld14) (flat false ld14y) :: Res.box b [Value.slice A n c, Value.int .i64 ix15, Value.int .i64 hx16] 71 :: Res.row (Value.slice ld6A (List.length ld6) ld6c) 61 1 (List.length ld6) (flat false ld6y) :: Res.box blk2 [Value.slice none 0 0, Value.bool false, Value.slice none 0 0] 35 :: ((ld14y.map (It.row .u8 5)) ++ ((ld6y.map (It.row .u8 5)) ++ tl))) := St.outB [Res.row (Value.slice ld14A (List.length ld14) ld14c) 61 1 (List.length ld14) (flat false ld14y), Res.box b [Value.slice A n c, Value.int .i64 ix15, Value.int .i64 hx16] 71] [Res.row (Value.slice ld6A (List.length ld6) ld6c) 61 1 (List.length ld6) (flat false ld6y), Res.box blk2 [Value.slice none 0 0, Value.bool false, Value.slice none 0 0] 35] [(ld14y.map (It.row .u8 5))] ((ld6y.map (It.row .u8 5)) ++ tl) hS11
  have ld14w := wt_len ld14
  refine hK _ _ ?_
  clear hK K
  refine q_seg (S := (fun x_ => St w0 x_ (Res.row (Value.slice ld14A (List.length ld14) ld14c) 61 1 (List.length ld14) (flat false ld14y) :: Res.box b [Value.slice A n c, Value.int .i64 ix15, Value.int .i64 hx16] 71 :: Res.row (Value.slice ld6A (List.length ld6) ld6c) 61 1 (List.length ld6) (flat false ld6y) :: Res.box blk2 [Value.slice none 0 0, Value.bool false, Value.slice none 0 0] 35 :: ((ld14y.map (It.row .u8 5)) ++ ((ld6y.map (It.row .u8 5)) ++ tl))))) [(4, Value.slice ld14A (List.length ld14) ld14c)] [.no] True (by kernel_rfl) trivial hS11r ?_
  refine l_nil rfl ?_
  refine then_n ?_
  refine wp_seq ?_
  refine c_reg ?_
  refine q_seg (S := (fun x_ => St w0 x_ (Res.row (Value.slice ld14A (List.length ld14) ld14c) 61 1 (List.length ld14) (flat false ld14y) :: Res.box b [Value.slice A n c, Value.int .i64 ix15, Value.int .i64 hx16] 71 :: Res.row (Value.slice ld6A (List.length ld6) ld6c) 61 1 (List.length ld6) (flat false ld6y) :: Res.box blk2 [Value.slice none 0 0, Value.bool false, Value.slice none 0 0] 35 :: ((ld14y.map (It.row .u8 5)) ++ ((ld6y.map (It.row .u8 5)) ++ tl))))) [(12, Value.pointer (some ⟨b, 0, none⟩)), (11, Value.slice ld14A (List.length ld14) ld14c), (10, Value.slice ld6A (List.length ld6) ld6c)] [.no, .no, .no] True (by kernel_rfl) trivial hS11r ?_
  refine l_op rfl rfl (fun K hK => op_callm (d := some 13) rfl rfl ⟨_, Try.func58, by kernel_rfl, by kernel_rfl⟩ (vs := [Value.pointer (some ⟨b, 0, none⟩)]) (by kernel_rfl) (l25Order_s_c b A n c ix15 hx16  _ w0 w11 (hS11r.front 1 rfl) hC17 ) (fun v20 new21 w19 Rw19 hS19 => ?_))
  obtain ⟨ix23, hx24, zd22, zd22A, zd22c, rfl, rfl, hC25, hf26⟩ := Rw19
  refine hK _ _ ?_
  clear hK K
  refine l_op rfl rfl (fun K hK => op_call (d := some 14) rfl rfl ⟨_, Try.func43, by kernel_rfl, by kernel_rfl⟩ (vs := [Value.slice ld6A (List.length ld6) ld6c, Value.slice ld14A (List.length ld14) ld14c, Value.slice zd22A (List.length zd22) zd22c]) (by kernel_rfl) (ReplayHandover_s_c ld6A (List.length ld6) ld6c ld6 ld14A (List.length ld14) ld14c ld14 zd22A (List.length zd22) zd22c zd22 w19 (by omega) (by omega) (by omega) (hS19.rdl (κ := .u8) (p := false) (tb := 5) (ys := ld6y) (List.mem_of_getElem? (i := 3) rfl) (fun y_ hy_ => (List.mem_cons_of_mem _ (List.mem_cons_of_mem _ (List.mem_cons_of_mem _ (List.mem_cons_of_mem _ (List.mem_cons_of_mem _ (List.mem_append_right _ (List.mem_append_left _ (List.mem_map_of_mem hy_))))))))) ld6q ld6o rfl) (hS19.rdl (κ := .u8) (p := false) (tb := 5) (ys := ld14y) (List.mem_of_getElem? (i := 2) rfl) (fun y_ hy_ => (List.mem_cons_of_mem _ (List.mem_cons_of_mem _ (List.mem_cons_of_mem _ (List.mem_cons_of_mem _ (List.mem_cons_of_mem _ (List.mem_append_left _ (List.mem_map_of_mem hy_)))))))) ld14q ld14o rfl) (hS19.rd (List.mem_of_getElem? (i := 0) rfl)).u1) hS19 (fun v29 new30 w27 Rw27 hS27 => hK _ _ ?_))
  clear hK K
  obtain ⟨hrq28a, hrq28b⟩ := rp_ok ld6o ld14o zd22
  have hrq28w := rp_wt ld6 ld14 zd22
  have hrq28c := wt_len (rpW ld6 ld14 zd22)
  have hrq28d := wt_len (rpO ld6 ld14 zd22)
  obtain ⟨Aq31, cq32, yq33, Aq35, cq36, yq37, rfl, rfl, hcq34, hcq38⟩ := Rw27
  have hS27r : St w0 w27 (Res.row (Value.slice Aq31 (List.length (rpW ld6 ld14 zd22)) cq32) 61 1 (List.length (rpW ld6 ld14 zd22)) (flat false yq33) :: Res.row (Value.slice Aq35 (List.length (rpO ld6 ld14 zd22)) cq36) 61 1 (List.length (rpO ld6 ld14 zd22)) (flat false yq37) :: Res.row (Value.slice zd22A (List.length zd22) zd22c) 3 1 (List.length zd22) (zd22.map (Value.int .i64)) :: Res.box b [Value.slice A n c, Value.int .i64 ix23, Value.int .i64 hx24] 71 :: Res.row (Value.slice ld14A (List.length ld14) ld14c) 61 1 (List.length ld14) (flat false ld14y) :: Res.row (Value.slice ld6A (List.length ld6) ld6c) 61 1 (List.length ld6) (flat false ld6y) :: Res.box blk2 [Value.slice none 0 0, Value.bool false, Value.slice none 0 0] 35 :: ((yq33.map (It.row .u8 5)) ++ ((yq37.map (It.row .u8 5)) ++ ((ld14y.map (It.row .u8 5)) ++ ((ld6y.map (It.row .u8 5)) ++ tl))))) := St.rot_2 [Res.row (Value.slice Aq31 (List.length (rpW ld6 ld14 zd22)) cq32) 61 1 (List.length (rpW ld6 ld14 zd22)) (flat false yq33), Res.row (Value.slice Aq35 (List.length (rpO ld6 ld14 zd22)) cq36) 61 1 (List.length (rpO ld6 ld14 zd22)) (flat false yq37)] [Res.row (Value.slice zd22A (List.length zd22) zd22c) 3 1 (List.length zd22) (zd22.map (Value.int .i64)), Res.box b [Value.slice A n c, Value.int .i64 ix23, Value.int .i64 hx24] 71, Res.row (Value.slice ld14A (List.length ld14) ld14c) 61 1 (List.length ld14) (flat false ld14y), Res.row (Value.slice ld6A (List.length ld6) ld6c) 61 1 (List.length ld6) (flat false ld6y), Res.box blk2 [Value.slice none 0 0, Value.bool false, Value.slice none 0 0] 35] ((ld14y.map (It.row .u8 5)) ++ ((ld6y.map (It.row .u8 5)) ++ tl)) (yq33.map (It.row .u8 5)) (yq37.map (It.row .u8 5)) hS27
  refine l_op rfl rfl (fun K hK => op_alloc (d := some 5) rfl rfl [Value.slice none 0 0, Value.bool false, Value.slice none 0 0] (by kernel_rfl) hS27r (fun blk40 w39 hS39 => hK _ _ ?_))
  clear hK K
  refine l_op rfl rfl (fun K hK => op_store (d := none) rfl rfl (i := 0) (b := blk40) (off := 0) (cs := [Value.slice none 0 0, Value.bool false, Value.slice none 0 0]) (bt := 35) (by kernel_rfl) (by kernel_rfl) [Value.slice Aq31 (List.length (rpW ld6 ld14 zd22)) cq32, Value.bool (rpE ld6 ld14 zd22), Value.slice Aq35 (List.length (rpO ld6 ld14 zd22)) cq36] (by kernel_rfl) (by kernel_rfl) (Nat.le_of_ble_eq_true (by kernel_rfl)) (by kernel_rfl) (Res.box blk40 [Value.slice Aq31 (List.length (rpW ld6 ld14 zd22)) cq32, Value.bool (rpE ld6 ld14 zd22), Value.slice Aq35 (List.length (rpO ld6 ld14 zd22)) cq36] 35 :: Res.row (Value.slice Aq31 (List.length (rpW ld6 ld14 zd22)) cq32) 61 1 (List.length (rpW ld6 ld14 zd22)) (flat false yq33) :: Res.row (Value.slice Aq35 (List.length (rpO ld6 ld14 zd22)) cq36) 61 1 (List.length (rpO ld6 ld14 zd22)) (flat false yq37) :: Res.row (Value.slice zd22A (List.length zd22) zd22c) 3 1 (List.length zd22) (zd22.map (Value.int .i64)) :: Res.box b [Value.slice A n c, Value.int .i64 ix23, Value.int .i64 hx24] 71 :: Res.row (Value.slice ld14A (List.length ld14) ld14c) 61 1 (List.length ld14) (flat false ld14y) :: Res.row (Value.slice ld6A (List.length ld6) ld6c) 61 1 (List.length ld6) (flat false ld6y) :: Res.box blk2 [Value.slice none 0 0, Value.bool false, Value.slice none 0 0] 35 :: ((yq33.map (It.row .u8 5)) ++ ((yq37.map (It.row .u8 5)) ++ ((ld14y.map (It.row .u8 5)) ++ ((ld6y.map (It.row .u8 5)) ++ tl))))) (by kernel_rfl) hS39 (fun w41 hS41 => hK _ _ ?_))
  clear hK K
  refine l_nil rfl ?_
  refine then_n ?_
  refine wp_seq ?_
  refine wp_seq ?_
  refine c_reg ?_
  refine q_seg (S := (fun x_ => St w0 x_ (Res.box blk40 [Value.slice Aq31 (List.length (rpW ld6 ld14 zd22)) cq32, Value.bool (rpE ld6 ld14 zd22), Value.slice Aq35 (List.length (rpO ld6 ld14 zd22)) cq36] 35 :: Res.row (Value.slice Aq31 (List.length (rpW ld6 ld14 zd22)) cq32) 61 1 (List.length (rpW ld6 ld14 zd22)) (flat false yq33) :: Res.row (Value.slice Aq35 (List.length (rpO ld6 ld14 zd22)) cq36) 61 1 (List.length (rpO ld6 ld14 zd22)) (flat false yq37) :: Res.row (Value.slice zd22A (List.length zd22) zd22c) 3 1 (List.length zd22) (zd22.map (Value.int .i64)) :: Res.box b [Value.slice A n c, Value.int .i64 ix23, Value.int .i64 hx24] 71 :: Res.row (Value.slice ld14A (List.length ld14) ld14c) 61 1 (List.length ld14) (flat false ld14y) :: Res.row (Value.slice ld6A (List.length ld6) ld6c) 61 1 (List.length ld6) (flat false ld6y) :: Res.box blk2 [Value.slice none 0 0, Value.bool false, Value.slice none 0 0] 35 :: ((yq33.map (It.row .u8 5)) ++ ((yq37.map (It.row .u8 5)) ++ ((ld14y.map (It.row .u8 5)) ++ ((ld6y.map (It.row .u8 5)) ++ tl))))))) [(15, Value.pointer (some ⟨b, 0, none⟩))] [.no] True (by kernel_rfl) trivial hS41 ?_
  refine l_op rfl rfl (fun K hK => op_callm (d := some 16) rfl rfl ⟨_, Try.func73, by kernel_rfl, by kernel_rfl⟩ (vs := [Value.pointer (some ⟨b, 0, none⟩), Value.int .i64 10]) (by kernel_rfl) (l1Once_s_c b A n c ix23 hx24 (10 : Int) _ w0 w41 (hS41.front 4 rfl) hC25 (by omega)) (fun v43 new44 w42 Rw42 hS42 => ?_))
  obtain ⟨ix46, hx47, ed45, rfl, rfl, hC48⟩ := Rw42
  refine hK _ _ ?_
  clear hK K
  refine l_nil rfl ?_
  refine then_n ?_
  rcases Bool.eq_false_or_eq_true (ed45) with hb49 | hb49
  · skip
    refine c_true (b := ed45) (by kernel_rfl) hb49 ?_
    refine c_reg ?_
    refine q_seg (S := (fun x_ => St w0 x_ (Res.box b [Value.slice A n c, Value.int .i64 ix46, Value.int .i64 hx47] 71 :: Res.box blk40 [Value.slice Aq31 (List.length (rpW ld6 ld14 zd22)) cq32, Value.bool (rpE ld6 ld14 zd22), Value.slice Aq35 (List.length (rpO ld6 ld14 zd22)) cq36] 35 :: Res.row (Value.slice Aq31 (List.length (rpW ld6 ld14 zd22)) cq32) 61 1 (List.length (rpW ld6 ld14 zd22)) (flat false yq33) :: Res.row (Value.slice Aq35 (List.length (rpO ld6 ld14 zd22)) cq36) 61 1 (List.length (rpO ld6 ld14 zd22)) (flat false yq37) :: Res.row (Value.slice zd22A (List.length zd22) zd22c) 3 1 (List.length zd22) (zd22.map (Value.int .i64)) :: Res.row (Value.slice ld14A (List.length ld14) ld14c) 61 1 (List.length ld14) (flat false ld14y) :: Res.row (Value.slice ld6A (List.length ld6) ld6c) 61 1 (List.length ld6) (flat false ld6y) :: Res.box blk2 [Value.slice none 0 0, Value.bool false, Value.slice none 0 0] 35 :: ((yq33.map (It.row .u8 5)) ++ ((yq37.map (It.row .u8 5)) ++ ((ld14y.map (It.row .u8 5)) ++ ((ld6y.map (It.row .u8 5)) ++ tl))))))) [(20, Value.pointer (some ⟨blk40, 0 + 1, none⟩)), (19, Value.bool (!((rpE ld6 ld14 zd22)))), (18, Value.bool (rpE ld6 ld14 zd22)), (17, Value.pointer (some ⟨blk40, 0 + 1, none⟩))] [.no, .v (Value.bool (rpE ld6 ld14 zd22)), .no, .no] ((LoadsAt Try.prog (fun x_ => St w0 x_ (Res.box b [Value.slice A n c, Value.int .i64 ix46, Value.int .i64 hx47] 71 :: Res.box blk40 [Value.slice Aq31 (List.length (rpW ld6 ld14 zd22)) cq32, Value.bool (rpE ld6 ld14 zd22), Value.slice Aq35 (List.length (rpO ld6 ld14 zd22)) cq36] 35 :: Res.row (Value.slice Aq31 (List.length (rpW ld6 ld14 zd22)) cq32) 61 1 (List.length (rpW ld6 ld14 zd22)) (flat false yq33) :: Res.row (Value.slice Aq35 (List.length (rpO ld6 ld14 zd22)) cq36) 61 1 (List.length (rpO ld6 ld14 zd22)) (flat false yq37) :: Res.row (Value.slice zd22A (List.length zd22) zd22c) 3 1 (List.length zd22) (zd22.map (Value.int .i64)) :: Res.row (Value.slice ld14A (List.length ld14) ld14c) 61 1 (List.length ld14) (flat false ld14y) :: Res.row (Value.slice ld6A (List.length ld6) ld6c) 61 1 (List.length ld6) (flat false ld6y) :: Res.box blk2 [Value.slice none 0 0, Value.bool false, Value.slice none 0 0] 35 :: ((yq33.map (It.row .u8 5)) ++ ((yq37.map (It.row .u8 5)) ++ ((ld14y.map (It.row .u8 5)) ++ ((ld6y.map (It.row .u8 5)) ++ tl)))))) 4 ⟨blk40, 0 + 1, none⟩ (Value.bool (rpE ld6 ld14 zd22)))) (by kernel_rfl) (ld_box (i := 1) rfl rfl (by kernel_rfl)) hS42 ?_
    refine l_op rfl rfl (fun K hK => op_store (d := none) rfl rfl (i := 1) (b := blk40) (off := 0 + 1) (cs := [Value.slice Aq31 (List.length (rpW ld6 ld14 zd22)) cq32, Value.bool (rpE ld6 ld14 zd22), Value.slice Aq35 (List.length (rpO ld6 ld14 zd22)) cq36]) (bt := 35) (by kernel_rfl) (by kernel_rfl) [Value.bool (!((rpE ld6 ld14 zd22)))] (by kernel_rfl) (by kernel_rfl) (Nat.le_of_ble_eq_true (by kernel_rfl)) (by kernel_rfl) (Res.box b [Value.slice A n c, Value.int .i64 ix46, Value.int .i64 hx47] 71 :: Res.box blk40 [Value.slice Aq31 (List.length (rpW ld6 ld14 zd22)) cq32, Value.bool (!((rpE ld6 ld14 zd22))), Value.slice Aq35 (List.length (rpO ld6 ld14 zd22)) cq36] 35 :: Res.row (Value.slice Aq31 (List.length (rpW ld6 ld14 zd22)) cq32) 61 1 (List.length (rpW ld6 ld14 zd22)) (flat false yq33) :: Res.row (Value.slice Aq35 (List.length (rpO ld6 ld14 zd22)) cq36) 61 1 (List.length (rpO ld6 ld14 zd22)) (flat false yq37) :: Res.row (Value.slice zd22A (List.length zd22) zd22c) 3 1 (List.length zd22) (zd22.map (Value.int .i64)) :: Res.row (Value.slice ld14A (List.length ld14) ld14c) 61 1 (List.length ld14) (flat false ld14y) :: Res.row (Value.slice ld6A (List.length ld6) ld6c) 61 1 (List.length ld6) (flat false ld6y) :: Res.box blk2 [Value.slice none 0 0, Value.bool false, Value.slice none 0 0] 35 :: ((yq33.map (It.row .u8 5)) ++ ((yq37.map (It.row .u8 5)) ++ ((ld14y.map (It.row .u8 5)) ++ ((ld6y.map (It.row .u8 5)) ++ tl))))) (by kernel_rfl) hS42 (fun w50 hS50 => hK _ _ ?_))
    clear hK K
    refine l_nil rfl ?_
    refine then_n ?_
    refine wp_seq ?_
    refine c_reg ?_
    refine q_seg (S := (fun x_ => St w0 x_ (Res.box b [Value.slice A n c, Value.int .i64 ix46, Value.int .i64 hx47] 71 :: Res.box blk40 [Value.slice Aq31 (List.length (rpW ld6 ld14 zd22)) cq32, Value.bool (!((rpE ld6 ld14 zd22))), Value.slice Aq35 (List.length (rpO ld6 ld14 zd22)) cq36] 35 :: Res.row (Value.slice Aq31 (List.length (rpW ld6 ld14 zd22)) cq32) 61 1 (List.length (rpW ld6 ld14 zd22)) (flat false yq33) :: Res.row (Value.slice Aq35 (List.length (rpO ld6 ld14 zd22)) cq36) 61 1 (List.length (rpO ld6 ld14 zd22)) (flat false yq37) :: Res.row (Value.slice zd22A (List.length zd22) zd22c) 3 1 (List.length zd22) (zd22.map (Value.int .i64)) :: Res.row (Value.slice ld14A (List.length ld14) ld14c) 61 1 (List.length ld14) (flat false ld14y) :: Res.row (Value.slice ld6A (List.length ld6) ld6c) 61 1 (List.length ld6) (flat false ld6y) :: Res.box blk2 [Value.slice none 0 0, Value.bool false, Value.slice none 0 0] 35 :: ((yq33.map (It.row .u8 5)) ++ ((yq37.map (It.row .u8 5)) ++ ((ld14y.map (It.row .u8 5)) ++ ((ld6y.map (It.row .u8 5)) ++ tl))))))) [(21, Value.agg #[Value.slice Aq31 (List.length (rpW ld6 ld14 zd22)) cq32, Value.bool (!((rpE ld6 ld14 zd22))), Value.slice Aq35 (List.length (rpO ld6 ld14 zd22)) cq36])] [.v (Value.agg #[Value.slice Aq31 (List.length (rpW ld6 ld14 zd22)) cq32, Value.bool (!((rpE ld6 ld14 zd22))), Value.slice Aq35 (List.length (rpO ld6 ld14 zd22)) cq36])] ((LoadsAt Try.prog (fun x_ => St w0 x_ (Res.box b [Value.slice A n c, Value.int .i64 ix46, Value.int .i64 hx47] 71 :: Res.box blk40 [Value.slice Aq31 (List.length (rpW ld6 ld14 zd22)) cq32, Value.bool (!((rpE ld6 ld14 zd22))), Value.slice Aq35 (List.length (rpO ld6 ld14 zd22)) cq36] 35 :: Res.row (Value.slice Aq31 (List.length (rpW ld6 ld14 zd22)) cq32) 61 1 (List.length (rpW ld6 ld14 zd22)) (flat false yq33) :: Res.row (Value.slice Aq35 (List.length (rpO ld6 ld14 zd22)) cq36) 61 1 (List.length (rpO ld6 ld14 zd22)) (flat false yq37) :: Res.row (Value.slice zd22A (List.length zd22) zd22c) 3 1 (List.length zd22) (zd22.map (Value.int .i64)) :: Res.row (Value.slice ld14A (List.length ld14) ld14c) 61 1 (List.length ld14) (flat false ld14y) :: Res.row (Value.slice ld6A (List.length ld6) ld6c) 61 1 (List.length ld6) (flat false ld6y) :: Res.box blk2 [Value.slice none 0 0, Value.bool false, Value.slice none 0 0] 35 :: ((yq33.map (It.row .u8 5)) ++ ((yq37.map (It.row .u8 5)) ++ ((ld14y.map (It.row .u8 5)) ++ ((ld6y.map (It.row .u8 5)) ++ tl)))))) 35 ⟨blk40, 0, none⟩ (Value.agg #[Value.slice Aq31 (List.length (rpW ld6 ld14 zd22)) cq32, Value.bool (!((rpE ld6 ld14 zd22))), Value.slice Aq35 (List.length (rpO ld6 ld14 zd22)) cq36]))) (by kernel_rfl) (ld_boxN (i := 1) (k := 3) rfl rfl rfl (by kernel_rfl)) hS50 ?_
    refine l_op rfl rfl (fun K hK => op_store (d := none) rfl rfl (i := 7) (b := blk2) (off := 0) (cs := [Value.slice none 0 0, Value.bool false, Value.slice none 0 0]) (bt := 35) (by kernel_rfl) (by kernel_rfl) [Value.slice Aq31 (List.length (rpW ld6 ld14 zd22)) cq32, Value.bool (!((rpE ld6 ld14 zd22))), Value.slice Aq35 (List.length (rpO ld6 ld14 zd22)) cq36] (by kernel_rfl) (by kernel_rfl) (Nat.le_of_ble_eq_true (by kernel_rfl)) (by kernel_rfl) (Res.box b [Value.slice A n c, Value.int .i64 ix46, Value.int .i64 hx47] 71 :: Res.box blk40 [Value.slice Aq31 (List.length (rpW ld6 ld14 zd22)) cq32, Value.bool (!((rpE ld6 ld14 zd22))), Value.slice Aq35 (List.length (rpO ld6 ld14 zd22)) cq36] 35 :: Res.row (Value.slice Aq31 (List.length (rpW ld6 ld14 zd22)) cq32) 61 1 (List.length (rpW ld6 ld14 zd22)) (flat false yq33) :: Res.row (Value.slice Aq35 (List.length (rpO ld6 ld14 zd22)) cq36) 61 1 (List.length (rpO ld6 ld14 zd22)) (flat false yq37) :: Res.row (Value.slice zd22A (List.length zd22) zd22c) 3 1 (List.length zd22) (zd22.map (Value.int .i64)) :: Res.row (Value.slice ld14A (List.length ld14) ld14c) 61 1 (List.length ld14) (flat false ld14y) :: Res.row (Value.slice ld6A (List.length ld6) ld6c) 61 1 (List.length ld6) (flat false ld6y) :: Res.box blk2 [Value.slice Aq31 (List.length (rpW ld6 ld14 zd22)) cq32, Value.bool (!((rpE ld6 ld14 zd22))), Value.slice Aq35 (List.length (rpO ld6 ld14 zd22)) cq36] 35 :: ((yq33.map (It.row .u8 5)) ++ ((yq37.map (It.row .u8 5)) ++ ((ld14y.map (It.row .u8 5)) ++ ((ld6y.map (It.row .u8 5)) ++ tl))))) (by kernel_rfl) hS50 (fun w51 hS51 => hK _ _ ?_))
    clear hK K
    refine l_nil rfl ?_
    refine then_n ?_
    refine wp_ret ?_
    have hS51s1 : St w0 w51 (Res.box b [Value.slice A n c, Value.int .i64 ix46, Value.int .i64 hx47] 71 :: Res.row (Value.slice Aq31 (List.length (rpW ld6 ld14 zd22)) cq32) 61 1 (List.length (rpW ld6 ld14 zd22)) (flat false yq33) :: Res.row (Value.slice Aq35 (List.length (rpO ld6 ld14 zd22)) cq36) 61 1 (List.length (rpO ld6 ld14 zd22)) (flat false yq37) :: ((yq33.map (It.row .u8 5)) ++ ((yq37.map (It.row .u8 5)) ++ tl))) := (hS51.sub (List.Sublist.cons_cons _ (List.Sublist.cons _ (List.Sublist.cons_cons _ (List.Sublist.cons_cons _ (List.Sublist.cons _ (List.Sublist.cons _ (List.Sublist.cons _ (List.Sublist.cons _ (List.Sublist.append (List.Sublist.refl _) (List.Sublist.append (List.Sublist.refl _) (List.Sublist.trans (List.Sublist.trans (List.Sublist.refl _) (List.sublist_append_right _ _)) (List.sublist_append_right _ _)))))))))))))
    have hS51s1s2 : St w0 w51 (Res.box b [Value.slice A n c, Value.int .i64 ix46, Value.int .i64 hx47] 71 :: Res.row (Value.slice Aq31 (List.length (rpW ld6 ld14 zd22)) cq32) 61 1 (List.length (rpW ld6 ld14 zd22)) (flat false yq33) :: Res.row (Value.slice Aq35 (List.length (rpO ld6 ld14 zd22)) cq36) 61 1 (List.length (rpO ld6 ld14 zd22)) (flat false yq37) :: ((yq33.map (It.row .u8 5)) ++ ((yq37.map (It.row .u8 5)) ++ tl))) := hS51s1.front 0 rfl
    have hS51s1s2s3 : St w0 w51 (Res.row (Value.slice Aq35 (List.length (rpO ld6 ld14 zd22)) cq36) 61 1 (List.length (rpO ld6 ld14 zd22)) (flat false yq37) :: Res.box b [Value.slice A n c, Value.int .i64 ix46, Value.int .i64 hx47] 71 :: Res.row (Value.slice Aq31 (List.length (rpW ld6 ld14 zd22)) cq32) 61 1 (List.length (rpW ld6 ld14 zd22)) (flat false yq33) :: ((yq33.map (It.row .u8 5)) ++ ((yq37.map (It.row .u8 5)) ++ tl))) := hS51s1s2.front 2 rfl
    have hS51s1s2s3s4 : St w0 w51 (Res.row (Value.slice Aq31 (List.length (rpW ld6 ld14 zd22)) cq32) 61 1 (List.length (rpW ld6 ld14 zd22)) (flat false yq33) :: Res.row (Value.slice Aq35 (List.length (rpO ld6 ld14 zd22)) cq36) 61 1 (List.length (rpO ld6 ld14 zd22)) (flat false yq37) :: Res.box b [Value.slice A n c, Value.int .i64 ix46, Value.int .i64 hx47] 71 :: ((yq33.map (It.row .u8 5)) ++ ((yq37.map (It.row .u8 5)) ++ tl))) := hS51s1s2s3.front 2 rfl
    have hSo := St.inB [Res.row (Value.slice Aq31 (List.length (rpW ld6 ld14 zd22)) cq32) 61 1 (List.length (rpW ld6 ld14 zd22)) (flat false yq33), Res.row (Value.slice Aq35 (List.length (rpO ld6 ld14 zd22)) cq36) 61 1 (List.length (rpO ld6 ld14 zd22)) (flat false yq37), Res.box b [Value.slice A n c, Value.int .i64 ix46, Value.int .i64 hx47] 71] [] [(yq33.map (It.row .u8 5)), (yq37.map (It.row .u8 5))] tl hS51s1s2s3s4
    exact c_end (S := (fun x_ => St w0 x_ (Res.box b [Value.slice A n c, Value.int .i64 ix46, Value.int .i64 hx47] 71 :: Res.box blk40 [Value.slice Aq31 (List.length (rpW ld6 ld14 zd22)) cq32, Value.bool (!((rpE ld6 ld14 zd22))), Value.slice Aq35 (List.length (rpO ld6 ld14 zd22)) cq36] 35 :: Res.row (Value.slice Aq31 (List.length (rpW ld6 ld14 zd22)) cq32) 61 1 (List.length (rpW ld6 ld14 zd22)) (flat false yq33) :: Res.row (Value.slice Aq35 (List.length (rpO ld6 ld14 zd22)) cq36) 61 1 (List.length (rpO ld6 ld14 zd22)) (flat false yq37) :: Res.row (Value.slice zd22A (List.length zd22) zd22c) 3 1 (List.length zd22) (zd22.map (Value.int .i64)) :: Res.row (Value.slice ld14A (List.length ld14) ld14c) 61 1 (List.length ld14) (flat false ld14y) :: Res.row (Value.slice ld6A (List.length ld6) ld6c) 61 1 (List.length ld6) (flat false ld6y) :: Res.box blk2 [Value.slice Aq31 (List.length (rpW ld6 ld14 zd22)) cq32, Value.bool (!((rpE ld6 ld14 zd22))), Value.slice Aq35 (List.length (rpO ld6 ld14 zd22)) cq36] 35 :: ((yq33.map (It.row .u8 5)) ++ ((yq37.map (It.row .u8 5)) ++ ((ld14y.map (It.row .u8 5)) ++ ((ld6y.map (It.row .u8 5)) ++ tl))))))) (rs := [.cell 2 35]) rfl [Value.agg #[Value.slice Aq31 (List.length (rpW ld6 ld14 zd22)) cq32, Value.bool (!((rpE ld6 ld14 zd22))), Value.slice Aq35 (List.length (rpO ld6 ld14 zd22)) cq36]] (v := Value.agg #[Value.slice Aq31 (List.length (rpW ld6 ld14 zd22)) cq32, Value.bool (!((rpE ld6 ld14 zd22))), Value.slice Aq35 (List.length (rpO ld6 ld14 zd22)) cq36]) (C := ((LoadsAt Try.prog (fun x_ => St w0 x_ (Res.box b [Value.slice A n c, Value.int .i64 ix46, Value.int .i64 hx47] 71 :: Res.box blk40 [Value.slice Aq31 (List.length (rpW ld6 ld14 zd22)) cq32, Value.bool (!((rpE ld6 ld14 zd22))), Value.slice Aq35 (List.length (rpO ld6 ld14 zd22)) cq36] 35 :: Res.row (Value.slice Aq31 (List.length (rpW ld6 ld14 zd22)) cq32) 61 1 (List.length (rpW ld6 ld14 zd22)) (flat false yq33) :: Res.row (Value.slice Aq35 (List.length (rpO ld6 ld14 zd22)) cq36) 61 1 (List.length (rpO ld6 ld14 zd22)) (flat false yq37) :: Res.row (Value.slice zd22A (List.length zd22) zd22c) 3 1 (List.length zd22) (zd22.map (Value.int .i64)) :: Res.row (Value.slice ld14A (List.length ld14) ld14c) 61 1 (List.length ld14) (flat false ld14y) :: Res.row (Value.slice ld6A (List.length ld6) ld6c) 61 1 (List.length ld6) (flat false ld6y) :: Res.box blk2 [Value.slice Aq31 (List.length (rpW ld6 ld14 zd22)) cq32, Value.bool (!((rpE ld6 ld14 zd22))), Value.slice Aq35 (List.length (rpO ld6 ld14 zd22)) cq36] 35 :: ((yq33.map (It.row .u8 5)) ++ ((yq37.map (It.row .u8 5)) ++ ((ld14y.map (It.row .u8 5)) ++ ((ld6y.map (It.row .u8 5)) ++ tl)))))) 35 ⟨blk2, 0, none⟩ (Value.agg #[Value.slice Aq31 (List.length (rpW ld6 ld14 zd22)) cq32, Value.bool (!((rpE ld6 ld14 zd22))), Value.slice Aq35 (List.length (rpO ld6 ld14 zd22)) cq36])))) (by kernel_rfl) (ld_boxN (i := 7) (k := 3) rfl rfl rfl (by kernel_rfl)) hS51 (⟨_, _, rfl, hSo, ix46, hx47, (rpW ld6 ld14 zd22), Aq31, cq32, yq33, (!((rpE ld6 ld14 zd22))), (rpO ld6 ld14 zd22), Aq35, cq36, yq37, rfl, rfl, hC48, hcq34, hrq28a, hcq38, hrq28b, (by omega)⟩)
  · skip
    refine c_false (b := ed45) (by kernel_rfl) hb49 ?_
    refine wp_skip ?_
    refine then_n ?_
    refine wp_seq ?_
    refine c_reg ?_
    refine q_seg (S := (fun x_ => St w0 x_ (Res.box b [Value.slice A n c, Value.int .i64 ix46, Value.int .i64 hx47] 71 :: Res.box blk40 [Value.slice Aq31 (List.length (rpW ld6 ld14 zd22)) cq32, Value.bool (rpE ld6 ld14 zd22), Value.slice Aq35 (List.length (rpO ld6 ld14 zd22)) cq36] 35 :: Res.row (Value.slice Aq31 (List.length (rpW ld6 ld14 zd22)) cq32) 61 1 (List.length (rpW ld6 ld14 zd22)) (flat false yq33) :: Res.row (Value.slice Aq35 (List.length (rpO ld6 ld14 zd22)) cq36) 61 1 (List.length (rpO ld6 ld14 zd22)) (flat false yq37) :: Res.row (Value.slice zd22A (List.length zd22) zd22c) 3 1 (List.length zd22) (zd22.map (Value.int .i64)) :: Res.row (Value.slice ld14A (List.length ld14) ld14c) 61 1 (List.length ld14) (flat false ld14y) :: Res.row (Value.slice ld6A (List.length ld6) ld6c) 61 1 (List.length ld6) (flat false ld6y) :: Res.box blk2 [Value.slice none 0 0, Value.bool false, Value.slice none 0 0] 35 :: ((yq33.map (It.row .u8 5)) ++ ((yq37.map (It.row .u8 5)) ++ ((ld14y.map (It.row .u8 5)) ++ ((ld6y.map (It.row .u8 5)) ++ tl))))))) [(21, Value.agg #[Value.slice Aq31 (List.length (rpW ld6 ld14 zd22)) cq32, Value.bool (rpE ld6 ld14 zd22), Value.slice Aq35 (List.length (rpO ld6 ld14 zd22)) cq36])] [.v (Value.agg #[Value.slice Aq31 (List.length (rpW ld6 ld14 zd22)) cq32, Value.bool (rpE ld6 ld14 zd22), Value.slice Aq35 (List.length (rpO ld6 ld14 zd22)) cq36])] ((LoadsAt Try.prog (fun x_ => St w0 x_ (Res.box b [Value.slice A n c, Value.int .i64 ix46, Value.int .i64 hx47] 71 :: Res.box blk40 [Value.slice Aq31 (List.length (rpW ld6 ld14 zd22)) cq32, Value.bool (rpE ld6 ld14 zd22), Value.slice Aq35 (List.length (rpO ld6 ld14 zd22)) cq36] 35 :: Res.row (Value.slice Aq31 (List.length (rpW ld6 ld14 zd22)) cq32) 61 1 (List.length (rpW ld6 ld14 zd22)) (flat false yq33) :: Res.row (Value.slice Aq35 (List.length (rpO ld6 ld14 zd22)) cq36) 61 1 (List.length (rpO ld6 ld14 zd22)) (flat false yq37) :: Res.row (Value.slice zd22A (List.length zd22) zd22c) 3 1 (List.length zd22) (zd22.map (Value.int .i64)) :: Res.row (Value.slice ld14A (List.length ld14) ld14c) 61 1 (List.length ld14) (flat false ld14y) :: Res.row (Value.slice ld6A (List.length ld6) ld6c) 61 1 (List.length ld6) (flat false ld6y) :: Res.box blk2 [Value.slice none 0 0, Value.bool false, Value.slice none 0 0] 35 :: ((yq33.map (It.row .u8 5)) ++ ((yq37.map (It.row .u8 5)) ++ ((ld14y.map (It.row .u8 5)) ++ ((ld6y.map (It.row .u8 5)) ++ tl)))))) 35 ⟨blk40, 0, none⟩ (Value.agg #[Value.slice Aq31 (List.length (rpW ld6 ld14 zd22)) cq32, Value.bool (rpE ld6 ld14 zd22), Value.slice Aq35 (List.length (rpO ld6 ld14 zd22)) cq36]))) (by kernel_rfl) (ld_boxN (i := 1) (k := 3) rfl rfl rfl (by kernel_rfl)) hS42 ?_
    refine l_op rfl rfl (fun K hK => op_store (d := none) rfl rfl (i := 7) (b := blk2) (off := 0) (cs := [Value.slice none 0 0, Value.bool false, Value.slice none 0 0]) (bt := 35) (by kernel_rfl) (by kernel_rfl) [Value.slice Aq31 (List.length (rpW ld6 ld14 zd22)) cq32, Value.bool (rpE ld6 ld14 zd22), Value.slice Aq35 (List.length (rpO ld6 ld14 zd22)) cq36] (by kernel_rfl) (by kernel_rfl) (Nat.le_of_ble_eq_true (by kernel_rfl)) (by kernel_rfl) (Res.box b [Value.slice A n c, Value.int .i64 ix46, Value.int .i64 hx47] 71 :: Res.box blk40 [Value.slice Aq31 (List.length (rpW ld6 ld14 zd22)) cq32, Value.bool (rpE ld6 ld14 zd22), Value.slice Aq35 (List.length (rpO ld6 ld14 zd22)) cq36] 35 :: Res.row (Value.slice Aq31 (List.length (rpW ld6 ld14 zd22)) cq32) 61 1 (List.length (rpW ld6 ld14 zd22)) (flat false yq33) :: Res.row (Value.slice Aq35 (List.length (rpO ld6 ld14 zd22)) cq36) 61 1 (List.length (rpO ld6 ld14 zd22)) (flat false yq37) :: Res.row (Value.slice zd22A (List.length zd22) zd22c) 3 1 (List.length zd22) (zd22.map (Value.int .i64)) :: Res.row (Value.slice ld14A (List.length ld14) ld14c) 61 1 (List.length ld14) (flat false ld14y) :: Res.row (Value.slice ld6A (List.length ld6) ld6c) 61 1 (List.length ld6) (flat false ld6y) :: Res.box blk2 [Value.slice Aq31 (List.length (rpW ld6 ld14 zd22)) cq32, Value.bool (rpE ld6 ld14 zd22), Value.slice Aq35 (List.length (rpO ld6 ld14 zd22)) cq36] 35 :: ((yq33.map (It.row .u8 5)) ++ ((yq37.map (It.row .u8 5)) ++ ((ld14y.map (It.row .u8 5)) ++ ((ld6y.map (It.row .u8 5)) ++ tl))))) (by kernel_rfl) hS42 (fun w52 hS52 => hK _ _ ?_))
    clear hK K
    refine l_nil rfl ?_
    refine then_n ?_
    refine wp_ret ?_
    have hS52s5 : St w0 w52 (Res.box b [Value.slice A n c, Value.int .i64 ix46, Value.int .i64 hx47] 71 :: Res.row (Value.slice Aq31 (List.length (rpW ld6 ld14 zd22)) cq32) 61 1 (List.length (rpW ld6 ld14 zd22)) (flat false yq33) :: Res.row (Value.slice Aq35 (List.length (rpO ld6 ld14 zd22)) cq36) 61 1 (List.length (rpO ld6 ld14 zd22)) (flat false yq37) :: ((yq33.map (It.row .u8 5)) ++ ((yq37.map (It.row .u8 5)) ++ tl))) := (hS52.sub (List.Sublist.cons_cons _ (List.Sublist.cons _ (List.Sublist.cons_cons _ (List.Sublist.cons_cons _ (List.Sublist.cons _ (List.Sublist.cons _ (List.Sublist.cons _ (List.Sublist.cons _ (List.Sublist.append (List.Sublist.refl _) (List.Sublist.append (List.Sublist.refl _) (List.Sublist.trans (List.Sublist.trans (List.Sublist.refl _) (List.sublist_append_right _ _)) (List.sublist_append_right _ _)))))))))))))
    have hS52s5s6 : St w0 w52 (Res.box b [Value.slice A n c, Value.int .i64 ix46, Value.int .i64 hx47] 71 :: Res.row (Value.slice Aq31 (List.length (rpW ld6 ld14 zd22)) cq32) 61 1 (List.length (rpW ld6 ld14 zd22)) (flat false yq33) :: Res.row (Value.slice Aq35 (List.length (rpO ld6 ld14 zd22)) cq36) 61 1 (List.length (rpO ld6 ld14 zd22)) (flat false yq37) :: ((yq33.map (It.row .u8 5)) ++ ((yq37.map (It.row .u8 5)) ++ tl))) := hS52s5.front 0 rfl
    have hS52s5s6s7 : St w0 w52 (Res.row (Value.slice Aq35 (List.length (rpO ld6 ld14 zd22)) cq36) 61 1 (List.length (rpO ld6 ld14 zd22)) (flat false yq37) :: Res.box b [Value.slice A n c, Value.int .i64 ix46, Value.int .i64 hx47] 71 :: Res.row (Value.slice Aq31 (List.length (rpW ld6 ld14 zd22)) cq32) 61 1 (List.length (rpW ld6 ld14 zd22)) (flat false yq33) :: ((yq33.map (It.row .u8 5)) ++ ((yq37.map (It.row .u8 5)) ++ tl))) := hS52s5s6.front 2 rfl
    have hS52s5s6s7s8 : St w0 w52 (Res.row (Value.slice Aq31 (List.length (rpW ld6 ld14 zd22)) cq32) 61 1 (List.length (rpW ld6 ld14 zd22)) (flat false yq33) :: Res.row (Value.slice Aq35 (List.length (rpO ld6 ld14 zd22)) cq36) 61 1 (List.length (rpO ld6 ld14 zd22)) (flat false yq37) :: Res.box b [Value.slice A n c, Value.int .i64 ix46, Value.int .i64 hx47] 71 :: ((yq33.map (It.row .u8 5)) ++ ((yq37.map (It.row .u8 5)) ++ tl))) := hS52s5s6s7.front 2 rfl
    have hSo := St.inB [Res.row (Value.slice Aq31 (List.length (rpW ld6 ld14 zd22)) cq32) 61 1 (List.length (rpW ld6 ld14 zd22)) (flat false yq33), Res.row (Value.slice Aq35 (List.length (rpO ld6 ld14 zd22)) cq36) 61 1 (List.length (rpO ld6 ld14 zd22)) (flat false yq37), Res.box b [Value.slice A n c, Value.int .i64 ix46, Value.int .i64 hx47] 71] [] [(yq33.map (It.row .u8 5)), (yq37.map (It.row .u8 5))] tl hS52s5s6s7s8
    exact c_end (S := (fun x_ => St w0 x_ (Res.box b [Value.slice A n c, Value.int .i64 ix46, Value.int .i64 hx47] 71 :: Res.box blk40 [Value.slice Aq31 (List.length (rpW ld6 ld14 zd22)) cq32, Value.bool (rpE ld6 ld14 zd22), Value.slice Aq35 (List.length (rpO ld6 ld14 zd22)) cq36] 35 :: Res.row (Value.slice Aq31 (List.length (rpW ld6 ld14 zd22)) cq32) 61 1 (List.length (rpW ld6 ld14 zd22)) (flat false yq33) :: Res.row (Value.slice Aq35 (List.length (rpO ld6 ld14 zd22)) cq36) 61 1 (List.length (rpO ld6 ld14 zd22)) (flat false yq37) :: Res.row (Value.slice zd22A (List.length zd22) zd22c) 3 1 (List.length zd22) (zd22.map (Value.int .i64)) :: Res.row (Value.slice ld14A (List.length ld14) ld14c) 61 1 (List.length ld14) (flat false ld14y) :: Res.row (Value.slice ld6A (List.length ld6) ld6c) 61 1 (List.length ld6) (flat false ld6y) :: Res.box blk2 [Value.slice Aq31 (List.length (rpW ld6 ld14 zd22)) cq32, Value.bool (rpE ld6 ld14 zd22), Value.slice Aq35 (List.length (rpO ld6 ld14 zd22)) cq36] 35 :: ((yq33.map (It.row .u8 5)) ++ ((yq37.map (It.row .u8 5)) ++ ((ld14y.map (It.row .u8 5)) ++ ((ld6y.map (It.row .u8 5)) ++ tl))))))) (rs := [.cell 2 35]) rfl [Value.agg #[Value.slice Aq31 (List.length (rpW ld6 ld14 zd22)) cq32, Value.bool (rpE ld6 ld14 zd22), Value.slice Aq35 (List.length (rpO ld6 ld14 zd22)) cq36]] (v := Value.agg #[Value.slice Aq31 (List.length (rpW ld6 ld14 zd22)) cq32, Value.bool (rpE ld6 ld14 zd22), Value.slice Aq35 (List.length (rpO ld6 ld14 zd22)) cq36]) (C := ((LoadsAt Try.prog (fun x_ => St w0 x_ (Res.box b [Value.slice A n c, Value.int .i64 ix46, Value.int .i64 hx47] 71 :: Res.box blk40 [Value.slice Aq31 (List.length (rpW ld6 ld14 zd22)) cq32, Value.bool (rpE ld6 ld14 zd22), Value.slice Aq35 (List.length (rpO ld6 ld14 zd22)) cq36] 35 :: Res.row (Value.slice Aq31 (List.length (rpW ld6 ld14 zd22)) cq32) 61 1 (List.length (rpW ld6 ld14 zd22)) (flat false yq33) :: Res.row (Value.slice Aq35 (List.length (rpO ld6 ld14 zd22)) cq36) 61 1 (List.length (rpO ld6 ld14 zd22)) (flat false yq37) :: Res.row (Value.slice zd22A (List.length zd22) zd22c) 3 1 (List.length zd22) (zd22.map (Value.int .i64)) :: Res.row (Value.slice ld14A (List.length ld14) ld14c) 61 1 (List.length ld14) (flat false ld14y) :: Res.row (Value.slice ld6A (List.length ld6) ld6c) 61 1 (List.length ld6) (flat false ld6y) :: Res.box blk2 [Value.slice Aq31 (List.length (rpW ld6 ld14 zd22)) cq32, Value.bool (rpE ld6 ld14 zd22), Value.slice Aq35 (List.length (rpO ld6 ld14 zd22)) cq36] 35 :: ((yq33.map (It.row .u8 5)) ++ ((yq37.map (It.row .u8 5)) ++ ((ld14y.map (It.row .u8 5)) ++ ((ld6y.map (It.row .u8 5)) ++ tl)))))) 35 ⟨blk2, 0, none⟩ (Value.agg #[Value.slice Aq31 (List.length (rpW ld6 ld14 zd22)) cq32, Value.bool (rpE ld6 ld14 zd22), Value.slice Aq35 (List.length (rpO ld6 ld14 zd22)) cq36])))) (by kernel_rfl) (ld_boxN (i := 7) (k := 3) rfl rfl rfl (by kernel_rfl)) hS52 (⟨_, _, rfl, hSo, ix46, hx47, (rpW ld6 ld14 zd22), Aq31, cq32, yq33, (rpE ld6 ld14 zd22), (rpO ld6 ld14 zd22), Aq35, cq36, yq37, rfl, rfl, hC48, hcq34, hrq28a, hcq38, hrq28b, (by omega)⟩)
theorem l25Pair_s_c (A : Option Addr) (n c : Nat) (zs : List Int) (w : World) (hn : n ≤ 1048576) (hz : okz .u8 zs) (hr : Rd w w.heap.size A n (zs.map (Value.int .u8))) : Calls Try.prog 64 #[.slice A n c] w (Ret w (fun v new => ∃ (W_ : List (Int × List Int)) (W_A : Option Addr) (W_c : Nat) (W_y : List It) (e_ : Bool) (O_ : List (Int × List Int)) (O_A : Option Addr) (O_c : Nat) (O_y : List It) (z_ : List Int) (z_A : Option Addr) (z_c : Nat), v = Value.tuple #[Value.agg #[Value.slice W_A (List.length W_) W_c, Value.bool e_, Value.slice O_A (List.length O_) O_c], Value.slice z_A (List.length z_) z_c] ∧ new = (Res.row (Value.slice W_A (List.length W_) W_c) 61 1 (List.length W_) (flat false W_y) :: Res.row (Value.slice O_A (List.length O_) O_c) 61 1 (List.length O_) (flat false O_y) :: Res.row (Value.slice z_A (List.length z_) z_c) 5 1 (List.length z_) (z_.map (Value.int .u8)) :: (((W_y.map (It.row .u8 5)) ++ ((O_y.map (It.row .u8 5)) ++ [])))) ∧ (W_y.map (con false) = W_) ∧ (okL .u8 W_) ∧ (O_y.map (con false) = O_) ∧ (okL .u8 O_) ∧ (wt W_ + wt O_ ≤ 6000) ∧ (okz .u8 z_) ∧ (List.length z_ ≤ 2))) := by
  have hzl := hr.len
  refine calls_FA Try.func64 rfl (n := 15) rfl (l := [(0, Value.slice A n c)]) rfl (by simp) (fun g => ?_)
  have hS := St.init w
  refine wp_seq ?_
  refine c_reg ?_
  refine l_op rfl rfl (fun K hK => op_alloc (d := some 2) rfl rfl [Value.slice none 0 0, Value.bool false, Value.slice none 0 0] (by kernel_rfl) hS (fun blk2 w1 hS1 => hK _ _ ?_))
  clear hK K
  refine q_seg (S := (fun x_ => St w x_ [Res.box blk2 [Value.slice none 0 0, Value.bool false, Value.slice none 0 0] 35])) [(3, Value.slice none 0 0)] [.no] True (by kernel_rfl) trivial hS1 ?_
  refine l_nil rfl ?_
  refine then_n ?_
  refine wp_seq ?_
  refine c_reg ?_
  refine q_seg (S := (fun x_ => St w x_ [Res.box blk2 [Value.slice none 0 0, Value.bool false, Value.slice none 0 0] 35])) [(6, Value.slice A n c)] [.no] True (by kernel_rfl) trivial hS1 ?_
  refine l_op rfl rfl (fun K hK => op_call (d := some 7) rfl rfl ⟨_, Try.func56, by kernel_rfl, by kernel_rfl⟩ (vs := [Value.slice A n c]) (by kernel_rfl) (l1New_c A n c zs w1 (by omega) hz (hS1.rdlow hr)) hS1 (fun v4 new5 w3 Rw3 hS3 => hK _ _ ?_))
  clear hK K
  obtain ⟨blk6, hx7, rfl, rfl⟩ := Rw3
  have hC8 : CurI w A n 0 := CurI.zero (by omega) hz hr
  refine q_seg (S := (fun x_ => St w x_ [Res.box blk6 [Value.slice A n c, Value.int .i64 0, Value.int .i64 hx7] 71, Res.box blk2 [Value.slice none 0 0, Value.bool false, Value.slice none 0 0] 35])) [(4, Value.pointer (some ⟨blk6, 0, none⟩))] [.no] True (by kernel_rfl) trivial hS3 ?_
  refine l_nil rfl ?_
  refine then_n ?_
  refine wp_seq ?_
  refine c_reg ?_
  refine q_seg (S := (fun x_ => St w x_ [Res.box blk6 [Value.slice A n c, Value.int .i64 0, Value.int .i64 hx7] 71, Res.box blk2 [Value.slice none 0 0, Value.bool false, Value.slice none 0 0] 35])) [(8, Value.pointer (some ⟨blk6, 0, none⟩))] [.no] True (by kernel_rfl) trivial hS3 ?_
  refine l_op rfl rfl (fun K hK => op_callm (d := some 9) rfl rfl ⟨_, Try.func71, by kernel_rfl, by kernel_rfl⟩ (vs := [Value.pointer (some ⟨blk6, 0, none⟩)]) (by kernel_rfl) (l25Draw_s_c blk6 A n c 0 hx7  _ w w3 hS3 hC8 ) (fun v10 new11 w9 Rw9 hS9 => ?_))
  obtain ⟨ix15, hx16, ld12, ld12A, ld12c, ld12y, ed13, ld14, ld14A, ld14c, ld14y, rfl, rfl, hC17, ld12q, ld12o, ld14q, ld14o, hf18⟩ := Rw9
  have hS9r : St w w9 (Res.row (Value.slice ld12A (List.length ld12) ld12c) 61 1 (List.length ld12) (flat false ld12y) :: Res.row (Value.slice ld14A (List.length ld14) ld14c) 61 1 (List.length ld14) (flat false ld14y) :: Res.box blk6 [Value.slice A n c, Value.int .i64 ix15, Value.int .i64 hx16] 71 :: Res.box blk2 [Value.slice none 0 0, Value.bool false, Value.slice none 0 0] 35 :: ((ld12y.map (It.row .u8 5)) ++ ((ld14y.map (It.row .u8 5)) ++ []))) := St.outB [Res.row (Value.slice ld12A (List.length ld12) ld12c) 61 1 (List.length ld12) (flat false ld12y), Res.row (Value.slice ld14A (List.length ld14) ld14c) 61 1 (List.length ld14) (flat false ld14y), Res.box blk6 [Value.slice A n c, Value.int .i64 ix15, Value.int .i64 hx16] 71] [Res.box blk2 [Value.slice none 0 0, Value.bool false, Value.slice none 0 0] 35] [(ld12y.map (It.row .u8 5)), (ld14y.map (It.row .u8 5))] [] hS9
  have ld12w := wt_len ld12
  have ld14w := wt_len ld14
  refine hK _ _ ?_
  clear hK K
  refine l_op rfl rfl (fun K hK => op_alloc (d := some 5) rfl rfl [Value.slice none 0 0, Value.bool false, Value.slice none 0 0] (by kernel_rfl) hS9r (fun blk20 w19 hS19 => hK _ _ ?_))
  clear hK K
  refine l_op rfl rfl (fun K hK => op_store (d := none) rfl rfl (i := 0) (b := blk20) (off := 0) (cs := [Value.slice none 0 0, Value.bool false, Value.slice none 0 0]) (bt := 35) (by kernel_rfl) (by kernel_rfl) [Value.slice ld12A (List.length ld12) ld12c, Value.bool ed13, Value.slice ld14A (List.length ld14) ld14c] (by kernel_rfl) (by kernel_rfl) (Nat.le_of_ble_eq_true (by kernel_rfl)) (by kernel_rfl) (Res.box blk20 [Value.slice ld12A (List.length ld12) ld12c, Value.bool ed13, Value.slice ld14A (List.length ld14) ld14c] 35 :: Res.row (Value.slice ld12A (List.length ld12) ld12c) 61 1 (List.length ld12) (flat false ld12y) :: Res.row (Value.slice ld14A (List.length ld14) ld14c) 61 1 (List.length ld14) (flat false ld14y) :: Res.box blk6 [Value.slice A n c, Value.int .i64 ix15, Value.int .i64 hx16] 71 :: Res.box blk2 [Value.slice none 0 0, Value.bool false, Value.slice none 0 0] 35 :: ((ld12y.map (It.row .u8 5)) ++ ((ld14y.map (It.row .u8 5)) ++ []))) (by kernel_rfl) hS19 (fun w21 hS21 => hK _ _ ?_))
  clear hK K
  refine l_nil rfl ?_
  refine then_n ?_
  refine wp_seq ?_
  refine c_drawnS (S := (fun x_ => St w x_ (Res.box blk20 [Value.slice ld12A (List.length ld12) ld12c, Value.bool ed13, Value.slice ld14A (List.length ld14) ld14c] 35 :: Res.row (Value.slice ld12A (List.length ld12) ld12c) 61 1 (List.length ld12) (flat false ld12y) :: Res.row (Value.slice ld14A (List.length ld14) ld14c) 61 1 (List.length ld14) (flat false ld14y) :: ((ld12y.map (It.row .u8 5)) ++ ((ld14y.map (It.row .u8 5)) ++ []))))) [] (by kernel_rfl) hS21 (fun w22 hS22 => ?_)
  refine t_seg (S := (fun x_ => St w x_ (Res.box blk20 [Value.slice ld12A (List.length ld12) ld12c, Value.bool ed13, Value.slice ld14A (List.length ld14) ld14c] 35 :: Res.row (Value.slice ld12A (List.length ld12) ld12c) 61 1 (List.length ld12) (flat false ld12y) :: Res.row (Value.slice ld14A (List.length ld14) ld14c) 61 1 (List.length ld14) (flat false ld14y) :: ((ld12y.map (It.row .u8 5)) ++ ((ld14y.map (It.row .u8 5)) ++ []))))) [(0, .v (Value.agg #[Value.slice ld12A (List.length ld12) ld12c, Value.bool ed13, Value.slice ld14A (List.length ld14) ld14c])), (1, .no), (2, .no)] 4 #[true, true, true, false, false, false, false] [(12, Value.pointer (some ⟨blk6, 0, none⟩)), (11, Value.pointer (some ⟨blk6, 0, none⟩)), (10, Value.agg #[Value.slice ld12A (List.length ld12) ld12c, Value.bool ed13, Value.slice ld14A (List.length ld14) ld14c])] ((LoadsAt Try.prog (fun x_ => St w x_ (Res.box blk20 [Value.slice ld12A (List.length ld12) ld12c, Value.bool ed13, Value.slice ld14A (List.length ld14) ld14c] 35 :: Res.row (Value.slice ld12A (List.length ld12) ld12c) 61 1 (List.length ld12) (flat false ld12y) :: Res.row (Value.slice ld14A (List.length ld14) ld14c) 61 1 (List.length ld14) (flat false ld14y) :: ((ld12y.map (It.row .u8 5)) ++ ((ld14y.map (It.row .u8 5)) ++ [])))) 35 ⟨blk20, 0, none⟩ (Value.agg #[Value.slice ld12A (List.length ld12) ld12c, Value.bool ed13, Value.slice ld14A (List.length ld14) ld14c]))) (by kernel_rfl) (Qpanic.then Qpanic.bp) rfl (by kernel_rfl) (ld_boxN (i := 0) (k := 3) rfl rfl rfl (by kernel_rfl)) (hS22.sub (List.Sublist.cons_cons _ (List.Sublist.cons_cons _ (List.Sublist.cons_cons _ (List.Sublist.cons _ (List.Sublist.cons _ (List.Sublist.append (List.Sublist.refl _) (List.Sublist.append (List.Sublist.refl _) List.Sublist.slnil)))))))) ?_
  refine a_op (i := 3) (fuel := 3) (listed' := #[true, true, true, true, false, false, false]) rfl rfl (by kernel_rfl) (by kernel_rfl) rfl (fun K hK => op_callm (d := some 13) rfl rfl ⟨_, Try.func68, by kernel_rfl, by kernel_rfl⟩ (vs := [Value.pointer (some ⟨blk6, 0, none⟩), Value.int .i64 3]) (by kernel_rfl) (l1Below_s_c blk6 A n c ix15 hx16 (3 : Int) _ w w22 (hS22.front 3 rfl) hC17 (by omega)) (fun v24 new25 w23 Rw23 hS23 => ?_))
  obtain ⟨ix27, hx28, xd26, rfl, rfl, hC29, hf30, hf31⟩ := Rw23
  refine hK _ _ (fun _ => (hS23.sub (List.Sublist.cons _ (List.Sublist.cons_cons _ (List.Sublist.cons_cons _ (List.Sublist.cons_cons _ (List.Sublist.cons _ (List.Sublist.append (List.Sublist.refl _) (List.Sublist.append (List.Sublist.refl _) List.Sublist.slnil))))))))) ?_
  clear hK K
  refine a_op (i := 4) (fuel := 2) (listed' := #[true, true, true, true, true, false, false]) rfl rfl (by kernel_rfl) (by kernel_rfl) rfl (fun K hK => op_callm (d := some 14) rfl rfl ⟨_, Try.func69, by kernel_rfl, by kernel_rfl⟩ (vs := [Value.pointer (some ⟨blk6, 0, none⟩), Value.int .i64 xd26]) (by kernel_rfl) (l1Bytes_s_c blk6 A n c ix27 hx28 xd26 _ w w23 hS23 hC29 (by omega) (by omega)) (fun v33 new34 w32 Rw32 hS32 => ?_))
  obtain ⟨ix36, hx37, zd35, zd35A, zd35c, rfl, rfl, hC38, hf39, hf40⟩ := Rw32
  refine hK _ _ (fun _ => (hS32.sub (List.Sublist.cons _ (List.Sublist.cons _ (List.Sublist.cons_cons _ (List.Sublist.cons_cons _ (List.Sublist.cons_cons _ (List.Sublist.cons _ (List.Sublist.append (List.Sublist.refl _) (List.Sublist.append (List.Sublist.refl _) List.Sublist.slnil)))))))))) ?_
  clear hK K
  refine a_op (i := 5) (fuel := 1) (listed' := #[true, true, true, true, true, true, false]) rfl rfl (by kernel_rfl) (by kernel_rfl) rfl (fun K hK => op_store (d := none) rfl rfl (i := 5) (b := blk2) (off := 0) (cs := [Value.slice none 0 0, Value.bool false, Value.slice none 0 0]) (bt := 35) (by kernel_rfl) (by kernel_rfl) [Value.slice ld12A (List.length ld12) ld12c, Value.bool ed13, Value.slice ld14A (List.length ld14) ld14c] (by kernel_rfl) (by kernel_rfl) (Nat.le_of_ble_eq_true (by kernel_rfl)) (by kernel_rfl) (Res.row (Value.slice zd35A (List.length zd35) zd35c) 5 1 (List.length zd35) (zd35.map (Value.int .u8)) :: Res.box blk6 [Value.slice A n c, Value.int .i64 ix36, Value.int .i64 hx37] 71 :: Res.box blk20 [Value.slice ld12A (List.length ld12) ld12c, Value.bool ed13, Value.slice ld14A (List.length ld14) ld14c] 35 :: Res.row (Value.slice ld12A (List.length ld12) ld12c) 61 1 (List.length ld12) (flat false ld12y) :: Res.row (Value.slice ld14A (List.length ld14) ld14c) 61 1 (List.length ld14) (flat false ld14y) :: Res.box blk2 [Value.slice ld12A (List.length ld12) ld12c, Value.bool ed13, Value.slice ld14A (List.length ld14) ld14c] 35 :: ((ld12y.map (It.row .u8 5)) ++ ((ld14y.map (It.row .u8 5)) ++ []))) (by kernel_rfl) hS32 (fun w41 hS41 => hK _ _ (fun _ => (hS41.sub (List.Sublist.cons _ (List.Sublist.cons _ (List.Sublist.cons_cons _ (List.Sublist.cons_cons _ (List.Sublist.cons_cons _ (List.Sublist.cons _ (List.Sublist.append (List.Sublist.refl _) (List.Sublist.append (List.Sublist.refl _) List.Sublist.slnil)))))))))) ?_))
  clear hK K
  refine t_seg (S := (fun x_ => St w x_ (Res.box blk20 [Value.slice ld12A (List.length ld12) ld12c, Value.bool ed13, Value.slice ld14A (List.length ld14) ld14c] 35 :: Res.row (Value.slice ld12A (List.length ld12) ld12c) 61 1 (List.length ld12) (flat false ld12y) :: Res.row (Value.slice ld14A (List.length ld14) ld14c) 61 1 (List.length ld14) (flat false ld14y) :: ((ld12y.map (It.row .u8 5)) ++ ((ld14y.map (It.row .u8 5)) ++ []))))) [(6, .no)] 0 #[true, true, true, true, true, true, true] [(3, Value.slice zd35A (List.length zd35) zd35c)] True (by kernel_rfl) (Qpanic.then Qpanic.bp) rfl (by kernel_rfl) trivial (hS41.sub (List.Sublist.cons _ (List.Sublist.cons _ (List.Sublist.cons_cons _ (List.Sublist.cons_cons _ (List.Sublist.cons_cons _ (List.Sublist.cons _ (List.Sublist.append (List.Sublist.refl _) (List.Sublist.append (List.Sublist.refl _) List.Sublist.slnil))))))))) ?_
  refine a_done (by kernel_rfl) ?_
  refine then_n ?_
  refine wp_ret ?_
  have hS41s1 : St w w41 (Res.row (Value.slice zd35A (List.length zd35) zd35c) 5 1 (List.length zd35) (zd35.map (Value.int .u8)) :: Res.row (Value.slice ld12A (List.length ld12) ld12c) 61 1 (List.length ld12) (flat false ld12y) :: Res.row (Value.slice ld14A (List.length ld14) ld14c) 61 1 (List.length ld14) (flat false ld14y) :: ((ld12y.map (It.row .u8 5)) ++ ((ld14y.map (It.row .u8 5)) ++ []))) := (hS41.sub (List.Sublist.cons_cons _ (List.Sublist.cons _ (List.Sublist.cons _ (List.Sublist.cons_cons _ (List.Sublist.cons_cons _ (List.Sublist.cons _ (List.Sublist.append (List.Sublist.refl _) (List.Sublist.append (List.Sublist.refl _) List.Sublist.slnil)))))))))
  have hS41s1s2 : St w w41 (Res.row (Value.slice zd35A (List.length zd35) zd35c) 5 1 (List.length zd35) (zd35.map (Value.int .u8)) :: Res.row (Value.slice ld12A (List.length ld12) ld12c) 61 1 (List.length ld12) (flat false ld12y) :: Res.row (Value.slice ld14A (List.length ld14) ld14c) 61 1 (List.length ld14) (flat false ld14y) :: ((ld12y.map (It.row .u8 5)) ++ ((ld14y.map (It.row .u8 5)) ++ []))) := hS41s1.front 0 rfl
  have hS41s1s2s3 : St w w41 (Res.row (Value.slice ld14A (List.length ld14) ld14c) 61 1 (List.length ld14) (flat false ld14y) :: Res.row (Value.slice zd35A (List.length zd35) zd35c) 5 1 (List.length zd35) (zd35.map (Value.int .u8)) :: Res.row (Value.slice ld12A (List.length ld12) ld12c) 61 1 (List.length ld12) (flat false ld12y) :: ((ld12y.map (It.row .u8 5)) ++ ((ld14y.map (It.row .u8 5)) ++ []))) := hS41s1s2.front 2 rfl
  have hS41s1s2s3s4 : St w w41 (Res.row (Value.slice ld12A (List.length ld12) ld12c) 61 1 (List.length ld12) (flat false ld12y) :: Res.row (Value.slice ld14A (List.length ld14) ld14c) 61 1 (List.length ld14) (flat false ld14y) :: Res.row (Value.slice zd35A (List.length zd35) zd35c) 5 1 (List.length zd35) (zd35.map (Value.int .u8)) :: ((ld12y.map (It.row .u8 5)) ++ ((ld14y.map (It.row .u8 5)) ++ []))) := hS41s1s2s3.front 2 rfl
  exact c_end (S := (fun x_ => St w x_ (Res.row (Value.slice zd35A (List.length zd35) zd35c) 5 1 (List.length zd35) (zd35.map (Value.int .u8)) :: Res.box blk6 [Value.slice A n c, Value.int .i64 ix36, Value.int .i64 hx37] 71 :: Res.box blk20 [Value.slice ld12A (List.length ld12) ld12c, Value.bool ed13, Value.slice ld14A (List.length ld14) ld14c] 35 :: Res.row (Value.slice ld12A (List.length ld12) ld12c) 61 1 (List.length ld12) (flat false ld12y) :: Res.row (Value.slice ld14A (List.length ld14) ld14c) 61 1 (List.length ld14) (flat false ld14y) :: Res.box blk2 [Value.slice ld12A (List.length ld12) ld12c, Value.bool ed13, Value.slice ld14A (List.length ld14) ld14c] 35 :: ((ld12y.map (It.row .u8 5)) ++ ((ld14y.map (It.row .u8 5)) ++ []))))) (rs := [.cell 2 35, .tmp 3]) rfl [Value.agg #[Value.slice ld12A (List.length ld12) ld12c, Value.bool ed13, Value.slice ld14A (List.length ld14) ld14c]] (v := Value.tuple #[Value.agg #[Value.slice ld12A (List.length ld12) ld12c, Value.bool ed13, Value.slice ld14A (List.length ld14) ld14c], Value.slice zd35A (List.length zd35) zd35c]) (C := ((LoadsAt Try.prog (fun x_ => St w x_ (Res.row (Value.slice zd35A (List.length zd35) zd35c) 5 1 (List.length zd35) (zd35.map (Value.int .u8)) :: Res.box blk6 [Value.slice A n c, Value.int .i64 ix36, Value.int .i64 hx37] 71 :: Res.box blk20 [Value.slice ld12A (List.length ld12) ld12c, Value.bool ed13, Value.slice ld14A (List.length ld14) ld14c] 35 :: Res.row (Value.slice ld12A (List.length ld12) ld12c) 61 1 (List.length ld12) (flat false ld12y) :: Res.row (Value.slice ld14A (List.length ld14) ld14c) 61 1 (List.length ld14) (flat false ld14y) :: Res.box blk2 [Value.slice ld12A (List.length ld12) ld12c, Value.bool ed13, Value.slice ld14A (List.length ld14) ld14c] 35 :: ((ld12y.map (It.row .u8 5)) ++ ((ld14y.map (It.row .u8 5)) ++ [])))) 35 ⟨blk2, 0, none⟩ (Value.agg #[Value.slice ld12A (List.length ld12) ld12c, Value.bool ed13, Value.slice ld14A (List.length ld14) ld14c])))) (by kernel_rfl) (ld_boxN (i := 5) (k := 3) rfl rfl rfl (by kernel_rfl)) hS41 (hS41s1s2s3s4.rt ⟨ld12, ld12A, ld12c, ld12y, ed13, ld14, ld14A, ld14c, ld14y, zd35, zd35A, zd35c, rfl, rfl, ld12q, ld12o, ld14q, ld14o, (by omega), hf39, (by omega)⟩)
theorem DrawPushForwarded_s_c (A : Option Addr) (n c : Nat) (zs : List Int) (w : World) (hn : n ≤ 1048576) (hz : okz .u8 zs) (hr : Rd w w.heap.size A n (zs.map (Value.int .u8))) : Calls Try.prog 41 #[.slice A n c] w (Ret w (fun v new => ∃ (W_ : List (Int × List Int)) (W_A : Option Addr) (W_c : Nat) (W_y : List It) (e_ : Bool) (O_ : List (Int × List Int)) (O_A : Option Addr) (O_c : Nat) (O_y : List It) (z_ : List Int) (z_A : Option Addr) (z_c : Nat), v = Value.tuple #[Value.agg #[Value.slice W_A (List.length W_) W_c, Value.bool e_, Value.slice O_A (List.length O_) O_c], Value.slice z_A (List.length z_) z_c] ∧ new = (Res.row (Value.slice W_A (List.length W_) W_c) 61 1 (List.length W_) (flat false W_y) :: Res.row (Value.slice O_A (List.length O_) O_c) 61 1 (List.length O_) (flat false O_y) :: Res.row (Value.slice z_A (List.length z_) z_c) 5 1 (List.length z_) (z_.map (Value.int .u8)) :: (((W_y.map (It.row .u8 5)) ++ ((O_y.map (It.row .u8 5)) ++ [])))) ∧ (W_y.map (con false) = W_) ∧ (okL .u8 W_) ∧ (O_y.map (con false) = O_) ∧ (okL .u8 O_) ∧ (wt W_ + wt O_ ≤ 6000) ∧ (okz .u8 z_) ∧ (List.length z_ ≤ 2))) := by
  have hzl := hr.len
  refine calls_FA Try.func41 rfl (n := 8) rfl (l := [(0, Value.slice A n c)]) rfl (by simp) (fun g => ?_)
  have hS := St.init w
  refine wp_seq ?_
  refine c_reg ?_
  refine l_op rfl rfl (fun K hK => op_alloc (d := some 2) rfl rfl [Value.slice none 0 0, Value.bool false, Value.slice none 0 0] (by kernel_rfl) hS (fun blk2 w1 hS1 => hK _ _ ?_))
  clear hK K
  refine q_seg (S := (fun x_ => St w x_ [Res.box blk2 [Value.slice none 0 0, Value.bool false, Value.slice none 0 0] 35])) [(3, Value.slice none 0 0)] [.no] True (by kernel_rfl) trivial hS1 ?_
  refine l_nil rfl ?_
  refine then_n ?_
  refine wp_seq ?_
  refine c_reg ?_
  refine q_seg (S := (fun x_ => St w x_ [Res.box blk2 [Value.slice none 0 0, Value.bool false, Value.slice none 0 0] 35])) [(4, Value.slice A n c)] [.no] True (by kernel_rfl) trivial hS1 ?_
  refine l_op rfl rfl (fun K hK => op_call (d := some 5) rfl rfl ⟨_, Try.func64, by kernel_rfl, by kernel_rfl⟩ (vs := [Value.slice A n c]) (by kernel_rfl) (l25Pair_s_c A n c zs w1 (by omega) hz (hS1.rdlow hr)) hS1 (fun v4 new5 w3 Rw3 hS3 => hK _ _ ?_))
  clear hK K
  obtain ⟨ld6, ld6A, ld6c, ld6y, ed7, ld8, ld8A, ld8c, ld8y, zd9, zd9A, zd9c, rfl, rfl, ld6q, ld6o, ld8q, ld8o, hf10, hf11, hf12⟩ := Rw3
  have hS3r : St w w3 (Res.row (Value.slice ld6A (List.length ld6) ld6c) 61 1 (List.length ld6) (flat false ld6y) :: Res.row (Value.slice ld8A (List.length ld8) ld8c) 61 1 (List.length ld8) (flat false ld8y) :: Res.row (Value.slice zd9A (List.length zd9) zd9c) 5 1 (List.length zd9) (zd9.map (Value.int .u8)) :: Res.box blk2 [Value.slice none 0 0, Value.bool false, Value.slice none 0 0] 35 :: ((ld6y.map (It.row .u8 5)) ++ ((ld8y.map (It.row .u8 5)) ++ []))) := St.rot_2 [Res.row (Value.slice ld6A (List.length ld6) ld6c) 61 1 (List.length ld6) (flat false ld6y), Res.row (Value.slice ld8A (List.length ld8) ld8c) 61 1 (List.length ld8) (flat false ld8y), Res.row (Value.slice zd9A (List.length zd9) zd9c) 5 1 (List.length zd9) (zd9.map (Value.int .u8))] [Res.box blk2 [Value.slice none 0 0, Value.bool false, Value.slice none 0 0] 35] [] (ld6y.map (It.row .u8 5)) (ld8y.map (It.row .u8 5)) hS3
  have ld6w := wt_len ld6
  have ld8w := wt_len ld8
  refine q_seg (S := (fun x_ => St w x_ (Res.row (Value.slice ld6A (List.length ld6) ld6c) 61 1 (List.length ld6) (flat false ld6y) :: Res.row (Value.slice ld8A (List.length ld8) ld8c) 61 1 (List.length ld8) (flat false ld8y) :: Res.row (Value.slice zd9A (List.length zd9) zd9c) 5 1 (List.length zd9) (zd9.map (Value.int .u8)) :: Res.box blk2 [Value.slice none 0 0, Value.bool false, Value.slice none 0 0] 35 :: ((ld6y.map (It.row .u8 5)) ++ ((ld8y.map (It.row .u8 5)) ++ []))))) [(7, Value.slice zd9A (List.length zd9) zd9c), (6, Value.agg #[Value.slice ld6A (List.length ld6) ld6c, Value.bool ed7, Value.slice ld8A (List.length ld8) ld8c])] [.no, .no] True (by kernel_rfl) trivial hS3r ?_
  refine l_op rfl rfl (fun K hK => op_store (d := none) rfl rfl (i := 3) (b := blk2) (off := 0) (cs := [Value.slice none 0 0, Value.bool false, Value.slice none 0 0]) (bt := 35) (by kernel_rfl) (by kernel_rfl) [Value.slice ld6A (List.length ld6) ld6c, Value.bool ed7, Value.slice ld8A (List.length ld8) ld8c] (by kernel_rfl) (by kernel_rfl) (Nat.le_of_ble_eq_true (by kernel_rfl)) (by kernel_rfl) (Res.row (Value.slice ld6A (List.length ld6) ld6c) 61 1 (List.length ld6) (flat false ld6y) :: Res.row (Value.slice ld8A (List.length ld8) ld8c) 61 1 (List.length ld8) (flat false ld8y) :: Res.row (Value.slice zd9A (List.length zd9) zd9c) 5 1 (List.length zd9) (zd9.map (Value.int .u8)) :: Res.box blk2 [Value.slice ld6A (List.length ld6) ld6c, Value.bool ed7, Value.slice ld8A (List.length ld8) ld8c] 35 :: ((ld6y.map (It.row .u8 5)) ++ ((ld8y.map (It.row .u8 5)) ++ []))) (by kernel_rfl) hS3r (fun w13 hS13 => hK _ _ ?_))
  clear hK K
  refine q_seg (S := (fun x_ => St w x_ (Res.row (Value.slice ld6A (List.length ld6) ld6c) 61 1 (List.length ld6) (flat false ld6y) :: Res.row (Value.slice ld8A (List.length ld8) ld8c) 61 1 (List.length ld8) (flat false ld8y) :: Res.row (Value.slice zd9A (List.length zd9) zd9c) 5 1 (List.length zd9) (zd9.map (Value.int .u8)) :: Res.box blk2 [Value.slice ld6A (List.length ld6) ld6c, Value.bool ed7, Value.slice ld8A (List.length ld8) ld8c] 35 :: ((ld6y.map (It.row .u8 5)) ++ ((ld8y.map (It.row .u8 5)) ++ []))))) [(3, Value.slice zd9A (List.length zd9) zd9c)] [.no] True (by kernel_rfl) trivial hS13 ?_
  refine l_nil rfl ?_
  refine then_n ?_
  refine wp_ret ?_
  have hS13s1 : St w w13 (Res.row (Value.slice ld6A (List.length ld6) ld6c) 61 1 (List.length ld6) (flat false ld6y) :: Res.row (Value.slice ld8A (List.length ld8) ld8c) 61 1 (List.length ld8) (flat false ld8y) :: Res.row (Value.slice zd9A (List.length zd9) zd9c) 5 1 (List.length zd9) (zd9.map (Value.int .u8)) :: ((ld6y.map (It.row .u8 5)) ++ ((ld8y.map (It.row .u8 5)) ++ []))) := (hS13.sub (List.Sublist.cons_cons _ (List.Sublist.cons_cons _ (List.Sublist.cons_cons _ (List.Sublist.cons _ (List.Sublist.append (List.Sublist.refl _) (List.Sublist.append (List.Sublist.refl _) List.Sublist.slnil)))))))
  exact c_end (S := (fun x_ => St w x_ (Res.row (Value.slice ld6A (List.length ld6) ld6c) 61 1 (List.length ld6) (flat false ld6y) :: Res.row (Value.slice ld8A (List.length ld8) ld8c) 61 1 (List.length ld8) (flat false ld8y) :: Res.row (Value.slice zd9A (List.length zd9) zd9c) 5 1 (List.length zd9) (zd9.map (Value.int .u8)) :: Res.box blk2 [Value.slice ld6A (List.length ld6) ld6c, Value.bool ed7, Value.slice ld8A (List.length ld8) ld8c] 35 :: ((ld6y.map (It.row .u8 5)) ++ ((ld8y.map (It.row .u8 5)) ++ []))))) (rs := [.cell 2 35, .tmp 3]) rfl [Value.agg #[Value.slice ld6A (List.length ld6) ld6c, Value.bool ed7, Value.slice ld8A (List.length ld8) ld8c]] (v := Value.tuple #[Value.agg #[Value.slice ld6A (List.length ld6) ld6c, Value.bool ed7, Value.slice ld8A (List.length ld8) ld8c], Value.slice zd9A (List.length zd9) zd9c]) (C := ((LoadsAt Try.prog (fun x_ => St w x_ (Res.row (Value.slice ld6A (List.length ld6) ld6c) 61 1 (List.length ld6) (flat false ld6y) :: Res.row (Value.slice ld8A (List.length ld8) ld8c) 61 1 (List.length ld8) (flat false ld8y) :: Res.row (Value.slice zd9A (List.length zd9) zd9c) 5 1 (List.length zd9) (zd9.map (Value.int .u8)) :: Res.box blk2 [Value.slice ld6A (List.length ld6) ld6c, Value.bool ed7, Value.slice ld8A (List.length ld8) ld8c] 35 :: ((ld6y.map (It.row .u8 5)) ++ ((ld8y.map (It.row .u8 5)) ++ [])))) 35 ⟨blk2, 0, none⟩ (Value.agg #[Value.slice ld6A (List.length ld6) ld6c, Value.bool ed7, Value.slice ld8A (List.length ld8) ld8c])))) (by kernel_rfl) (ld_boxN (i := 3) (k := 3) rfl rfl rfl (by kernel_rfl)) hS13 (hS13s1.rt ⟨ld6, ld6A, ld6c, ld6y, ed7, ld8, ld8A, ld8c, ld8y, zd9, zd9A, zd9c, rfl, rfl, ld6q, ld6o, ld8q, ld8o, (by omega), hf11, (by omega)⟩)
theorem DrawReplayHandover_s_c (A : Option Addr) (n c : Nat) (zs : List Int) (w : World) (hn : n ≤ 1048576) (hz : okz .u8 zs) (hr : Rd w w.heap.size A n (zs.map (Value.int .u8))) : Calls Try.prog 27 #[.slice A n c] w (Ret w (fun v new => ∃ (p_ : List (Int × List Int)) (p_A : Option Addr) (p_c : Nat) (p_y : List It) (r_ : List (Int × List Int)) (r_A : Option Addr) (r_c : Nat) (r_y : List It) (z_ : List Int) (z_A : Option Addr) (z_c : Nat), v = Value.tuple #[Value.slice p_A (List.length p_) p_c, Value.slice r_A (List.length r_) r_c, Value.slice z_A (List.length z_) z_c] ∧ new = (Res.row (Value.slice p_A (List.length p_) p_c) 61 1 (List.length p_) (flat false p_y) :: Res.row (Value.slice r_A (List.length r_) r_c) 61 1 (List.length r_) (flat false r_y) :: Res.row (Value.slice z_A (List.length z_) z_c) 3 1 (List.length z_) (z_.map (Value.int .i64)) :: (((p_y.map (It.row .u8 5)) ++ ((r_y.map (It.row .u8 5)) ++ [])))) ∧ (p_y.map (con false) = p_) ∧ (okL .u8 p_) ∧ (r_y.map (con false) = r_) ∧ (okL .u8 r_) ∧ (wt p_ ≤ 3000) ∧ (wt r_ ≤ 3000) ∧ (List.length z_ ≤ 15))) := by
  have hzl := hr.len
  refine calls_FA Try.func27 rfl (n := 18) rfl (l := [(0, Value.slice A n c)]) rfl (by simp) (fun g => ?_)
  have hS := St.init w
  refine wp_seq ?_
  refine c_reg ?_
  refine q_seg (S := (fun x_ => St w x_ [])) [(4, Value.slice none 0 0), (3, Value.slice none 0 0), (2, Value.slice none 0 0)] [.no, .no, .no] True (by kernel_rfl) trivial hS ?_
  refine l_nil rfl ?_
  refine then_n ?_
  refine wp_seq ?_
  refine c_reg ?_
  refine q_seg (S := (fun x_ => St w x_ [])) [(8, Value.slice A n c)] [.no] True (by kernel_rfl) trivial hS ?_
  refine l_op rfl rfl (fun K hK => op_call (d := some 9) rfl rfl ⟨_, Try.func56, by kernel_rfl, by kernel_rfl⟩ (vs := [Value.slice A n c]) (by kernel_rfl) (l1New_c A n c zs w (by omega) hz (hS.rdlow hr)) hS (fun v2 new3 w1 Rw1 hS1 => hK _ _ ?_))
  clear hK K
  obtain ⟨blk4, hx5, rfl, rfl⟩ := Rw1
  have hC6 : CurI w A n 0 := CurI.zero (by omega) hz hr
  refine q_seg (S := (fun x_ => St w x_ [Res.box blk4 [Value.slice A n c, Value.int .i64 0, Value.int .i64 hx5] 71])) [(5, Value.pointer (some ⟨blk4, 0, none⟩))] [.no] True (by kernel_rfl) trivial hS1 ?_
  refine l_nil rfl ?_
  refine then_n ?_
  refine wp_seq ?_
  refine c_reg ?_
  refine q_seg (S := (fun x_ => St w x_ [Res.box blk4 [Value.slice A n c, Value.int .i64 0, Value.int .i64 hx5] 71])) [(10, Value.pointer (some ⟨blk4, 0, none⟩))] [.no] True (by kernel_rfl) trivial hS1 ?_
  refine l_op rfl rfl (fun K hK => op_callm (d := some 11) rfl rfl ⟨_, Try.func57, by kernel_rfl, by kernel_rfl⟩ (vs := [Value.pointer (some ⟨blk4, 0, none⟩), Value.int .i64 6]) (by kernel_rfl) (l25Bodies_s_c blk4 A n c 0 hx5 (6 : Int) _ w w1 hS1 hC6 (by omega) (by omega)) (fun v8 new9 w7 Rw7 hS7 => ?_))
  obtain ⟨ix11, hx12, ld10, ld10A, ld10c, ld10y, rfl, rfl, hC13, ld10q, ld10o, hf14⟩ := Rw7
  have hS7r : St w w7 (Res.row (Value.slice ld10A (List.length ld10) ld10c) 61 1 (List.length ld10) (flat false ld10y) :: Res.box blk4 [Value.slice A n c, Value.int .i64 ix11, Value.int .i64 hx12] 71 :: ((ld10y.map (It.row .u8 5)) ++ [])) := St.outB [Res.row (Value.slice ld10A (List.length ld10) ld10c) 61 1 (List.length ld10) (flat false ld10y), Res.box blk4 [Value.slice A n c, Value.int .i64 ix11, Value.int .i64 hx12] 71] [] [(ld10y.map (It.row .u8 5))] [] hS7
  have ld10w := wt_len ld10
  refine hK _ _ ?_
  clear hK K
  refine q_seg (S := (fun x_ => St w x_ (Res.row (Value.slice ld10A (List.length ld10) ld10c) 61 1 (List.length ld10) (flat false ld10y) :: Res.box blk4 [Value.slice A n c, Value.int .i64 ix11, Value.int .i64 hx12] 71 :: ((ld10y.map (It.row .u8 5)) ++ [])))) [(6, Value.slice ld10A (List.length ld10) ld10c)] [.no] True (by kernel_rfl) trivial hS7r ?_
  refine l_nil rfl ?_
  refine then_n ?_
  refine wp_seq ?_
  refine c_reg ?_
  refine q_seg (S := (fun x_ => St w x_ (Res.row (Value.slice ld10A (List.length ld10) ld10c) 61 1 (List.length ld10) (flat false ld10y) :: Res.box blk4 [Value.slice A n c, Value.int .i64 ix11, Value.int .i64 hx12] 71 :: ((ld10y.map (It.row .u8 5)) ++ [])))) [(12, Value.pointer (some ⟨blk4, 0, none⟩))] [.no] True (by kernel_rfl) trivial hS7r ?_
  refine l_op rfl rfl (fun K hK => op_callm (d := some 13) rfl rfl ⟨_, Try.func57, by kernel_rfl, by kernel_rfl⟩ (vs := [Value.pointer (some ⟨blk4, 0, none⟩), Value.int .i64 6]) (by kernel_rfl) (l25Bodies_s_c blk4 A n c ix11 hx12 (6 : Int) _ w w7 (hS7r.front 1 rfl) hC13 (by omega) (by omega)) (fun v16 new17 w15 Rw15 hS15 => ?_))
  obtain ⟨ix19, hx20, ld18, ld18A, ld18c, ld18y, rfl, rfl, hC21, ld18q, ld18o, hf22⟩ := Rw15
  have hS15r : St w w15 (Res.row (Value.slice ld18A (List.length ld18) ld18c) 61 1 (List.length ld18) (flat false ld18y) :: Res.box blk4 [Value.slice A n c, Value.int .i64 ix19, Value.int .i64 hx20] 71 :: Res.row (Value.slice ld10A (List.length ld10) ld10c) 61 1 (List.length ld10) (flat false ld10y) :: ((ld18y.map (It.row .u8 5)) ++ ((ld10y.map (It.row .u8 5)) ++ []))) := St.outB [Res.row (Value.slice ld18A (List.length ld18) ld18c) 61 1 (List.length ld18) (flat false ld18y), Res.box blk4 [Value.slice A n c, Value.int .i64 ix19, Value.int .i64 hx20] 71] [Res.row (Value.slice ld10A (List.length ld10) ld10c) 61 1 (List.length ld10) (flat false ld10y)] [(ld18y.map (It.row .u8 5))] ((ld10y.map (It.row .u8 5)) ++ []) hS15
  have ld18w := wt_len ld18
  refine hK _ _ ?_
  clear hK K
  refine q_seg (S := (fun x_ => St w x_ (Res.row (Value.slice ld18A (List.length ld18) ld18c) 61 1 (List.length ld18) (flat false ld18y) :: Res.box blk4 [Value.slice A n c, Value.int .i64 ix19, Value.int .i64 hx20] 71 :: Res.row (Value.slice ld10A (List.length ld10) ld10c) 61 1 (List.length ld10) (flat false ld10y) :: ((ld18y.map (It.row .u8 5)) ++ ((ld10y.map (It.row .u8 5)) ++ []))))) [(7, Value.slice ld18A (List.length ld18) ld18c)] [.no] True (by kernel_rfl) trivial hS15r ?_
  refine l_nil rfl ?_
  refine then_n ?_
  refine wp_seq ?_
  refine c_reg ?_
  refine q_seg (S := (fun x_ => St w x_ (Res.row (Value.slice ld18A (List.length ld18) ld18c) 61 1 (List.length ld18) (flat false ld18y) :: Res.box blk4 [Value.slice A n c, Value.int .i64 ix19, Value.int .i64 hx20] 71 :: Res.row (Value.slice ld10A (List.length ld10) ld10c) 61 1 (List.length ld10) (flat false ld10y) :: ((ld18y.map (It.row .u8 5)) ++ ((ld10y.map (It.row .u8 5)) ++ []))))) [(16, Value.pointer (some ⟨blk4, 0, none⟩)), (15, Value.slice ld18A (List.length ld18) ld18c), (14, Value.slice ld10A (List.length ld10) ld10c)] [.no, .no, .no] True (by kernel_rfl) trivial hS15r ?_
  refine l_op rfl rfl (fun K hK => op_callm (d := some 17) rfl rfl ⟨_, Try.func58, by kernel_rfl, by kernel_rfl⟩ (vs := [Value.pointer (some ⟨blk4, 0, none⟩)]) (by kernel_rfl) (l25Order_s_c blk4 A n c ix19 hx20  _ w w15 (hS15r.front 1 rfl) hC21 ) (fun v24 new25 w23 Rw23 hS23 => ?_))
  obtain ⟨ix27, hx28, zd26, zd26A, zd26c, rfl, rfl, hC29, hf30⟩ := Rw23
  refine hK _ _ ?_
  clear hK K
  refine q_seg (S := (fun x_ => St w x_ (Res.row (Value.slice zd26A (List.length zd26) zd26c) 3 1 (List.length zd26) (zd26.map (Value.int .i64)) :: Res.box blk4 [Value.slice A n c, Value.int .i64 ix27, Value.int .i64 hx28] 71 :: Res.row (Value.slice ld18A (List.length ld18) ld18c) 61 1 (List.length ld18) (flat false ld18y) :: Res.row (Value.slice ld10A (List.length ld10) ld10c) 61 1 (List.length ld10) (flat false ld10y) :: ((ld18y.map (It.row .u8 5)) ++ ((ld10y.map (It.row .u8 5)) ++ []))))) [(4, Value.slice zd26A (List.length zd26) zd26c), (3, Value.slice ld18A (List.length ld18) ld18c), (2, Value.slice ld10A (List.length ld10) ld10c)] [.no, .no, .no] True (by kernel_rfl) trivial hS23 ?_
  refine l_nil rfl ?_
  refine then_n ?_
  refine wp_ret ?_
  have hS23s1 : St w w23 (Res.row (Value.slice zd26A (List.length zd26) zd26c) 3 1 (List.length zd26) (zd26.map (Value.int .i64)) :: Res.row (Value.slice ld18A (List.length ld18) ld18c) 61 1 (List.length ld18) (flat false ld18y) :: Res.row (Value.slice ld10A (List.length ld10) ld10c) 61 1 (List.length ld10) (flat false ld10y) :: ((ld18y.map (It.row .u8 5)) ++ ((ld10y.map (It.row .u8 5)) ++ []))) := (hS23.sub (List.Sublist.cons_cons _ (List.Sublist.cons _ (List.Sublist.cons_cons _ (List.Sublist.cons_cons _ (List.Sublist.append (List.Sublist.refl _) (List.Sublist.append (List.Sublist.refl _) List.Sublist.slnil)))))))
  have hS23s1s2 : St w w23 (Res.row (Value.slice zd26A (List.length zd26) zd26c) 3 1 (List.length zd26) (zd26.map (Value.int .i64)) :: Res.row (Value.slice ld18A (List.length ld18) ld18c) 61 1 (List.length ld18) (flat false ld18y) :: Res.row (Value.slice ld10A (List.length ld10) ld10c) 61 1 (List.length ld10) (flat false ld10y) :: ((ld18y.map (It.row .u8 5)) ++ ((ld10y.map (It.row .u8 5)) ++ []))) := hS23s1.front 0 rfl
  have hS23s1s2s3 : St w w23 (Res.row (Value.slice ld18A (List.length ld18) ld18c) 61 1 (List.length ld18) (flat false ld18y) :: Res.row (Value.slice zd26A (List.length zd26) zd26c) 3 1 (List.length zd26) (zd26.map (Value.int .i64)) :: Res.row (Value.slice ld10A (List.length ld10) ld10c) 61 1 (List.length ld10) (flat false ld10y) :: ((ld18y.map (It.row .u8 5)) ++ ((ld10y.map (It.row .u8 5)) ++ []))) := hS23s1s2.front 1 rfl
  have hS23s1s2s3s4 : St w w23 (Res.row (Value.slice ld10A (List.length ld10) ld10c) 61 1 (List.length ld10) (flat false ld10y) :: Res.row (Value.slice ld18A (List.length ld18) ld18c) 61 1 (List.length ld18) (flat false ld18y) :: Res.row (Value.slice zd26A (List.length zd26) zd26c) 3 1 (List.length zd26) (zd26.map (Value.int .i64)) :: ((ld18y.map (It.row .u8 5)) ++ ((ld10y.map (It.row .u8 5)) ++ []))) := hS23s1s2s3.front 2 rfl
  have hS23s1s2s3s4s5 : St w w23 (Res.row (Value.slice ld10A (List.length ld10) ld10c) 61 1 (List.length ld10) (flat false ld10y) :: Res.row (Value.slice ld18A (List.length ld18) ld18c) 61 1 (List.length ld18) (flat false ld18y) :: Res.row (Value.slice zd26A (List.length zd26) zd26c) 3 1 (List.length zd26) (zd26.map (Value.int .i64)) :: ((ld18y.map (It.row .u8 5)) ++ ((ld10y.map (It.row .u8 5)) ++ []))) := St.gfront [Res.row (Value.slice ld10A (List.length ld10) ld10c) 61 1 (List.length ld10) (flat false ld10y), Res.row (Value.slice ld18A (List.length ld18) ld18c) 61 1 (List.length ld18) (flat false ld18y), Res.row (Value.slice zd26A (List.length zd26) zd26c) 3 1 (List.length zd26) (zd26.map (Value.int .i64))] [] (ld18y.map (It.row .u8 5)) ((ld10y.map (It.row .u8 5)) ++ []) hS23s1s2s3s4
  have hS23s1s2s3s4s5s6 : St w w23 (Res.row (Value.slice ld10A (List.length ld10) ld10c) 61 1 (List.length ld10) (flat false ld10y) :: Res.row (Value.slice ld18A (List.length ld18) ld18c) 61 1 (List.length ld18) (flat false ld18y) :: Res.row (Value.slice zd26A (List.length zd26) zd26c) 3 1 (List.length zd26) (zd26.map (Value.int .i64)) :: ((ld10y.map (It.row .u8 5)) ++ ((ld18y.map (It.row .u8 5)) ++ []))) := St.gfront [Res.row (Value.slice ld10A (List.length ld10) ld10c) 61 1 (List.length ld10) (flat false ld10y), Res.row (Value.slice ld18A (List.length ld18) ld18c) 61 1 (List.length ld18) (flat false ld18y), Res.row (Value.slice zd26A (List.length zd26) zd26c) 3 1 (List.length zd26) (zd26.map (Value.int .i64))] [(ld18y.map (It.row .u8 5))] (ld10y.map (It.row .u8 5)) [] hS23s1s2s3s4s5
  exact c_end (S := (fun x_ => St w x_ (Res.row (Value.slice zd26A (List.length zd26) zd26c) 3 1 (List.length zd26) (zd26.map (Value.int .i64)) :: Res.box blk4 [Value.slice A n c, Value.int .i64 ix27, Value.int .i64 hx28] 71 :: Res.row (Value.slice ld18A (List.length ld18) ld18c) 61 1 (List.length ld18) (flat false ld18y) :: Res.row (Value.slice ld10A (List.length ld10) ld10c) 61 1 (List.length ld10) (flat false ld10y) :: ((ld18y.map (It.row .u8 5)) ++ ((ld10y.map (It.row .u8 5)) ++ []))))) (rs := [.tmp 2, .tmp 3, .tmp 4]) rfl [] (v := Value.tuple #[Value.slice ld10A (List.length ld10) ld10c, Value.slice ld18A (List.length ld18) ld18c, Value.slice zd26A (List.length zd26) zd26c]) (C := True) (by kernel_rfl) trivial hS23 (hS23s1s2s3s4s5s6.rt ⟨ld10, ld10A, ld10c, ld10y, ld18, ld18A, ld18c, ld18y, zd26, zd26A, zd26c, rfl, rfl, ld10q, ld10o, ld18q, ld18o, (by omega), (by omega), (by omega)⟩)
end Go.Proofs.Ytepfcnpojhlpdaa
