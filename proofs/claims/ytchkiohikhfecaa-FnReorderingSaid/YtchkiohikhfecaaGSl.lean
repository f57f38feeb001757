/-
  Copies, comparisons and markings of []int and []byte, as the laws make them.
-/
import Derived.Test.YtchkiohikhfecaaG01
import Derived.Test.YtchkiohikhfecaaSlice
namespace Go.Proofs.Ytchkiohikhfecaa
open Go.RowKit
set_option maxRecDepth 100000

theorem toByteS_c (A : Option Addr) (n c : Nat) (zs : List Int) (w : World) (hn : n ≤ 1099511627776) (hr : Rd w w.heap.size A n (zs.map (Value.int .u8))) : Calls Try.prog 53 #[.slice A n c] w (Ret w (fun v new => ∃ b, v = .slice (some ⟨b, 0, none⟩) n n ∧ new = [.row (.slice (some ⟨b, 0, none⟩) n n) 5 1 n (zs.map (Value.int .u8))])) := by
  refine calls_FA Try.func53 rfl (n := 22) rfl (l := [(0, Value.slice A n c)]) rfl (by simp) (fun g => ?_)
  have hS := St.init w
  refine wp_seq ?_
  refine c_reg ?_
  refine q_seg (S := (fun x_ => St w x_ [])) [(2, Value.slice none 0 0)] [.no] True (by kernel_rfl) trivial hS ?_
  refine l_nil rfl ?_
  refine then_n ?_
  refine wp_seq ?_
  refine c_reg ?_
  refine q_seg (S := (fun x_ => St w x_ [])) [(6, Value.int .i64 ((n : Nat) : Int)), (5, Value.slice A n c)] [.no, .no] True (by kernel_rfl) trivial hS ?_
  refine l_op rfl rfl (fun K hK => op_make (d := some 7) rfl rfl (e := 5) (by kernel_rfl) [Value.int .u8 0] (by kernel_rfl) 1 (by kernel_rfl) 1 (by kernel_rfl) n n (kl := .i64) (kc := .i64) (by kernel_rfl) (by kernel_rfl) (by omega) (by omega) (by unfold maxLen; omega) hS (fun blk2 w1 hS1 => hK _ _ ?_))
  clear hK K
  refine q_seg (S := (fun x_ => St w x_ [Res.row (Value.slice (some ⟨blk2, 0, none⟩) n n) 5 1 n (zrow [Value.int .u8 0] (n * 1))])) [(3, Value.slice (some ⟨blk2, 0, none⟩) n n)] [.no] True (by kernel_rfl) trivial hS1 ?_
  refine l_nil rfl ?_
  refine then_n ?_
  refine wp_seq ?_
  refine wp_seq ?_
  refine c_reg ?_
  refine q_seg (S := (fun x_ => St w x_ [Res.row (Value.slice (some ⟨blk2, 0, none⟩) n n) 5 1 n (zrow [Value.int .u8 0] (n * 1))])) [(4, Value.int .i64 0)] [.no] True (by kernel_rfl) trivial hS1 ?_
  refine l_nil rfl ?_
  refine then_n ?_
  refine wp_block ?_
  refine c_loop (X := Nat) (fun (k : Nat) => [(0, Value.slice A n c), (3, Value.slice (some ⟨blk2, 0, none⟩) n n), (4, Value.int .i64 ((k : Nat) : Int))]) (fun (k : Nat) (wr : World) => (k ≤ n) ∧ St w wr [Res.row (Value.slice (some ⟨blk2, 0, none⟩) n n) 5 1 n ((zs.take k).map (Value.int .u8) ++ List.replicate (n - k) (Value.int .u8 0))]) (fun (k : Nat) => n - k) 0 ?_ ?_ ?_
  · exact (agree_cons (by kernel_rfl) (agree_cons (by kernel_rfl) (agree_cons (by kernel_rfl) agree_nil)))
  · exact ⟨Nat.zero_le _, (hS1.eqv (by simp [zrow_one]))⟩
  rintro k g4 w3 ⟨hkn, hS3⟩
  refine wp_seq ?_
  refine wp_seq ?_
  refine c_reg ?_
  refine q_seg (S := (fun x_ => St w x_ [Res.row (Value.slice (some ⟨blk2, 0, none⟩) n n) 5 1 n ((zs.take k).map (Value.int .u8) ++ List.replicate (n - k) (Value.int .u8 0))])) [(11, Value.bool (decide (((k : Nat) : Int) < ((n : Nat) : Int)))), (10, Value.int .i64 ((n : Nat) : Int)), (9, Value.slice A n c), (8, Value.int .i64 ((k : Nat) : Int))] [.no, .no, .no, .no] True (by kernel_rfl) trivial hS3 ?_
  refine l_nil rfl ?_
  refine then_n ?_
  rcases Bool.eq_false_or_eq_true (decide (((k : Nat) : Int) < ((n : Nat) : Int))) with hb5 | hb5
  · skip
    have hb5p := of_decide_eq_true hb5
    obtain ⟨b, off, rfl, hbB, hcl⟩ := hr.2 (by omega)
    obtain ⟨z, hzk, hzm⟩ := get_of_lt (l := zs) (k := k) (by have := hr.len; omega)
    have hb_lt : k < n := by omega
    refine c_true (b := (decide (((k : Nat) : Int) < ((n : Nat) : Int)))) (by kernel_rfl) hb5 ?_
    refine wp_skip ?_
    refine then_n ?_
    refine wp_seq ?_
    refine wp_block ?_
    refine c_reg ?_
    refine q_seg (S := (fun x_ => St w x_ [Res.row (Value.slice (some ⟨blk2, 0, none⟩) n n) 5 1 n ((zs.take k).map (Value.int .u8) ++ List.replicate (n - k) (Value.int .u8 0))])) [(20, Value.pointer (some ⟨blk2, 0 + Int.toNat ((k : Nat) : Int) * 1, none⟩)), (19, Value.int .u8 z), (18, Value.pointer (some ⟨b, off + Int.toNat ((k : Nat) : Int) * 1, none⟩)), (17, Value.int .i64 ((k : Nat) : Int)), (16, Value.slice (some ⟨b, off, none⟩) n c), (15, Value.int .i64 ((k : Nat) : Int)), (14, Value.slice (some ⟨blk2, 0, none⟩) n n)] [.no, .no, .no, .no, .no, .v (Value.int .u8 z), .no] (((0 : Int) ≤ ((k : Nat) : Int)) ∧ (((k : Nat) : Int) < ((n : Nat) : Int)) ∧ (LoadsAt Try.prog (fun x_ => St w x_ [Res.row (Value.slice (some ⟨blk2, 0, none⟩) n n) 5 1 n ((zs.take k).map (Value.int .u8) ++ List.replicate (n - k) (Value.int .u8 0))]) 5 ⟨b, off + Int.toNat ((k : Nat) : Int) * 1, none⟩ (Value.int .u8 z)) ∧ ((0 : Int) ≤ ((k : Nat) : Int)) ∧ (((k : Nat) : Int) < ((n : Nat) : Int))) (by kernel_rfl) ⟨(by omega), (by omega), (ld_low (hcl _ _ (by simp [hzk])) (by kernel_rfl)), (by omega), (by omega)⟩ hS3 ?_
    have hlnw6 := hS3.row_len (List.mem_of_getElem? (i := 0) rfl)
    refine l_op rfl rfl (fun K hK => op_storeRow (d := none) rfl rfl (i := 0) (b := blk2) (off := 0 + Int.toNat ((k : Nat) : Int) * 1) (m := n) (cap := n) (e := 5) (sz := 1) (xs := ((zs.take k).map (Value.int .u8) ++ List.replicate (n - k) (Value.int .u8 0))) (by kernel_rfl) (by kernel_rfl) [Value.int .u8 z] (by kernel_rfl) (by kernel_rfl) (by rw [hlnw6]; simp only [List.length_cons, List.length_nil]; omega) (by rfl) [Res.row (Value.slice (some ⟨blk2, 0, none⟩) n n) 5 1 n (List.take (0 + Int.toNat ((k : Nat) : Int) * 1) ((zs.take k).map (Value.int .u8) ++ List.replicate (n - k) (Value.int .u8 0)) ++ [Value.int .u8 z] ++ List.drop (0 + Int.toNat ((k : Nat) : Int) * 1 + List.length [Value.int .u8 z]) ((zs.take k).map (Value.int .u8) ++ List.replicate (n - k) (Value.int .u8 0)))] (by kernel_rfl) hS3 (fun w6 hS6 => hK _ _ ?_))
    clear hK K
    replace hS6 := hS6.eqv (own' := [Res.row (Value.slice (some ⟨blk2, 0, none⟩) n n) 5 1 n ((zs.take (k + 1)).map (Value.int .u8) ++ List.replicate (n - (k + 1)) (Value.int .u8 0))]) (by rw [fill_step hzk hb_lt])
    refine l_nil rfl ?_
    refine blk_n ?_
    refine then_n ?_
    refine c_reg ?_
    refine q_seg (S := (fun x_ => St w x_ [Res.row (Value.slice (some ⟨blk2, 0, none⟩) n n) 5 1 n ((zs.take (k + 1)).map (Value.int .u8) ++ List.replicate (n - (k + 1)) (Value.int .u8 0))])) [(4, Value.int .i64 (((k : Nat) : Int) + (1 : Int))), (13, Value.int .i64 (((k : Nat) : Int) + (1 : Int))), (12, Value.int .i64 ((k : Nat) : Int))] [.no, .no, .no] ((InK .i64 (((k : Nat) : Int) + (1 : Int)))) (by kernel_rfl) (in64 (by omega) (by omega)) hS6 ?_
    refine l_nil rfl ?_
    refine then_n ?_
    refine round_end (k + 1) ?_ ?_ ?_
    · exact (agree_cons (by kernel_rfl) (agree_cons (by kernel_rfl) (agree_cons (by kernel_rfl) agree_nil)))
    · exact ⟨(by omega), hS6⟩
    · exact (by first | omega | (dsimp only; omega))
  · skip
    have hb5p := of_decide_eq_false hb5
    refine c_false (b := (decide (((k : Nat) : Int) < ((n : Nat) : Int)))) (by kernel_rfl) hb5 ?_
    refine wp_exit ?_
    refine then_x ?_
    refine then_x ?_
    refine blk_hit ?_
    refine then_n ?_
    refine wp_seq ?_
    refine c_reg ?_
    refine q_seg (S := (fun x_ => St w x_ [Res.row (Value.slice (some ⟨blk2, 0, none⟩) n n) 5 1 n ((zs.take k).map (Value.int .u8) ++ List.replicate (n - k) (Value.int .u8 0))])) [(2, Value.slice (some ⟨blk2, 0, none⟩) n n), (21, Value.slice (some ⟨blk2, 0, none⟩) n n)] [.no, .no] True (by kernel_rfl) trivial hS3 ?_
    refine l_nil rfl ?_
    refine then_n ?_
    refine wp_ret ?_
    exact c_end (S := (fun x_ => St w x_ [Res.row (Value.slice (some ⟨blk2, 0, none⟩) n n) 5 1 n ((zs.take k).map (Value.int .u8) ++ List.replicate (n - k) (Value.int .u8 0))])) (rs := [.tmp 2]) rfl [] (v := Value.slice (some ⟨blk2, 0, none⟩) n n) (C := True) (by kernel_rfl) trivial hS3 ((hS3.eqv (by rw [take_all (by have := hr.len; omega), show n - k = 0 by omega, List.replicate_zero, List.append_nil])).rt ⟨_, rfl, rfl⟩)
theorem eqByteS_c (A B : Option Addr) (n c d : Nat) (zs : List Int) (w : World) (hn : n ≤ 9223372036854775807) (hr : Rd w w.heap.size A n (zs.map (Value.int .u8))) (hr2 : Rd w w.heap.size B n (zs.map (Value.int .u8))) : Calls Try.prog 54 #[.slice A n c, .slice B n d] w (RetV w (.bool true)) := by
  refine calls_FA Try.func54 rfl (n := 26) rfl (l := [(0, Value.slice A n c), (1, Value.slice B n d)]) rfl (by simp) (fun g => ?_)
  have hS := St.init w
  refine wp_seq ?_
  refine c_reg ?_
  refine q_seg (S := (fun x_ => St w x_ [])) [(4, Value.bool false)] [.no] True (by kernel_rfl) trivial hS ?_
  refine l_nil rfl ?_
  refine then_n ?_
  refine wp_seq ?_
  refine wp_seq ?_
  refine c_reg ?_
  refine q_seg (S := (fun x_ => St w x_ [])) [(10, Value.bool (!(decide (((n : Nat) : Int) = ((n : Nat) : Int))))), (9, Value.int .i64 ((n : Nat) : Int)), (8, Value.slice B n d), (7, Value.int .i64 ((n : Nat) : Int)), (6, Value.slice A n c)] [.no, .no, .no, .no, .no] True (by kernel_rfl) trivial hS ?_
  refine l_nil rfl ?_
  refine then_n ?_
  refine c_false (b := (!(decide (((n : Nat) : Int) = ((n : Nat) : Int))))) (by kernel_rfl) (nb (v := true) (decide_eq_true rfl)) ?_
  refine wp_skip ?_
  refine then_n ?_
  refine wp_seq ?_
  refine wp_seq ?_
  refine c_reg ?_
  refine q_seg (S := (fun x_ => St w x_ [])) [(5, Value.int .i64 0)] [.no] True (by kernel_rfl) trivial hS ?_
  refine l_nil rfl ?_
  refine then_n ?_
  refine wp_block ?_
  refine c_loop (X := Nat) (fun (k : Nat) => [(0, Value.slice A n c), (1, Value.slice B n d), (5, Value.int .i64 ((k : Nat) : Int))]) (fun (k : Nat) (wr : World) => (k ≤ n) ∧ St w wr []) (fun (k : Nat) => n - k) 0 ?_ ?_ ?_
  · exact (agree_cons (by kernel_rfl) (agree_cons (by kernel_rfl) (agree_cons (by kernel_rfl) agree_nil)))
  · exact ⟨Nat.zero_le _, hS⟩
  rintro k g2 w1 ⟨hkn, hS1⟩
  refine wp_seq ?_
  refine wp_seq ?_
  refine c_reg ?_
  refine q_seg (S := (fun x_ => St w x_ [])) [(14, Value.bool (decide (((k : Nat) : Int) < ((n : Nat) : Int)))), (13, Value.int .i64 ((n : Nat) : Int)), (12, Value.slice A n c), (11, Value.int .i64 ((k : Nat) : Int))] [.no, .no, .no, .no] True (by kernel_rfl) trivial hS1 ?_
  refine l_nil rfl ?_
  refine then_n ?_
  rcases Bool.eq_false_or_eq_true (decide (((k : Nat) : Int) < ((n : Nat) : Int))) with hb3 | hb3
  · skip
    have hb3p := of_decide_eq_true hb3
    obtain ⟨b, off, rfl, hbB, hcl⟩ := hr.2 (by omega)
    obtain ⟨b2, off2, rfl, hbB2, hcl2⟩ := hr2.2 (by omega)
    obtain ⟨z, hzk, hzm⟩ := get_of_lt (l := zs) (k := k) (by have := hr.len; omega)
    refine c_true (b := (decide (((k : Nat) : Int) < ((n : Nat) : Int)))) (by kernel_rfl) hb3 ?_
    refine wp_skip ?_
    refine then_n ?_
    refine wp_seq ?_
    refine wp_block ?_
    refine wp_seq ?_
    refine c_drawn [] (by kernel_rfl) hS1 (fun w4 hS4 => ?_)
    refine t_seg (S := (fun x_ => St w x_ [])) [(0, .no), (1, .no), (4, .no), (5, .no), (2, .no), (6, .no), (3, .v (Value.int .u8 z)), (7, .v (Value.int .u8 z)), (8, .no)] 0 #[true, true, true, true, true, true, true, true, true] [(25, Value.bool (!(decide (z = z)))), (24, Value.int .u8 z), (20, Value.int .u8 z), (23, Value.pointer (some ⟨b2, off2 + Int.toNat ((k : Nat) : Int) * 1, none⟩)), (19, Value.pointer (some ⟨b, off + Int.toNat ((k : Nat) : Int) * 1, none⟩)), (22, Value.int .i64 ((k : Nat) : Int)), (21, Value.slice (some ⟨b2, off2, none⟩) n d), (18, Value.int .i64 ((k : Nat) : Int)), (17, Value.slice (some ⟨b, off, none⟩) n c)] (((0 : Int) ≤ ((k : Nat) : Int)) ∧ (((k : Nat) : Int) < ((n : Nat) : Int)) ∧ ((0 : Int) ≤ ((k : Nat) : Int)) ∧ (((k : Nat) : Int) < ((n : Nat) : Int)) ∧ (LoadsAt Try.prog (fun x_ => St w x_ []) 5 ⟨b, off + Int.toNat ((k : Nat) : Int) * 1, none⟩ (Value.int .u8 z)) ∧ (LoadsAt Try.prog (fun x_ => St w x_ []) 5 ⟨b2, off2 + Int.toNat ((k : Nat) : Int) * 1, none⟩ (Value.int .u8 z))) (by kernel_rfl) (Qpanic.then (Qpanic.block (Qpanic.then (Qpanic.then (Qpanic.block (Qpanic.then Qpanic.bp)))))) rfl (by kernel_rfl) ⟨(by omega), (by omega), (by omega), (by omega), (ld_low (hcl _ _ (by simp [hzk])) (by kernel_rfl)), (ld_low (hcl2 _ _ (by simp [hzk])) (by kernel_rfl))⟩ hS4 ?_
    refine a_done (by kernel_rfl) ?_
    refine then_n ?_
    refine c_false (b := (!(decide (z = z)))) (by kernel_rfl) (nb (v := true) (decide_eq_true rfl)) ?_
    refine wp_skip ?_
    refine blk_n ?_
    refine then_n ?_
    refine c_reg ?_
    refine q_seg (S := (fun x_ => St w x_ [])) [(5, Value.int .i64 (((k : Nat) : Int) + (1 : Int))), (16, Value.int .i64 (((k : Nat) : Int) + (1 : Int))), (15, Value.int .i64 ((k : Nat) : Int))] [.no, .no, .no] ((InK .i64 (((k : Nat) : Int) + (1 : Int)))) (by kernel_rfl) (in64 (by omega) (by omega)) hS4 ?_
    refine l_nil rfl ?_
    refine then_n ?_
    refine round_end (k + 1) ?_ ?_ ?_
    · exact (agree_cons (by kernel_rfl) (agree_cons (by kernel_rfl) (agree_cons (by kernel_rfl) agree_nil)))
    · exact ⟨(by omega), hS4⟩
    · exact (by first | omega | (dsimp only; omega))
  · skip
    have hb3p := of_decide_eq_false hb3
    refine c_false (b := (decide (((k : Nat) : Int) < ((n : Nat) : Int)))) (by kernel_rfl) hb3 ?_
    refine wp_exit ?_
    refine then_x ?_
    refine then_x ?_
    refine blk_hit ?_
    refine then_n ?_
    refine wp_seq ?_
    refine c_reg ?_
    refine q_seg (S := (fun x_ => St w x_ [])) [(4, Value.bool true)] [.no] True (by kernel_rfl) trivial hS1 ?_
    refine l_nil rfl ?_
    refine then_n ?_
    refine wp_ret ?_
    exact c_end (S := (fun x_ => St w x_ [])) (rs := [.tmp 4]) rfl [] (v := Value.bool true) (C := True) (by kernel_rfl) trivial hS1 ((hS1.rv rfl))
theorem markByteS_c (A : Option Addr) (n c : Nat) (k0 : Int) (xs : List Value) (tl : List Res) (w0 w : World) (hS : St w0 w (.row (.slice A n c) 5 1 n xs :: tl)) (hk1 : -1099511627776 ≤ k0) (hk2 : k0 ≤ 1099511627776) (hn : n ≤ 1099511627776) : Calls Try.prog 55 #[.slice A n c, .int .i64 k0] w (fun e w' => ∃ v own', e = .returned v ∧ St w0 w' own' ∧ (v = .int .i64 (k0 + ((n : Nat) : Int)) ∧ own' = .row (.slice A n c) 5 1 n ((marks (IntKind.wrap .u8) k0 n).map (Value.int .u8)) :: tl)) := by
  have hxl : xs.length = n := by have := hS.row_len (List.mem_of_getElem? (i := 0) rfl); omega
  refine calls_FA Try.func55 rfl (n := 20) rfl (l := [(0, Value.slice A n c), (1, Value.int .i64 k0)]) rfl (by simp) (fun g => ?_)
  refine wp_seq ?_
  refine c_reg ?_
  refine q_seg (S := (fun x_ => St w0 x_ (Res.row (Value.slice A n c) 5 1 n xs :: tl))) [(4, Value.int .i64 0)] [.no] True (by kernel_rfl) trivial hS ?_
  refine l_nil rfl ?_
  refine then_n ?_
  refine wp_seq ?_
  refine wp_seq ?_
  refine c_reg ?_
  refine q_seg (S := (fun x_ => St w0 x_ (Res.row (Value.slice A n c) 5 1 n xs :: tl))) [(5, Value.int .i64 0)] [.no] True (by kernel_rfl) trivial hS ?_
  refine l_nil rfl ?_
  refine then_n ?_
  refine wp_block ?_
  refine c_loop (X := Nat) (fun (k : Nat) => [(0, Value.slice A n c), (1, Value.int .i64 (k0 + ((k : Nat) : Int))), (5, Value.int .i64 ((k : Nat) : Int))]) (fun (k : Nat) (wr : World) => (k ≤ n) ∧ St w0 wr (Res.row (Value.slice A n c) 5 1 n ((marks (IntKind.wrap .u8) k0 k).map (Value.int .u8) ++ xs.drop k) :: tl)) (fun (k : Nat) => n - k) 0 ?_ ?_ ?_
  · exact (agree_cons (by kernel_rfl) (agree_eq (v0 := Value.int .i64 k0) (by kernel_rfl) (congrArg (Value.int .i64) (by simp)) (agree_cons (by kernel_rfl) agree_nil)))
  · exact ⟨Nat.zero_le _, (hS.eqv (by simp [marks]))⟩
  rintro k g2 w1 ⟨hkn, hS1⟩
  refine wp_seq ?_
  refine wp_seq ?_
  refine c_reg ?_
  refine q_seg (S := (fun x_ => St w0 x_ (Res.row (Value.slice A n c) 5 1 n ((marks (IntKind.wrap .u8) k0 k).map (Value.int .u8) ++ xs.drop k) :: tl))) [(9, Value.bool (decide (((k : Nat) : Int) < ((n : Nat) : Int)))), (8, Value.int .i64 ((n : Nat) : Int)), (7, Value.slice A n c), (6, Value.int .i64 ((k : Nat) : Int))] [.no, .no, .no, .no] True (by kernel_rfl) trivial hS1 ?_
  refine l_nil rfl ?_
  refine then_n ?_
  rcases Bool.eq_false_or_eq_true (decide (((k : Nat) : Int) < ((n : Nat) : Int))) with hb3 | hb3
  · skip
    have hb3p := of_decide_eq_true hb3
    obtain ⟨blk4, rfl⟩ := hS1.row_at (List.mem_of_getElem? (i := 0) rfl) (by omega)
    have hb_lt : k < n := by omega
    refine c_true (b := (decide (((k : Nat) : Int) < ((n : Nat) : Int)))) (by kernel_rfl) hb3 ?_
    refine wp_skip ?_
    refine then_n ?_
    refine wp_seq ?_
    refine wp_block ?_
    refine wp_seq ?_
    refine c_reg ?_
    refine q_seg (S := (fun x_ => St w0 x_ (Res.row (Value.slice (some ⟨blk4, 0, none⟩) n c) 5 1 n ((marks (IntKind.wrap .u8) k0 k).map (Value.int .u8) ++ xs.drop k) :: tl))) [(16, Value.pointer (some ⟨blk4, 0 + Int.toNat ((k : Nat) : Int) * 1, none⟩)), (15, Value.int .u8 (IntKind.wrap .u8 (k0 + ((k : Nat) : Int)))), (14, Value.int .i64 (k0 + ((k : Nat) : Int))), (13, Value.int .i64 ((k : Nat) : Int)), (12, Value.slice (some ⟨blk4, 0, none⟩) n c)] [.no, .no, .no, .v (.int .u8 (IntKind.wrap .u8 (k0 + ((k : Nat) : Int)))), .no] ((IntKind.wrap .u8 (k0 + ((k : Nat) : Int)) = (IntKind.wrap .u8 (k0 + ((k : Nat) : Int)))) ∧ ((0 : Int) ≤ ((k : Nat) : Int)) ∧ (((k : Nat) : Int) < ((n : Nat) : Int))) (by kernel_rfl) ⟨rfl, (by omega), (by omega)⟩ hS1 ?_
    have hlnw5 := hS1.row_len (List.mem_of_getElem? (i := 0) rfl)
    refine l_op rfl rfl (fun K hK => op_storeRow (d := none) rfl rfl (i := 0) (b := blk4) (off := 0 + Int.toNat ((k : Nat) : Int) * 1) (m := n) (cap := c) (e := 5) (sz := 1) (xs := ((marks (IntKind.wrap .u8) k0 k).map (Value.int .u8) ++ xs.drop k)) (by kernel_rfl) (by kernel_rfl) [Value.int .u8 (IntKind.wrap .u8 (k0 + ((k : Nat) : Int)))] (by kernel_rfl) (by kernel_rfl) (by rw [hlnw5]; simp only [List.length_cons, List.length_nil]; omega) (by rfl) (Res.row (Value.slice (some ⟨blk4, 0, none⟩) n c) 5 1 n (List.take (0 + Int.toNat ((k : Nat) : Int) * 1) ((marks (IntKind.wrap .u8) k0 k).map (Value.int .u8) ++ xs.drop k) ++ [Value.int .u8 (IntKind.wrap .u8 (k0 + ((k : Nat) : Int)))] ++ List.drop (0 + Int.toNat ((k : Nat) : Int) * 1 + List.length [Value.int .u8 (IntKind.wrap .u8 (k0 + ((k : Nat) : Int)))]) ((marks (IntKind.wrap .u8) k0 k).map (Value.int .u8) ++ xs.drop k)) :: tl) (by kernel_rfl) hS1 (fun w5 hS5 => hK _ _ ?_))
    clear hK K
    replace hS5 := hS5.eqv (own' := (Res.row (Value.slice (some ⟨blk4, 0, none⟩) n c) 5 1 n ((marks (IntKind.wrap .u8) k0 (k + 1)).map (Value.int .u8) ++ xs.drop (k + 1)) :: tl)) (by rw [mark_step (f := (IntKind.wrap .u8)) (g := Value.int .u8) (k0 := k0) hxl hb_lt])
    refine l_nil rfl ?_
    refine then_n ?_
    refine c_reg ?_
    refine q_seg (S := (fun x_ => St w0 x_ (Res.row (Value.slice (some ⟨blk4, 0, none⟩) n c) 5 1 n ((marks (IntKind.wrap .u8) k0 (k + 1)).map (Value.int .u8) ++ xs.drop (k + 1)) :: tl))) [(1, Value.int .i64 ((k0 + ((k : Nat) : Int)) + (1 : Int))), (18, Value.int .i64 ((k0 + ((k : Nat) : Int)) + (1 : Int))), (17, Value.int .i64 (k0 + ((k : Nat) : Int)))] [.no, .no, .no] ((InK .i64 ((k0 + ((k : Nat) : Int)) + (1 : Int)))) (by kernel_rfl) (in64 (by omega) (by omega)) hS5 ?_
    refine l_nil rfl ?_
    refine blk_n ?_
    refine then_n ?_
    refine c_reg ?_
    refine q_seg (S := (fun x_ => St w0 x_ (Res.row (Value.slice (some ⟨blk4, 0, none⟩) n c) 5 1 n ((marks (IntKind.wrap .u8) k0 (k + 1)).map (Value.int .u8) ++ xs.drop (k + 1)) :: tl))) [(5, Value.int .i64 (((k : Nat) : Int) + (1 : Int))), (11, Value.int .i64 (((k : Nat) : Int) + (1 : Int))), (10, Value.int .i64 ((k : Nat) : Int))] [.no, .no, .no] ((InK .i64 (((k : Nat) : Int) + (1 : Int)))) (by kernel_rfl) (in64 (by omega) (by omega)) hS5 ?_
    refine l_nil rfl ?_
    refine then_n ?_
    refine round_end (k + 1) ?_ ?_ ?_
    · exact (agree_cons (by kernel_rfl) (agree_eq (v0 := Value.int .i64 ((k0 + ((k : Nat) : Int)) + (1 : Int))) (by kernel_rfl) (congrArg (Value.int .i64) (by omega)) (agree_cons (by kernel_rfl) agree_nil)))
    · exact ⟨(by omega), hS5⟩
    · exact (by first | omega | (dsimp only; omega))
  · skip
    have hb3p := of_decide_eq_false hb3
    refine c_false (b := (decide (((k : Nat) : Int) < ((n : Nat) : Int)))) (by kernel_rfl) hb3 ?_
    refine wp_exit ?_
    refine then_x ?_
    refine then_x ?_
    refine blk_hit ?_
    refine then_n ?_
    refine wp_seq ?_
    refine c_reg ?_
    refine q_seg (S := (fun x_ => St w0 x_ (Res.row (Value.slice A n c) 5 1 n ((marks (IntKind.wrap .u8) k0 k).map (Value.int .u8) ++ xs.drop k) :: tl))) [(4, Value.int .i64 (k0 + ((k : Nat) : Int))), (19, Value.int .i64 (k0 + ((k : Nat) : Int)))] [.no, .no] True (by kernel_rfl) trivial hS1 ?_
    refine l_nil rfl ?_
    refine then_n ?_
    refine wp_ret ?_
    have hkn2 : k = n := by omega
    exact c_end (S := (fun x_ => St w0 x_ (Res.row (Value.slice A n c) 5 1 n ((marks (IntKind.wrap .u8) k0 k).map (Value.int .u8) ++ xs.drop k) :: tl))) (rs := [.tmp 4]) rfl [] (v := Value.int .i64 (k0 + ((k : Nat) : Int))) (C := True) (by kernel_rfl) trivial hS1 (⟨_, _, rfl, hS1.eqv (by rw [hkn2, drop_all (by omega), List.append_nil]), by rw [hkn2], rfl⟩)
theorem heldByteS_c (A : Option Addr) (n c : Nat) (k0 : Int) (w : World) (hk1 : -1099511627776 ≤ k0) (hk2 : k0 ≤ 1099511627776) (hn : n ≤ 1099511627776) (hr : Rd w w.heap.size A n ((marks (IntKind.wrap .u8) k0 n).map (Value.int .u8))) : Calls Try.prog 90 #[.slice A n c, .int .i64 k0] w (RetV w (.int .i64 (k0 + ((n : Nat) : Int)))) := by
  refine calls_FA Try.func90 rfl (n := 22) rfl (l := [(0, Value.slice A n c), (1, Value.int .i64 k0)]) rfl (by simp) (fun g => ?_)
  have hS := St.init w
  refine wp_seq ?_
  refine c_reg ?_
  refine q_seg (S := (fun x_ => St w x_ [])) [(4, Value.int .i64 0)] [.no] True (by kernel_rfl) trivial hS ?_
  refine l_nil rfl ?_
  refine then_n ?_
  refine wp_seq ?_
  refine wp_seq ?_
  refine c_reg ?_
  refine q_seg (S := (fun x_ => St w x_ [])) [(5, Value.int .i64 0)] [.no] True (by kernel_rfl) trivial hS ?_
  refine l_nil rfl ?_
  refine then_n ?_
  refine wp_block ?_
  refine c_loop (X := Nat) (fun (k : Nat) => [(0, Value.slice A n c), (1, Value.int .i64 (k0 + ((k : Nat) : Int))), (5, Value.int .i64 ((k : Nat) : Int))]) (fun (k : Nat) (wr : World) => (k ≤ n) ∧ St w wr []) (fun (k : Nat) => n - k) 0 ?_ ?_ ?_
  · exact (agree_cons (by kernel_rfl) (agree_eq (v0 := Value.int .i64 k0) (by kernel_rfl) (congrArg (Value.int .i64) (by simp)) (agree_cons (by kernel_rfl) agree_nil)))
  · exact ⟨Nat.zero_le _, hS⟩
  rintro k g2 w1 ⟨hkn, hS1⟩
  refine wp_seq ?_
  refine wp_seq ?_
  refine c_reg ?_
  refine q_seg (S := (fun x_ => St w x_ [])) [(9, Value.bool (decide (((k : Nat) : Int) < ((n : Nat) : Int)))), (8, Value.int .i64 ((n : Nat) : Int)), (7, Value.slice A n c), (6, Value.int .i64 ((k : Nat) : Int))] [.no, .no, .no, .no] True (by kernel_rfl) trivial hS1 ?_
  refine l_nil rfl ?_
  refine then_n ?_
  rcases Bool.eq_false_or_eq_true (decide (((k : Nat) : Int) < ((n : Nat) : Int))) with hb3 | hb3
  · skip
    have hb3p := of_decide_eq_true hb3
    obtain ⟨b, off, rfl, hbB, hcl⟩ := hr.2 (by omega)
    have hb_lt : k < n := by omega
    refine c_true (b := (decide (((k : Nat) : Int) < ((n : Nat) : Int)))) (by kernel_rfl) hb3 ?_
    refine wp_skip ?_
    refine then_n ?_
    refine wp_seq ?_
    refine wp_block ?_
    refine wp_seq ?_
    refine wp_seq ?_
    refine c_reg ?_
    refine q_seg (S := (fun x_ => St w x_ [])) [(18, Value.bool (!(decide ((IntKind.wrap .u8 (k0 + ((k : Nat) : Int))) = (IntKind.wrap .u8 (k0 + ((k : Nat) : Int))))))), (17, Value.int .u8 (IntKind.wrap .u8 (k0 + ((k : Nat) : Int)))), (16, Value.int .i64 (k0 + ((k : Nat) : Int))), (15, Value.int .u8 (IntKind.wrap .u8 (k0 + ((k : Nat) : Int)))), (14, Value.pointer (some ⟨b, off + Int.toNat ((k : Nat) : Int) * 1, none⟩)), (13, Value.int .i64 ((k : Nat) : Int)), (12, Value.slice (some ⟨b, off, none⟩) n c)] [.no, .no, .no, .v (Value.int .u8 (IntKind.wrap .u8 (k0 + ((k : Nat) : Int)))), .no, .v (.int .u8 (IntKind.wrap .u8 (k0 + ((k : Nat) : Int)))), .no] (((0 : Int) ≤ ((k : Nat) : Int)) ∧ (((k : Nat) : Int) < ((n : Nat) : Int)) ∧ (LoadsAt Try.prog (fun x_ => St w x_ []) 5 ⟨b, off + Int.toNat ((k : Nat) : Int) * 1, none⟩ (Value.int .u8 (IntKind.wrap .u8 (k0 + ((k : Nat) : Int))))) ∧ (IntKind.wrap .u8 (k0 + ((k : Nat) : Int)) = (IntKind.wrap .u8 (k0 + ((k : Nat) : Int))))) (by kernel_rfl) ⟨(by omega), (by omega), (ld_low (hcl _ _ (by rw [Int.toNat_natCast, Nat.mul_one]; exact map_get (marks_get hb_lt))) (by kernel_rfl)), rfl⟩ hS1 ?_
    refine l_nil rfl ?_
    refine then_n ?_
    refine c_false (b := (!(decide ((IntKind.wrap .u8 (k0 + ((k : Nat) : Int))) = (IntKind.wrap .u8 (k0 + ((k : Nat) : Int))))))) (by kernel_rfl) (nb (v := true) (decide_eq_true rfl)) ?_
    refine wp_skip ?_
    refine then_n ?_
    refine c_reg ?_
    refine q_seg (S := (fun x_ => St w x_ [])) [(1, Value.int .i64 ((k0 + ((k : Nat) : Int)) + (1 : Int))), (20, Value.int .i64 ((k0 + ((k : Nat) : Int)) + (1 : Int))), (19, Value.int .i64 (k0 + ((k : Nat) : Int)))] [.no, .no, .no] ((InK .i64 ((k0 + ((k : Nat) : Int)) + (1 : Int)))) (by kernel_rfl) (in64 (by omega) (by omega)) hS1 ?_
    refine l_nil rfl ?_
    refine blk_n ?_
    refine then_n ?_
    refine c_reg ?_
    refine q_seg (S := (fun x_ => St w x_ [])) [(5, Value.int .i64 (((k : Nat) : Int) + (1 : Int))), (11, Value.int .i64 (((k : Nat) : Int) + (1 : Int))), (10, Value.int .i64 ((k : Nat) : Int))] [.no, .no, .no] ((InK .i64 (((k : Nat) : Int) + (1 : Int)))) (by kernel_rfl) (in64 (by omega) (by omega)) hS1 ?_
    refine l_nil rfl ?_
    refine then_n ?_
    refine round_end (k + 1) ?_ ?_ ?_
    · exact (agree_cons (by kernel_rfl) (agree_eq (v0 := Value.int .i64 ((k0 + ((k : Nat) : Int)) + (1 : Int))) (by kernel_rfl) (congrArg (Value.int .i64) (by omega)) (agree_cons (by kernel_rfl) agree_nil)))
    · exact ⟨(by omega), hS1⟩
    · exact (by first | omega | (dsimp only; omega))
  · skip
    have hb3p := of_decide_eq_false hb3
    refine c_false (b := (decide (((k : Nat) : Int) < ((n : Nat) : Int)))) (by kernel_rfl) hb3 ?_
    refine wp_exit ?_
    refine then_x ?_
    refine then_x ?_
    refine blk_hit ?_
    refine then_n ?_
    refine wp_seq ?_
    refine c_reg ?_
    refine q_seg (S := (fun x_ => St w x_ [])) [(4, Value.int .i64 (k0 + ((k : Nat) : Int))), (21, Value.int .i64 (k0 + ((k : Nat) : Int)))] [.no, .no] True (by kernel_rfl) trivial hS1 ?_
    refine l_nil rfl ?_
    refine then_n ?_
    refine wp_ret ?_
    have hkn2 : k = n := by omega
    exact c_end (S := (fun x_ => St w x_ [])) (rs := [.tmp 4]) rfl [] (v := Value.int .i64 (k0 + ((k : Nat) : Int))) (C := True) (by kernel_rfl) trivial hS1 ((hS1.rv (by rw [hkn2])))
theorem szByteS_c (A : Option Addr) (n c : Nat) (lf : Int) (w : World) (h1 : 0 ≤ lf) (h2 : lf ≤ 1099511627776) (hn : n ≤ 9223372036854775807) : Calls Try.prog 62 #[.slice A n c, .int .i64 lf] w (RetV w (.int .i64 (szl lf n))) := by
  refine calls_FA Try.func62 rfl (n := 12) rfl (l := [(0, Value.slice A n c), (1, Value.int .i64 lf)]) rfl (by simp) (fun g => ?_)
  have hS := St.init w
  refine wp_seq ?_
  refine c_reg ?_
  refine q_seg (S := (fun x_ => St w x_ [])) [(4, Value.int .i64 0)] [.no] True (by kernel_rfl) trivial hS ?_
  refine l_nil rfl ?_
  refine then_n ?_
  refine wp_seq ?_
  refine c_reg ?_
  refine q_seg (S := (fun x_ => St w x_ [])) [(1, Value.int .i64 (lf - ((n : Nat) : Int))), (8, Value.int .i64 (lf - ((n : Nat) : Int))), (7, Value.int .i64 ((n : Nat) : Int)), (6, Value.slice A n c), (5, Value.int .i64 lf)] [.no, .no, .no, .no, .no] ((InK .i64 (lf - ((n : Nat) : Int)))) (by kernel_rfl) (in64 (by omega) (by omega)) hS ?_
  refine l_nil rfl ?_
  refine then_n ?_
  refine wp_seq ?_
  refine wp_seq ?_
  refine c_reg ?_
  refine q_seg (S := (fun x_ => St w x_ [])) [(10, Value.bool (decide ((lf - ((n : Nat) : Int)) < (0 : Int)))), (9, Value.int .i64 (lf - ((n : Nat) : Int)))] [.no, .no] True (by kernel_rfl) trivial hS ?_
  refine l_nil rfl ?_
  refine then_n ?_
  rcases Bool.eq_false_or_eq_true (decide ((lf - ((n : Nat) : Int)) < (0 : Int))) with hb1 | hb1
  · skip
    have hb1p := of_decide_eq_true hb1
    refine c_true (b := (decide ((lf - ((n : Nat) : Int)) < (0 : Int)))) (by kernel_rfl) hb1 ?_
    refine wp_seq ?_
    refine c_reg ?_
    refine q_seg (S := (fun x_ => St w x_ [])) [(4, Value.int .i64 (-1))] [.no] True (by kernel_rfl) trivial hS ?_
    refine l_nil rfl ?_
    refine then_n ?_
    refine wp_ret ?_
    refine then_r ?_
    exact c_end (S := (fun x_ => St w x_ [])) (rs := [.tmp 4]) rfl [] (v := Value.int .i64 (-1)) (C := True) (by kernel_rfl) trivial hS ((hS.rv (congrArg (Value.int .i64) (by unfold szl; split <;> omega))))
  · skip
    have hb1p := of_decide_eq_false hb1
    refine c_false (b := (decide ((lf - ((n : Nat) : Int)) < (0 : Int)))) (by kernel_rfl) hb1 ?_
    refine wp_skip ?_
    refine then_n ?_
    refine wp_seq ?_
    refine c_reg ?_
    refine q_seg (S := (fun x_ => St w x_ [])) [(4, Value.int .i64 (lf - ((n : Nat) : Int))), (11, Value.int .i64 (lf - ((n : Nat) : Int)))] [.no, .no] True (by kernel_rfl) trivial hS ?_
    refine l_nil rfl ?_
    refine then_n ?_
    refine wp_ret ?_
    exact c_end (S := (fun x_ => St w x_ [])) (rs := [.tmp 4]) rfl [] (v := Value.int .i64 (lf - ((n : Nat) : Int))) (C := True) (by kernel_rfl) trivial hS ((hS.rv (congrArg (Value.int .i64) (by unfold szl; split <;> omega))))
end Go.Proofs.Ytchkiohikhfecaa
