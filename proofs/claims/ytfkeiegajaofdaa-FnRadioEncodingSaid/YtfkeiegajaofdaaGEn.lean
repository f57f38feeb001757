/-
  Contracts of the writers: numbers, byte strings, messages, packets.
-/
import Derived.Test.YtfkeiegajaofdaaGRa
import Derived.Test.YtfkeiegajaofdaaEnc
namespace Go.Proofs.Ytfkeiegajaofdaa
open Go.RowKit
set_option maxRecDepth 100000

theorem AppendUvarint_i_c (A : Option Addr) (n c : Nat) (zs : List Int) (x : Int) (w : World) (hn : n ≤ 1000000000) (hr : Rd w w.heap.size A n (zs.map (Value.int .u8))) : Calls Try.prog 93 #[.slice A n c, .int .i64 x] w (Ret w (fun v new => ∃ (A0_ : Option Addr) (c0_ : Nat), v = Value.slice A0_ (List.length (zs ++ uv x)) c0_ ∧ new = [Res.row (Value.slice A0_ (List.length (zs ++ uv x)) c0_) 5 1 (List.length (zs ++ uv x)) ((zs ++ uv x).map (Value.int .u8))])) := by
  have hln := hr.len
  refine calls_FA Try.func93 rfl (n := 35) rfl (l := [(0, Value.slice A n c), (1, Value.int .i64 x)]) rfl (by simp) (fun g => ?_)
  have hS := St.init w
  refine wp_seq ?_
  refine c_reg ?_
  refine q_seg (S := (fun x_ => St w x_ [])) [(4, Value.slice none 0 0)] [.no] True (by kernel_rfl) trivial hS ?_
  refine l_nil rfl ?_
  refine then_n ?_
  refine wp_seq ?_
  refine c_reg ?_
  refine q_seg (S := (fun x_ => St w x_ [])) [(10, Value.int .i64 (((n : Nat) : Int) + (6 : Int))), (9, Value.int .i64 ((n : Nat) : Int)), (8, Value.slice A n c), (7, Value.int .i64 ((n : Nat) : Int)), (6, Value.slice A n c)] [.no, .no, .no, .no, .no] ((InK .i64 (((n : Nat) : Int) + (6 : Int)))) (by kernel_rfl) (in64 (by omega) (by omega)) hS ?_
  refine l_op rfl rfl (fun K hK => op_make (d := some 11) rfl rfl (e := 5) (by kernel_rfl) [Value.int .u8 0] (by kernel_rfl) 1 (by kernel_rfl) 1 (by kernel_rfl) n (n + 6) (kl := .i64) (kc := .i64) (by kernel_rfl) (by kernel_rfl) (by omega) (by omega) (by unfold maxLen; omega) hS (fun blk2 w1 hS1 => hK _ _ ?_))
  clear hK K
  refine q_seg (S := (fun x_ => St w x_ [Res.row (Value.slice (some ⟨blk2, 0, none⟩) n (n + 6)) 5 1 n (zrow [Value.int .u8 0] (n * 1))])) [(5, Value.slice (some ⟨blk2, 0, none⟩) n (n + 6))] [.no] True (by kernel_rfl) trivial hS1 ?_
  refine l_nil rfl ?_
  refine then_n ?_
  refine wp_seq ?_
  refine c_reg ?_
  refine q_seg (S := (fun x_ => St w x_ [Res.row (Value.slice (some ⟨blk2, 0, none⟩) n (n + 6)) 5 1 n (zrow [Value.int .u8 0] (n * 1))])) [(13, Value.slice A n c), (12, Value.slice (some ⟨blk2, 0, none⟩) n (n + 6))] [.no, .no] True (by kernel_rfl) trivial hS1 ?_
  refine l_op rfl rfl (fun K hK => op_copy (d := some 14) rfl rfl (e := 5) (by kernel_rfl) (by kernel_rfl) (i := 0) (b := blk2) (cap := (n + 6)) (m := n) (xs := (zrow [Value.int .u8 0] (n * 1))) (by kernel_rfl) (by kernel_rfl) (A := A) (k := n) (c := c) (by kernel_rfl) (zs.map (Value.int .u8)) hS1 (hS1.rdlow hr) (ints_one _ _) n (by omega) (fun w3 hS3 => hK _ _ ?_))
  clear hK K
  refine l_nil rfl ?_
  refine then_n ?_
  refine wp_seq ?_
  refine wp_seq ?_
  refine c_reg ?_
  refine q_seg (S := (fun x_ => St w x_ [Res.row (Value.slice (some ⟨blk2, 0, none⟩) n (n + 6)) 5 1 n (List.take n (zs.map (Value.int .u8)) ++ List.drop n (zrow [Value.int .u8 0] (n * 1)))])) [(15, Value.int .i64 x)] [.no] True (by kernel_rfl) trivial hS3 ?_
  refine l_op rfl rfl (fun K hK => op_callv (d := some 16) rfl rfl ⟨_, Try.func59, by kernel_rfl, by kernel_rfl⟩ (vs := [Value.int .i64 x, Value.int .i64 0, Value.int .i64 1000000000000]) (by kernel_rfl) (v := Value.bool (inR x 0 1000000000000)) (InRange_c x 0 1000000000000 _) hS3 (fun w4 hS4 => hK _ _ ?_))
  clear hK K
  refine q_seg (S := (fun x_ => St w x_ [Res.row (Value.slice (some ⟨blk2, 0, none⟩) n (n + 6)) 5 1 n (List.take n (zs.map (Value.int .u8)) ++ List.drop n (zrow [Value.int .u8 0] (n * 1)))])) [(17, Value.bool (!(inR x 0 1000000000000)))] [.no] True (by kernel_rfl) trivial hS4 ?_
  refine l_nil rfl ?_
  refine then_n ?_
  rcases Bool.eq_false_or_eq_true (inR x 0 1000000000000) with hb5 | hb5
  · skip
    obtain ⟨hb5p, hb5q⟩ := inR_iff.1 hb5
    refine c_false (b := (!(inR x 0 1000000000000))) (by kernel_rfl) (nb (v := true) hb5) ?_
    refine wp_skip ?_
    refine then_n ?_
    refine wp_seq ?_
    refine wp_block ?_
    refine c_loop (X := Nat × List Int × Int × Option Addr × Nat) (fun (x_ : Nat × List Int × Int × Option Addr × Nat) => match x_ with | (k, ds, m, A2, c2) => [(1, Value.int .i64 m), (5, Value.slice A2 (List.length (zs ++ ds)) c2)]) (fun (x_ : Nat × List Int × Int × Option Addr × Nat) (wr : World) => match x_ with | (k, ds, m, A2, c2) => (venc 6 x = ds ++ venc k m) ∧ (0 ≤ m) ∧ (m < p7 k) ∧ (1 ≤ k) ∧ (ds.length + k = 6) ∧ St w wr [Res.row (Value.slice A2 (List.length (zs ++ ds)) c2) 5 1 (List.length (zs ++ ds)) ((zs ++ ds).map (Value.int .u8))]) (fun (x_ : Nat × List Int × Int × Option Addr × Nat) => match x_ with | (k, ds, m, A2, c2) => k) ((6, [], x, (some ⟨blk2, 0, none⟩), (n + 6))) ?_ ?_ ?_
    · exact (agree_cons (by kernel_rfl) (agree_eq (v0 := Value.slice (some ⟨blk2, 0, none⟩) n (n + 6)) (by kernel_rfl) (congrArg (fun m => Value.slice (some ⟨blk2, 0, none⟩) m (n + 6)) (by simp [hln])) agree_nil))
    · exact ⟨rfl, (by omega), (Int.lt_of_le_of_lt (show x ≤ 1000000000000 by omega) (by decide)), (by omega), rfl, (hS4.eqv (by first | (rw [copy_all (by rw [List.length_map]; exact hln) (by rw [zrow_length]; omega)]; simp [hln]; done) | (simp [hln]; done)))⟩
    rintro ⟨k, ds, m, A2, c2⟩ g7 w6 ⟨hv, hm0, hm1, hk1, hdl, hS6⟩
    have hm2 := p7_6 (k := k) (by omega)
    have hzd : List.length (zs ++ ds) = n + ds.length := by rw [List.length_append, hln]
    refine wp_seq ?_
    refine wp_seq ?_
    refine c_reg ?_
    refine q_seg (S := (fun x_ => St w x_ [Res.row (Value.slice A2 (List.length (zs ++ ds)) c2) 5 1 (List.length (zs ++ ds)) ((zs ++ ds).map (Value.int .u8))])) [(20, Value.bool (decide ((128 : Int) ≤ m))), (19, Value.int .i64 m)] [.no, .no] True (by kernel_rfl) trivial hS6 ?_
    refine l_nil rfl ?_
    refine then_n ?_
    rcases Bool.eq_false_or_eq_true (decide ((128 : Int) ≤ m)) with hb8 | hb8
    · skip
      have hb8p := of_decide_eq_true hb8
      have hk2 : 2 ≤ k := by
        rcases Nat.lt_or_ge k 2 with h_ | h_
        · obtain rfl : k = 1 := by omega
          simp only [p7] at hm1
          omega
        · exact h_
      obtain ⟨k2, rfl⟩ : ∃ k2, k = k2 + 1 := ⟨k - 1, by omega⟩
      have hp5 : p7 (k2 + 1) = 128 * p7 k2 := rfl
      refine c_true (b := (decide ((128 : Int) ≤ m))) (by kernel_rfl) hb8 ?_
      refine wp_skip ?_
      refine then_n ?_
      refine wp_block ?_
      refine wp_seq ?_
      refine c_reg ?_
      refine q_seg (S := (fun x_ => St w x_ [Res.row (Value.slice A2 (List.length (zs ++ ds)) c2) 5 1 (List.length (zs ++ ds)) ((zs ++ ds).map (Value.int .u8))])) [(25, Value.int .u8 ((m % (128 : Int)) + (128 : Int))), (24, Value.int .i64 ((m % (128 : Int)) + (128 : Int))), (23, Value.int .i64 (m % (128 : Int))), (22, Value.int .i64 m), (21, Value.slice A2 (List.length (zs ++ ds)) c2)] [.no, .no, .no, .no, .no] (((0 : Int) ≤ m) ∧ ((0 : Int) < (128 : Int)) ∧ (InK .i64 ((m % (128 : Int)) + (128 : Int))) ∧ (InK .u8 ((m % (128 : Int)) + (128 : Int)))) (by kernel_rfl) ⟨(by omega), (by omega), (in64 (by omega) (by omega)), (in8 (by omega) (by omega))⟩ hS6 ?_
      refine l_op rfl rfl (fun K hK => op_buildSlice (d := some 26) rfl rfl (e := 5) (by kernel_rfl) 1 (by kernel_rfl) (by decide) (by decide) [Value.int .u8 ((m % (128 : Int)) + (128 : Int))] (by kernel_rfl) rfl hS6 (fun blk10 w9 hS9 => hK _ _ ?_))
      clear hK K
      refine l_op rfl rfl (fun K hK => op_append (d := some 27) rfl rfl elByte hS9 (i := 1) rfl rfl rfl (news := [Value.int .u8 ((m % (128 : Int)) + (128 : Int))]) (hS9.rd (List.mem_of_getElem? (i := 0) rfl)) (all_one (by rfl)) (by omega) (by omega) (fun v12 w11 hS11 => hK _ _ ?_))
      clear hK K
      obtain ⟨hlv12, Av12, cv12, hvv12, hnv12, hmv12⟩ := hS11.row_slice (List.mem_of_getElem? (i := 1) rfl)
      subst hvv12
      refine q_seg (S := (fun x_ => St w x_ [Res.row (Value.slice (some ⟨blk10, 0, none⟩) 1 1) 5 1 1 ([Value.int .u8 ((m % (128 : Int)) + (128 : Int))]), Res.row (Value.slice Av12 ((List.length (zs ++ ds)) + 1) cv12) 5 1 ((List.length (zs ++ ds)) + 1) (((zs ++ ds).map (Value.int .u8)) ++ [Value.int .u8 ((m % (128 : Int)) + (128 : Int))])])) [(5, Value.slice Av12 ((List.length (zs ++ ds)) + 1) cv12)] [.no] True (by kernel_rfl) trivial hS11 ?_
      refine l_nil rfl ?_
      refine then_n ?_
      refine c_reg ?_
      refine q_seg (S := (fun x_ => St w x_ [Res.row (Value.slice (some ⟨blk10, 0, none⟩) 1 1) 5 1 1 ([Value.int .u8 ((m % (128 : Int)) + (128 : Int))]), Res.row (Value.slice Av12 ((List.length (zs ++ ds)) + 1) cv12) 5 1 ((List.length (zs ++ ds)) + 1) (((zs ++ ds).map (Value.int .u8)) ++ [Value.int .u8 ((m % (128 : Int)) + (128 : Int))])])) [(1, Value.int .i64 (m / (128 : Int))), (29, Value.int .i64 (m / (128 : Int))), (28, Value.int .i64 m)] [.no, .no, .no] (((0 : Int) ≤ m) ∧ ((0 : Int) < (128 : Int)) ∧ (InK .i64 (m / (128 : Int)))) (by kernel_rfl) ⟨(by omega), (by omega), (in64 (by omega) (by omega))⟩ hS11 ?_
      refine l_nil rfl ?_
      refine blk_n ?_
      refine then_n ?_
      have hS11s1 : St w w11 [Res.row (Value.slice Av12 ((List.length (zs ++ ds)) + 1) cv12) 5 1 ((List.length (zs ++ ds)) + 1) (((zs ++ ds).map (Value.int .u8)) ++ [Value.int .u8 ((m % (128 : Int)) + (128 : Int))])] := (hS11.sub (List.Sublist.cons _ (List.Sublist.cons_cons _ List.Sublist.slnil)))
      refine round_end ((k2, ds ++ [m % 128 + 128], m / 128, Av12, cv12)) ?_ ?_ ?_
      · exact (agree_cons (by kernel_rfl) (agree_eq (v0 := Value.slice Av12 ((List.length (zs ++ ds)) + 1) cv12) (by kernel_rfl) (congrArg (fun m => Value.slice Av12 m cv12) (by simp; omega)) agree_nil))
      · exact ⟨(by rw [hv, venc_ge (by omega), List.append_assoc]; rfl), (by omega), (by omega), (by omega), (by simp; omega), (hS11s1.eqv (by simp [Nat.add_assoc]))⟩
      · exact (by first | omega | (dsimp only; omega))
    · skip
      have hb8p := of_decide_eq_false hb8
      obtain ⟨k2, rfl⟩ : ∃ k2, k = k2 + 1 := ⟨k - 1, by omega⟩
      refine c_false (b := (decide ((128 : Int) ≤ m))) (by kernel_rfl) hb8 ?_
      refine wp_exit ?_
      refine then_x ?_
      refine then_x ?_
      refine blk_hit ?_
      refine then_n ?_
      refine wp_seq ?_
      refine c_reg ?_
      refine q_seg (S := (fun x_ => St w x_ [Res.row (Value.slice A2 (List.length (zs ++ ds)) c2) 5 1 (List.length (zs ++ ds)) ((zs ++ ds).map (Value.int .u8))])) [(32, Value.int .u8 m), (31, Value.int .i64 m), (30, Value.slice A2 (List.length (zs ++ ds)) c2)] [.no, .no, .no] ((InK .u8 m)) (by kernel_rfl) (in8 (by omega) (by omega)) hS6 ?_
      refine l_op rfl rfl (fun K hK => op_buildSlice (d := some 33) rfl rfl (e := 5) (by kernel_rfl) 1 (by kernel_rfl) (by decide) (by decide) [Value.int .u8 m] (by kernel_rfl) rfl hS6 (fun blk14 w13 hS13 => hK _ _ ?_))
      clear hK K
      refine l_op rfl rfl (fun K hK => op_append (d := some 34) rfl rfl elByte hS13 (i := 1) rfl rfl rfl (news := [Value.int .u8 m]) (hS13.rd (List.mem_of_getElem? (i := 0) rfl)) (all_one (by rfl)) (by omega) (by omega) (fun v16 w15 hS15 => hK _ _ ?_))
      clear hK K
      obtain ⟨hlv16, Av16, cv16, hvv16, hnv16, hmv16⟩ := hS15.row_slice (List.mem_of_getElem? (i := 1) rfl)
      subst hvv16
      refine q_seg (S := (fun x_ => St w x_ [Res.row (Value.slice (some ⟨blk14, 0, none⟩) 1 1) 5 1 1 ([Value.int .u8 m]), Res.row (Value.slice Av16 ((List.length (zs ++ ds)) + 1) cv16) 5 1 ((List.length (zs ++ ds)) + 1) (((zs ++ ds).map (Value.int .u8)) ++ [Value.int .u8 m])])) [(4, Value.slice Av16 ((List.length (zs ++ ds)) + 1) cv16)] [.no] True (by kernel_rfl) trivial hS15 ?_
      refine l_nil rfl ?_
      refine then_n ?_
      refine wp_ret ?_
      have hS15s2 : St w w15 [Res.row (Value.slice Av16 ((List.length (zs ++ ds)) + 1) cv16) 5 1 ((List.length (zs ++ ds)) + 1) (((zs ++ ds).map (Value.int .u8)) ++ [Value.int .u8 m])] := (hS15.sub (List.Sublist.cons _ (List.Sublist.cons_cons _ List.Sublist.slnil)))
      have hL : (zs ++ uv x) = ((zs ++ ds) ++ [m]) := by rw [uv_in hb5p hb5q, hv, venc_lt (by omega), List.append_assoc]
      exact c_end (S := (fun x_ => St w x_ [Res.row (Value.slice (some ⟨blk14, 0, none⟩) 1 1) 5 1 1 ([Value.int .u8 m]), Res.row (Value.slice Av16 ((List.length (zs ++ ds)) + 1) cv16) 5 1 ((List.length (zs ++ ds)) + 1) (((zs ++ ds).map (Value.int .u8)) ++ [Value.int .u8 m])])) (rs := [.tmp 4]) rfl [] (v := Value.slice Av16 ((List.length (zs ++ ds)) + 1) cv16) (C := True) (by kernel_rfl) trivial hS15 (by rw [hL]; exact (hS15s2.eqv (by first | rfl | (rw [hcp]; simp [hln]; done) | (simp; done) | (simp [Nat.add_assoc]; done) | (simp [hln, Nat.add_assoc]; done) | (simp [*, Nat.add_assoc]; done))).rt ⟨Av16, cv16, (by first | rfl | (rw [hcp]; simp [hln]; done) | (simp; done) | (simp [Nat.add_assoc]; done) | (simp [hln, Nat.add_assoc]; done) | (simp [*, Nat.add_assoc]; done)), rfl⟩)
  · skip
    have hb5p := inR_neg hb5
    refine c_true (b := (!(inR x 0 1000000000000))) (by kernel_rfl) (nb (v := false) hb5) ?_
    refine wp_seq ?_
    refine c_reg ?_
    refine q_seg (S := (fun x_ => St w x_ [Res.row (Value.slice (some ⟨blk2, 0, none⟩) n (n + 6)) 5 1 n (List.take n (zs.map (Value.int .u8)) ++ List.drop n (zrow [Value.int .u8 0] (n * 1)))])) [(4, Value.slice (some ⟨blk2, 0, none⟩) n (n + 6)), (18, Value.slice (some ⟨blk2, 0, none⟩) n (n + 6))] [.no, .no] True (by kernel_rfl) trivial hS4 ?_
    refine l_nil rfl ?_
    refine then_n ?_
    refine wp_ret ?_
    refine then_r ?_
    have hcp : List.take n (zs.map (Value.int .u8)) ++ List.drop n (zrow [Value.int .u8 0] (n * 1)) = zs.map (Value.int .u8) := copy_all (by rw [List.length_map]; exact hln) (by rw [zrow_length]; omega)
    have hL : (zs ++ uv x) = zs := by rw [uv_out hb5p, List.append_nil]
    exact c_end (S := (fun x_ => St w x_ [Res.row (Value.slice (some ⟨blk2, 0, none⟩) n (n + 6)) 5 1 n (List.take n (zs.map (Value.int .u8)) ++ List.drop n (zrow [Value.int .u8 0] (n * 1)))])) (rs := [.tmp 4]) rfl [] (v := Value.slice (some ⟨blk2, 0, none⟩) n (n + 6)) (C := True) (by kernel_rfl) trivial hS4 (by rw [hL]; exact (hS4.eqv (by first | rfl | (rw [hcp]; simp [hln]; done) | (simp; done) | (simp [Nat.add_assoc]; done) | (simp [hln, Nat.add_assoc]; done) | (simp [*, Nat.add_assoc]; done))).rt ⟨(some ⟨blk2, 0, none⟩), (n + 6), (by first | rfl | (rw [hcp]; simp [hln]; done) | (simp; done) | (simp [Nat.add_assoc]; done) | (simp [hln, Nat.add_assoc]; done) | (simp [*, Nat.add_assoc]; done)), rfl⟩)
theorem AppendUvarint_s_c (A : Option Addr) (n c : Nat) (zs : List Int) (x : Int) (w : World) (hn : n ≤ 1000000000) (hr : Rd w w.heap.size A n (zs.map (Value.int .u8))) : Calls Try.prog 101 #[.slice A n c, .int .i64 x] w (Ret w (fun v new => ∃ (A0_ : Option Addr) (c0_ : Nat), v = Value.slice A0_ (List.length (zs ++ uv x)) c0_ ∧ new = [Res.row (Value.slice A0_ (List.length (zs ++ uv x)) c0_) 5 1 (List.length (zs ++ uv x)) ((zs ++ uv x).map (Value.int .u8))])) := by
  have hln := hr.len
  refine calls_FA Try.func101 rfl (n := 29) rfl (l := [(0, Value.slice A n c), (1, Value.int .i64 x)]) rfl (by simp) (fun g => ?_)
  have hS := St.init w
  refine wp_seq ?_
  refine c_reg ?_
  refine q_seg (S := (fun x_ => St w x_ [])) [(4, Value.slice none 0 0)] [.no] True (by kernel_rfl) trivial hS ?_
  refine l_nil rfl ?_
  refine then_n ?_
  refine wp_seq ?_
  refine c_reg ?_
  refine l_op rfl rfl (fun K hK => op_buildSlice (d := some 6) rfl rfl (e := 5) (by kernel_rfl) 1 (by kernel_rfl) (by decide) (by decide) [] (by kernel_rfl) rfl hS (fun blk2 w1 hS1 => hK _ _ ?_))
  clear hK K
  refine q_seg (S := (fun x_ => St w x_ [Res.row (Value.slice (some ⟨blk2, 0, none⟩) 0 0) 5 1 0 ([])])) [(7, Value.slice A n c)] [.no] True (by kernel_rfl) trivial hS1 ?_
  refine l_op rfl rfl (fun K hK => op_append_nil (d := some 8) rfl rfl elByte hS1 (i := 0) rfl rfl rfl (news := (zs.map (Value.int .u8))) (hS1.rdlow hr).m1 (ints_one _ _) (by omega) (by omega) (fun v4 w3 hS3 => hK _ _ ?_))
  clear hK K
  obtain ⟨hlv4, Av4, cv4, hvv4, hnv4, hmv4⟩ := hS3.row_slice (List.mem_of_getElem? (i := 0) rfl)
  subst hvv4
  refine q_seg (S := (fun x_ => St w x_ [Res.row (Value.slice Av4 n cv4) 5 1 n (zs.map (Value.int .u8))])) [(5, Value.slice Av4 n cv4)] [.no] True (by kernel_rfl) trivial hS3 ?_
  refine l_nil rfl ?_
  refine then_n ?_
  refine wp_seq ?_
  refine wp_seq ?_
  refine c_reg ?_
  refine q_seg (S := (fun x_ => St w x_ [Res.row (Value.slice Av4 n cv4) 5 1 n (zs.map (Value.int .u8))])) [(9, Value.int .i64 x)] [.no] True (by kernel_rfl) trivial hS3 ?_
  refine l_op rfl rfl (fun K hK => op_callv (d := some 10) rfl rfl ⟨_, Try.func66, by kernel_rfl, by kernel_rfl⟩ (vs := [Value.int .i64 x, Value.int .i64 0, Value.int .i64 1000000000000]) (by kernel_rfl) (v := Value.bool (inR x 0 1000000000000)) (l1In_c x 0 1000000000000 _) hS3 (fun w5 hS5 => hK _ _ ?_))
  clear hK K
  refine q_seg (S := (fun x_ => St w x_ [Res.row (Value.slice Av4 n cv4) 5 1 n (zs.map (Value.int .u8))])) [(11, Value.bool (!(inR x 0 1000000000000)))] [.no] True (by kernel_rfl) trivial hS5 ?_
  refine l_nil rfl ?_
  refine then_n ?_
  rcases Bool.eq_false_or_eq_true (inR x 0 1000000000000) with hb6 | hb6
  · skip
    obtain ⟨hb6p, hb6q⟩ := inR_iff.1 hb6
    refine c_false (b := (!(inR x 0 1000000000000))) (by kernel_rfl) (nb (v := true) hb6) ?_
    refine wp_skip ?_
    refine then_n ?_
    refine wp_seq ?_
    refine wp_block ?_
    refine c_loop (X := Nat × List Int × Int × Option Addr × Nat) (fun (x_ : Nat × List Int × Int × Option Addr × Nat) => match x_ with | (k, ds, m, A2, c2) => [(1, Value.int .i64 m), (5, Value.slice A2 (List.length (zs ++ ds)) c2)]) (fun (x_ : Nat × List Int × Int × Option Addr × Nat) (wr : World) => match x_ with | (k, ds, m, A2, c2) => (venc 6 x = ds ++ venc k m) ∧ (0 ≤ m) ∧ (m < p7 k) ∧ (1 ≤ k) ∧ (ds.length + k = 6) ∧ St w wr [Res.row (Value.slice A2 (List.length (zs ++ ds)) c2) 5 1 (List.length (zs ++ ds)) ((zs ++ ds).map (Value.int .u8))]) (fun (x_ : Nat × List Int × Int × Option Addr × Nat) => match x_ with | (k, ds, m, A2, c2) => k) ((6, [], x, Av4, cv4)) ?_ ?_ ?_
    · exact (agree_cons (by kernel_rfl) (agree_eq (v0 := Value.slice Av4 n cv4) (by kernel_rfl) (congrArg (fun m => Value.slice Av4 m cv4) (by simp [hln])) agree_nil))
    · exact ⟨rfl, (by omega), (Int.lt_of_le_of_lt (show x ≤ 1000000000000 by omega) (by decide)), (by omega), rfl, (hS5.eqv (by first | (rw [copy_all (by rw [List.length_map]; exact hln) (by rw [zrow_length]; omega)]; simp [hln]; done) | (simp [hln]; done)))⟩
    rintro ⟨k, ds, m, A2, c2⟩ g8 w7 ⟨hv, hm0, hm1, hk1, hdl, hS7⟩
    have hm2 := p7_6 (k := k) (by omega)
    have hzd : List.length (zs ++ ds) = n + ds.length := by rw [List.length_append, hln]
    refine wp_seq ?_
    refine wp_seq ?_
    refine c_reg ?_
    refine q_seg (S := (fun x_ => St w x_ [Res.row (Value.slice A2 (List.length (zs ++ ds)) c2) 5 1 (List.length (zs ++ ds)) ((zs ++ ds).map (Value.int .u8))])) [(14, Value.bool (decide ((127 : Int) < m))), (13, Value.int .i64 m)] [.no, .no] True (by kernel_rfl) trivial hS7 ?_
    refine l_nil rfl ?_
    refine then_n ?_
    rcases Bool.eq_false_or_eq_true (decide ((127 : Int) < m)) with hb9 | hb9
    · skip
      have hb9p := of_decide_eq_true hb9
      have hk2 : 2 ≤ k := by
        rcases Nat.lt_or_ge k 2 with h_ | h_
        · obtain rfl : k = 1 := by omega
          simp only [p7] at hm1
          omega
        · exact h_
      obtain ⟨k2, rfl⟩ : ∃ k2, k = k2 + 1 := ⟨k - 1, by omega⟩
      have hp5 : p7 (k2 + 1) = 128 * p7 k2 := rfl
      refine c_true (b := (decide ((127 : Int) < m))) (by kernel_rfl) hb9 ?_
      refine wp_skip ?_
      refine then_n ?_
      refine wp_block ?_
      refine wp_seq ?_
      refine c_reg ?_
      refine q_seg (S := (fun x_ => St w x_ [Res.row (Value.slice A2 (List.length (zs ++ ds)) c2) 5 1 (List.length (zs ++ ds)) ((zs ++ ds).map (Value.int .u8))])) [(19, Value.int .u8 (m % 128 + 128)), (18, Value.int .i64 (m % 128 + 128)), (17, Value.int .i64 (m % 128)), (16, Value.int .i64 m), (15, Value.slice A2 (List.length (zs ++ ds)) c2)] [.no, .no, .v (.int .i64 (m % 128)), .v (.int .i64 (m % 128 + 128)), .no] ((ibits .and .i64 m (127 : Int) = (m % 128)) ∧ (ibits .or .i64 (m % 128) (128 : Int) = (m % 128 + 128)) ∧ (InK .u8 (m % 128 + 128))) (by kernel_rfl) ⟨(and127 (by omega) (by omega)), (or128 (by omega) (by omega)), (in8 (by omega) (by omega))⟩ hS7 ?_
      refine l_op rfl rfl (fun K hK => op_buildSlice (d := some 20) rfl rfl (e := 5) (by kernel_rfl) 1 (by kernel_rfl) (by decide) (by decide) [Value.int .u8 (m % 128 + 128)] (by kernel_rfl) rfl hS7 (fun blk11 w10 hS10 => hK _ _ ?_))
      clear hK K
      refine l_op rfl rfl (fun K hK => op_append (d := some 21) rfl rfl elByte hS10 (i := 1) rfl rfl rfl (news := [Value.int .u8 (m % 128 + 128)]) (hS10.rd (List.mem_of_getElem? (i := 0) rfl)) (all_one (by rfl)) (by omega) (by omega) (fun v13 w12 hS12 => hK _ _ ?_))
      clear hK K
      obtain ⟨hlv13, Av13, cv13, hvv13, hnv13, hmv13⟩ := hS12.row_slice (List.mem_of_getElem? (i := 1) rfl)
      subst hvv13
      refine q_seg (S := (fun x_ => St w x_ [Res.row (Value.slice (some ⟨blk11, 0, none⟩) 1 1) 5 1 1 ([Value.int .u8 (m % 128 + 128)]), Res.row (Value.slice Av13 ((List.length (zs ++ ds)) + 1) cv13) 5 1 ((List.length (zs ++ ds)) + 1) (((zs ++ ds).map (Value.int .u8)) ++ [Value.int .u8 (m % 128 + 128)])])) [(5, Value.slice Av13 ((List.length (zs ++ ds)) + 1) cv13)] [.no] True (by kernel_rfl) trivial hS12 ?_
      refine l_nil rfl ?_
      refine then_n ?_
      refine c_reg ?_
      refine q_seg (S := (fun x_ => St w x_ [Res.row (Value.slice (some ⟨blk11, 0, none⟩) 1 1) 5 1 1 ([Value.int .u8 (m % 128 + 128)]), Res.row (Value.slice Av13 ((List.length (zs ++ ds)) + 1) cv13) 5 1 ((List.length (zs ++ ds)) + 1) (((zs ++ ds).map (Value.int .u8)) ++ [Value.int .u8 (m % 128 + 128)])])) [(1, Value.int .i64 (m / 128)), (23, Value.int .i64 (m / 128)), (22, Value.int .i64 m)] [.no, .v (.int .i64 (m / 128)), .no] (((0 : Int) ≤ (7 : Int)) ∧ (Int.fdiv m (2 ^ (min (Int.toNat (7 : Int)) (IntKind.bits .i64))) = (m / 128))) (by kernel_rfl) ⟨(by omega), (shr7 (by omega))⟩ hS12 ?_
      refine l_nil rfl ?_
      refine blk_n ?_
      refine then_n ?_
      have hS12s1 : St w w12 [Res.row (Value.slice Av13 ((List.length (zs ++ ds)) + 1) cv13) 5 1 ((List.length (zs ++ ds)) + 1) (((zs ++ ds).map (Value.int .u8)) ++ [Value.int .u8 (m % 128 + 128)])] := (hS12.sub (List.Sublist.cons _ (List.Sublist.cons_cons _ List.Sublist.slnil)))
      refine round_end ((k2, ds ++ [m % 128 + 128], m / 128, Av13, cv13)) ?_ ?_ ?_
      · exact (agree_cons (by kernel_rfl) (agree_eq (v0 := Value.slice Av13 ((List.length (zs ++ ds)) + 1) cv13) (by kernel_rfl) (congrArg (fun m => Value.slice Av13 m cv13) (by simp; omega)) agree_nil))
      · exact ⟨(by rw [hv, venc_ge (by omega), List.append_assoc]; rfl), (by omega), (by omega), (by omega), (by simp; omega), (hS12s1.eqv (by simp [Nat.add_assoc]))⟩
      · exact (by first | omega | (dsimp only; omega))
    · skip
      have hb9p := of_decide_eq_false hb9
      obtain ⟨k2, rfl⟩ : ∃ k2, k = k2 + 1 := ⟨k - 1, by omega⟩
      refine c_false (b := (decide ((127 : Int) < m))) (by kernel_rfl) hb9 ?_
      refine wp_exit ?_
      refine then_x ?_
      refine then_x ?_
      refine blk_hit ?_
      refine then_n ?_
      refine wp_seq ?_
      refine c_reg ?_
      refine q_seg (S := (fun x_ => St w x_ [Res.row (Value.slice A2 (List.length (zs ++ ds)) c2) 5 1 (List.length (zs ++ ds)) ((zs ++ ds).map (Value.int .u8))])) [(26, Value.int .u8 m), (25, Value.int .i64 m), (24, Value.slice A2 (List.length (zs ++ ds)) c2)] [.no, .no, .no] ((InK .u8 m)) (by kernel_rfl) (in8 (by omega) (by omega)) hS7 ?_
      refine l_op rfl rfl (fun K hK => op_buildSlice (d := some 27) rfl rfl (e := 5) (by kernel_rfl) 1 (by kernel_rfl) (by decide) (by decide) [Value.int .u8 m] (by kernel_rfl) rfl hS7 (fun blk15 w14 hS14 => hK _ _ ?_))
      clear hK K
      refine l_op rfl rfl (fun K hK => op_append (d := some 28) rfl rfl elByte hS14 (i := 1) rfl rfl rfl (news := [Value.int .u8 m]) (hS14.rd (List.mem_of_getElem? (i := 0) rfl)) (all_one (by rfl)) (by omega) (by omega) (fun v17 w16 hS16 => hK _ _ ?_))
      clear hK K
      obtain ⟨hlv17, Av17, cv17, hvv17, hnv17, hmv17⟩ := hS16.row_slice (List.mem_of_getElem? (i := 1) rfl)
      subst hvv17
      refine q_seg (S := (fun x_ => St w x_ [Res.row (Value.slice (some ⟨blk15, 0, none⟩) 1 1) 5 1 1 ([Value.int .u8 m]), Res.row (Value.slice Av17 ((List.length (zs ++ ds)) + 1) cv17) 5 1 ((List.length (zs ++ ds)) + 1) (((zs ++ ds).map (Value.int .u8)) ++ [Value.int .u8 m])])) [(4, Value.slice Av17 ((List.length (zs ++ ds)) + 1) cv17)] [.no] True (by kernel_rfl) trivial hS16 ?_
      refine l_nil rfl ?_
      refine then_n ?_
      refine wp_ret ?_
      have hS16s2 : St w w16 [Res.row (Value.slice Av17 ((List.length (zs ++ ds)) + 1) cv17) 5 1 ((List.length (zs ++ ds)) + 1) (((zs ++ ds).map (Value.int .u8)) ++ [Value.int .u8 m])] := (hS16.sub (List.Sublist.cons _ (List.Sublist.cons_cons _ List.Sublist.slnil)))
      have hL : (zs ++ uv x) = ((zs ++ ds) ++ [m]) := by rw [uv_in hb6p hb6q, hv, venc_lt (by omega), List.append_assoc]
      exact c_end (S := (fun x_ => St w x_ [Res.row (Value.slice (some ⟨blk15, 0, none⟩) 1 1) 5 1 1 ([Value.int .u8 m]), Res.row (Value.slice Av17 ((List.length (zs ++ ds)) + 1) cv17) 5 1 ((List.length (zs ++ ds)) + 1) (((zs ++ ds).map (Value.int .u8)) ++ [Value.int .u8 m])])) (rs := [.tmp 4]) rfl [] (v := Value.slice Av17 ((List.length (zs ++ ds)) + 1) cv17) (C := True) (by kernel_rfl) trivial hS16 (by rw [hL]; exact (hS16s2.eqv (by first | rfl | (rw [hcp]; simp [hln]; done) | (simp; done) | (simp [Nat.add_assoc]; done) | (simp [hln, Nat.add_assoc]; done) | (simp [*, Nat.add_assoc]; done))).rt ⟨Av17, cv17, (by first | rfl | (rw [hcp]; simp [hln]; done) | (simp; done) | (simp [Nat.add_assoc]; done) | (simp [hln, Nat.add_assoc]; done) | (simp [*, Nat.add_assoc]; done)), rfl⟩)
  · skip
    have hb6p := inR_neg hb6
    refine c_true (b := (!(inR x 0 1000000000000))) (by kernel_rfl) (nb (v := false) hb6) ?_
    refine wp_seq ?_
    refine c_reg ?_
    refine q_seg (S := (fun x_ => St w x_ [Res.row (Value.slice Av4 n cv4) 5 1 n (zs.map (Value.int .u8))])) [(4, Value.slice Av4 n cv4), (12, Value.slice Av4 n cv4)] [.no, .no] True (by kernel_rfl) trivial hS5 ?_
    refine l_nil rfl ?_
    refine then_n ?_
    refine wp_ret ?_
    refine then_r ?_
    have hL : (zs ++ uv x) = zs := by rw [uv_out hb6p, List.append_nil]
    exact c_end (S := (fun x_ => St w x_ [Res.row (Value.slice Av4 n cv4) 5 1 n (zs.map (Value.int .u8))])) (rs := [.tmp 4]) rfl [] (v := Value.slice Av4 n cv4) (C := True) (by kernel_rfl) trivial hS5 (by rw [hL]; exact (hS5.eqv (by first | rfl | (rw [hcp]; simp [hln]; done) | (simp; done) | (simp [Nat.add_assoc]; done) | (simp [hln, Nat.add_assoc]; done) | (simp [*, Nat.add_assoc]; done))).rt ⟨Av4, cv4, (by first | rfl | (rw [hcp]; simp [hln]; done) | (simp; done) | (simp [Nat.add_assoc]; done) | (simp [hln, Nat.add_assoc]; done) | (simp [*, Nat.add_assoc]; done)), rfl⟩)
theorem EncodeInts_i_c (A : Option Addr) (n c : Nat) (ls : List Int) (w : World) (hn : n ≤ 1000) (hr : Rd w w.heap.size A n (ls.map (Value.int .i64))) : Calls Try.prog 62 #[.slice A n c] w (Ret w (fun v new => ∃ (A0_ : Option Addr) (c0_ : Nat), v = Value.slice A0_ (List.length (encs ls)) c0_ ∧ new = [Res.row (Value.slice A0_ (List.length (encs ls)) c0_) 5 1 (List.length (encs ls)) ((encs ls).map (Value.int .u8))])) := by
  have hln := hr.len
  refine calls_FA Try.func62 rfl (n := 19) rfl (l := [(0, Value.slice A n c)]) rfl (by simp) (fun g => ?_)
  have hS := St.init w
  refine wp_seq ?_
  refine c_reg ?_
  refine q_seg (S := (fun x_ => St w x_ [])) [(2, Value.slice none 0 0)] [.no] True (by kernel_rfl) trivial hS ?_
  refine l_nil rfl ?_
  refine then_n ?_
  refine wp_seq ?_
  refine c_reg ?_
  refine l_op rfl rfl (fun K hK => op_buildSlice (d := some 6) rfl rfl (e := 5) (by kernel_rfl) 1 (by kernel_rfl) (by decide) (by decide) [] (by kernel_rfl) rfl hS (fun blk2 w1 hS1 => hK _ _ ?_))
  clear hK K
  refine q_seg (S := (fun x_ => St w x_ [Res.row (Value.slice (some ⟨blk2, 0, none⟩) 0 0) 5 1 0 ([])])) [(3, Value.slice (some ⟨blk2, 0, none⟩) 0 0)] [.no] True (by kernel_rfl) trivial hS1 ?_
  refine l_nil rfl ?_
  refine then_n ?_
  refine wp_seq ?_
  refine wp_seq ?_
  refine c_reg ?_
  refine q_seg (S := (fun x_ => St w x_ [Res.row (Value.slice (some ⟨blk2, 0, none⟩) 0 0) 5 1 0 ([])])) [(9, Value.int .i64 0), (8, Value.int .i64 ((n : Nat) : Int)), (7, Value.slice A n c)] [.no, .no, .no] True (by kernel_rfl) trivial hS1 ?_
  refine l_nil rfl ?_
  refine then_n ?_
  refine wp_block ?_
  refine c_loop (X := Nat × Option Addr × Nat) (fun (x_ : Nat × Option Addr × Nat) => match x_ with | (k, A2, c2) => [(3, Value.slice A2 (List.length (encs (ls.take k))) c2), (7, Value.slice A n c), (8, Value.int .i64 ((n : Nat) : Int)), (9, Value.int .i64 ((k : Nat) : Int))]) (fun (x_ : Nat × Option Addr × Nat) (wr : World) => match x_ with | (k, A2, c2) => (k ≤ n) ∧ St w wr [Res.row (Value.slice A2 (List.length (encs (ls.take k))) c2) 5 1 (List.length (encs (ls.take k))) ((encs (ls.take k)).map (Value.int .u8))]) (fun (x_ : Nat × Option Addr × Nat) => match x_ with | (k, A2, c2) => n - k) ((0, (some ⟨blk2, 0, none⟩), 0)) ?_ ?_ ?_
  · exact (agree_eq (v0 := Value.slice (some ⟨blk2, 0, none⟩) 0 0) (by kernel_rfl) (congrArg (fun m => Value.slice (some ⟨blk2, 0, none⟩) m 0) (by simp [encs])) (agree_cons (by kernel_rfl) (agree_cons (by kernel_rfl) (agree_cons (by kernel_rfl) agree_nil))))
  · exact ⟨Nat.zero_le _, (hS1.eqv (by simp [encs]))⟩
  rintro ⟨k, A2, c2⟩ g4 w3 ⟨hkn, hS3⟩
  have hel := encs_len (ls.take k)
  have htl := List.length_take_le k ls
  refine wp_seq ?_
  refine c_reg ?_
  refine q_seg (S := (fun x_ => St w x_ [Res.row (Value.slice A2 (List.length (encs (ls.take k))) c2) 5 1 (List.length (encs (ls.take k))) ((encs (ls.take k)).map (Value.int .u8))])) [(10, Value.bool (decide (((k : Nat) : Int) < ((n : Nat) : Int))))] [.no] True (by kernel_rfl) trivial hS3 ?_
  refine l_nil rfl ?_
  refine then_n ?_
  refine wp_seq ?_
  rcases Bool.eq_false_or_eq_true (decide (((k : Nat) : Int) < ((n : Nat) : Int))) with hb5 | hb5
  · skip
    have hb5p := of_decide_eq_true hb5
    obtain ⟨b, off, rfl, hbB, hcl⟩ := hr.2 (by omega)
    obtain ⟨z, hzk, hzm⟩ := get_of_lt (l := ls) (k := k) (by have := hr.len; omega)
    refine c_true (b := (decide (((k : Nat) : Int) < ((n : Nat) : Int)))) (by kernel_rfl) hb5 ?_
    refine wp_skip ?_
    refine then_n ?_
    refine wp_seq ?_
    refine wp_block ?_
    refine wp_seq ?_
    refine c_reg ?_
    refine q_seg (S := (fun x_ => St w x_ [Res.row (Value.slice A2 (List.length (encs (ls.take k))) c2) 5 1 (List.length (encs (ls.take k))) ((encs (ls.take k)).map (Value.int .u8))])) [(5, Value.int .i64 z), (12, Value.int .i64 z), (11, Value.pointer (some ⟨b, off + Int.toNat ((k : Nat) : Int) * 1, none⟩))] [.no, .v (Value.int .i64 z), .no] (((0 : Int) ≤ ((k : Nat) : Int)) ∧ (((k : Nat) : Int) < ((n : Nat) : Int)) ∧ (LoadsAt Try.prog (fun x_ => St w x_ [Res.row (Value.slice A2 (List.length (encs (ls.take k))) c2) 5 1 (List.length (encs (ls.take k))) ((encs (ls.take k)).map (Value.int .u8))]) 3 ⟨b, off + Int.toNat ((k : Nat) : Int) * 1, none⟩ (Value.int .i64 z))) (by kernel_rfl) ⟨(by omega), (by omega), (ld_low (hcl _ _ (by simp [hzk])) (by kernel_rfl))⟩ hS3 ?_
    refine l_nil rfl ?_
    refine then_n ?_
    refine c_reg ?_
    refine q_seg (S := (fun x_ => St w x_ [Res.row (Value.slice A2 (List.length (encs (ls.take k))) c2) 5 1 (List.length (encs (ls.take k))) ((encs (ls.take k)).map (Value.int .u8))])) [(14, Value.int .i64 z), (13, Value.slice A2 (List.length (encs (ls.take k))) c2)] [.no, .no] True (by kernel_rfl) trivial hS3 ?_
    refine l_op rfl rfl (fun K hK => op_call (d := some 15) rfl rfl ⟨_, Try.func93, by kernel_rfl, by kernel_rfl⟩ (vs := [Value.slice none 0 0, Value.int .i64 z]) (by kernel_rfl) (AppendUvarint_i_c none 0 0 ([] : List Int) z w3 (by omega) (Rd.nil_)) hS3 (fun v7 new8 w6 Rw6 hS6 => hK _ _ ?_))
    clear hK K
    obtain ⟨Aq9, cq10, rfl, rfl⟩ := Rw6
    have hen11 := uv_len z
    have hen12 : (List.length (([] : List Int) ++ uv z)) = (List.length (uv z)) := by simp
    refine l_op rfl rfl (fun K hK => op_append (d := some 16) rfl rfl elByte hS6 (i := 1) rfl rfl rfl (news := ((([] : List Int) ++ uv z).map (Value.int .u8))) (hS6.rd (List.mem_of_getElem? (i := 0) rfl)) (ints_one _ _) (by omega) (by omega) (fun v14 w13 hS13 => hK _ _ ?_))
    clear hK K
    obtain ⟨hlv14, Av14, cv14, hvv14, hnv14, hmv14⟩ := hS13.row_slice (List.mem_of_getElem? (i := 1) rfl)
    subst hvv14
    refine q_seg (S := (fun x_ => St w x_ [Res.row (Value.slice Aq9 (List.length (([] : List Int) ++ uv z)) cq10) 5 1 (List.length (([] : List Int) ++ uv z)) ((([] : List Int) ++ uv z).map (Value.int .u8)), Res.row (Value.slice Av14 ((List.length (encs (ls.take k))) + (List.length (([] : List Int) ++ uv z))) cv14) 5 1 ((List.length (encs (ls.take k))) + (List.length (([] : List Int) ++ uv z))) (((encs (ls.take k)).map (Value.int .u8)) ++ ((([] : List Int) ++ uv z).map (Value.int .u8)))])) [(3, Value.slice Av14 ((List.length (encs (ls.take k))) + (List.length (([] : List Int) ++ uv z))) cv14)] [.no] True (by kernel_rfl) trivial hS13 ?_
    refine l_nil rfl ?_
    refine blk_n ?_
    refine then_n ?_
    refine c_reg ?_
    refine q_seg (S := (fun x_ => St w x_ [Res.row (Value.slice Aq9 (List.length (([] : List Int) ++ uv z)) cq10) 5 1 (List.length (([] : List Int) ++ uv z)) ((([] : List Int) ++ uv z).map (Value.int .u8)), Res.row (Value.slice Av14 ((List.length (encs (ls.take k))) + (List.length (([] : List Int) ++ uv z))) cv14) 5 1 ((List.length (encs (ls.take k))) + (List.length (([] : List Int) ++ uv z))) (((encs (ls.take k)).map (Value.int .u8)) ++ ((([] : List Int) ++ uv z).map (Value.int .u8)))])) [(9, Value.int .i64 (((k : Nat) : Int) + (1 : Int))), (17, Value.int .i64 (((k : Nat) : Int) + (1 : Int)))] [.no, .no] ((InK .i64 (((k : Nat) : Int) + (1 : Int)))) (by kernel_rfl) (in64 (by omega) (by omega)) hS13 ?_
    refine l_nil rfl ?_
    refine then_n ?_
    have hS13s1 : St w w13 [Res.row (Value.slice Av14 ((List.length (encs (ls.take k))) + (List.length (([] : List Int) ++ uv z))) cv14) 5 1 ((List.length (encs (ls.take k))) + (List.length (([] : List Int) ++ uv z))) (((encs (ls.take k)).map (Value.int .u8)) ++ ((([] : List Int) ++ uv z).map (Value.int .u8)))] := (hS13.sub (List.Sublist.cons _ (List.Sublist.cons_cons _ List.Sublist.slnil)))
    refine round_end ((k + 1, Av14, cv14)) ?_ ?_ ?_
    · exact (agree_eq (v0 := Value.slice Av14 ((List.length (encs (ls.take k))) + (List.length (([] : List Int) ++ uv z))) cv14) (by kernel_rfl) (congrArg (fun m => Value.slice Av14 m cv14) (by first | (rw [encs_get hzk]; done) | (rw [encs_get hzk]; simp))) (agree_cons (by kernel_rfl) (agree_cons (by kernel_rfl) (agree_cons (by kernel_rfl) agree_nil))))
    · exact ⟨(by omega), (hS13s1.eqv (by first | (rw [encs_get hzk]; done) | (rw [encs_get hzk]; simp)))⟩
    · exact (by first | omega | (dsimp only; omega))
  · skip
    have hb5p := of_decide_eq_false hb5
    refine c_false (b := (decide (((k : Nat) : Int) < ((n : Nat) : Int)))) (by kernel_rfl) hb5 ?_
    refine wp_exit ?_
    refine then_x ?_
    refine then_x ?_
    refine blk_hit ?_
    refine then_n ?_
    refine wp_seq ?_
    refine c_reg ?_
    refine q_seg (S := (fun x_ => St w x_ [Res.row (Value.slice A2 (List.length (encs (ls.take k))) c2) 5 1 (List.length (encs (ls.take k))) ((encs (ls.take k)).map (Value.int .u8))])) [(2, Value.slice A2 (List.length (encs (ls.take k))) c2), (18, Value.slice A2 (List.length (encs (ls.take k))) c2)] [.no, .no] True (by kernel_rfl) trivial hS3 ?_
    refine l_nil rfl ?_
    refine then_n ?_
    refine wp_ret ?_
    have hL : (encs ls) = (encs (ls.take k)) := by rw [take_all (by omega)]
    exact c_end (S := (fun x_ => St w x_ [Res.row (Value.slice A2 (List.length (encs (ls.take k))) c2) 5 1 (List.length (encs (ls.take k))) ((encs (ls.take k)).map (Value.int .u8))])) (rs := [.tmp 2]) rfl [] (v := Value.slice A2 (List.length (encs (ls.take k))) c2) (C := True) (by kernel_rfl) trivial hS3 (by rw [hL]; exact (hS3.eqv (by first | rfl | (rw [hcp]; simp [hln]; done) | (simp; done) | (simp [Nat.add_assoc]; done) | (simp [hln, Nat.add_assoc]; done) | (simp [*, Nat.add_assoc]; done))).rt ⟨A2, c2, (by first | rfl | (rw [hcp]; simp [hln]; done) | (simp; done) | (simp [Nat.add_assoc]; done) | (simp [hln, Nat.add_assoc]; done) | (simp [*, Nat.add_assoc]; done)), rfl⟩)
theorem EncodeInts_s_c (A : Option Addr) (n c : Nat) (ls : List Int) (w : World) (hn : n ≤ 1000) (hr : Rd w w.heap.size A n (ls.map (Value.int .i64))) : Calls Try.prog 73 #[.slice A n c] w (Ret w (fun v new => ∃ (A0_ : Option Addr) (c0_ : Nat), v = Value.slice A0_ (List.length (encs ls)) c0_ ∧ new = [Res.row (Value.slice A0_ (List.length (encs ls)) c0_) 5 1 (List.length (encs ls)) ((encs ls).map (Value.int .u8))])) := by
  have hln := hr.len
  refine calls_FA Try.func73 rfl (n := 19) rfl (l := [(0, Value.slice A n c)]) rfl (by simp) (fun g => ?_)
  have hS := St.init w
  refine wp_seq ?_
  refine c_reg ?_
  refine q_seg (S := (fun x_ => St w x_ [])) [(2, Value.slice none 0 0)] [.no] True (by kernel_rfl) trivial hS ?_
  refine l_nil rfl ?_
  refine then_n ?_
  refine wp_seq ?_
  refine c_reg ?_
  refine l_op rfl rfl (fun K hK => op_buildSlice (d := some 5) rfl rfl (e := 5) (by kernel_rfl) 1 (by kernel_rfl) (by decide) (by decide) [] (by kernel_rfl) rfl hS (fun blk2 w1 hS1 => hK _ _ ?_))
  clear hK K
  refine q_seg (S := (fun x_ => St w x_ [Res.row (Value.slice (some ⟨blk2, 0, none⟩) 0 0) 5 1 0 ([])])) [(3, Value.slice (some ⟨blk2, 0, none⟩) 0 0)] [.no] True (by kernel_rfl) trivial hS1 ?_
  refine l_nil rfl ?_
  refine then_n ?_
  refine wp_seq ?_
  refine wp_seq ?_
  refine c_reg ?_
  refine q_seg (S := (fun x_ => St w x_ [Res.row (Value.slice (some ⟨blk2, 0, none⟩) 0 0) 5 1 0 ([])])) [(4, Value.int .i64 0)] [.no] True (by kernel_rfl) trivial hS1 ?_
  refine l_nil rfl ?_
  refine then_n ?_
  refine wp_block ?_
  refine c_loop (X := Nat × Option Addr × Nat) (fun (x_ : Nat × Option Addr × Nat) => match x_ with | (k, A2, c2) => [(0, Value.slice A n c), (3, Value.slice A2 (List.length (encs (ls.take k))) c2), (4, Value.int .i64 ((k : Nat) : Int))]) (fun (x_ : Nat × Option Addr × Nat) (wr : World) => match x_ with | (k, A2, c2) => (k ≤ n) ∧ St w wr [Res.row (Value.slice A2 (List.length (encs (ls.take k))) c2) 5 1 (List.length (encs (ls.take k))) ((encs (ls.take k)).map (Value.int .u8))]) (fun (x_ : Nat × Option Addr × Nat) => match x_ with | (k, A2, c2) => n - k) ((0, (some ⟨blk2, 0, none⟩), 0)) ?_ ?_ ?_
  · exact (agree_cons (by kernel_rfl) (agree_eq (v0 := Value.slice (some ⟨blk2, 0, none⟩) 0 0) (by kernel_rfl) (congrArg (fun m => Value.slice (some ⟨blk2, 0, none⟩) m 0) (by simp [encs])) (agree_cons (by kernel_rfl) agree_nil)))
  · exact ⟨Nat.zero_le _, (hS1.eqv (by simp [encs]))⟩
  rintro ⟨k, A2, c2⟩ g4 w3 ⟨hkn, hS3⟩
  have hel := encs_len (ls.take k)
  have htl := List.length_take_le k ls
  refine wp_seq ?_
  refine wp_seq ?_
  refine c_reg ?_
  refine q_seg (S := (fun x_ => St w x_ [Res.row (Value.slice A2 (List.length (encs (ls.take k))) c2) 5 1 (List.length (encs (ls.take k))) ((encs (ls.take k)).map (Value.int .u8))])) [(9, Value.bool (decide (((k : Nat) : Int) < ((n : Nat) : Int)))), (8, Value.int .i64 ((n : Nat) : Int)), (7, Value.slice A n c), (6, Value.int .i64 ((k : Nat) : Int))] [.no, .no, .no, .no] True (by kernel_rfl) trivial hS3 ?_
  refine l_nil rfl ?_
  refine then_n ?_
  rcases Bool.eq_false_or_eq_true (decide (((k : Nat) : Int) < ((n : Nat) : Int))) with hb5 | hb5
  · skip
    have hb5p := of_decide_eq_true hb5
    obtain ⟨b, off, rfl, hbB, hcl⟩ := hr.2 (by omega)
    obtain ⟨z, hzk, hzm⟩ := get_of_lt (l := ls) (k := k) (by have := hr.len; omega)
    refine c_true (b := (decide (((k : Nat) : Int) < ((n : Nat) : Int)))) (by kernel_rfl) hb5 ?_
    refine wp_skip ?_
    refine then_n ?_
    refine wp_seq ?_
    refine wp_block ?_
    refine c_reg ?_
    refine q_seg (S := (fun x_ => St w x_ [Res.row (Value.slice A2 (List.length (encs (ls.take k))) c2) 5 1 (List.length (encs (ls.take k))) ((encs (ls.take k)).map (Value.int .u8))])) [(16, Value.int .i64 z), (15, Value.pointer (some ⟨b, off + Int.toNat ((k : Nat) : Int) * 1, none⟩)), (14, Value.int .i64 ((k : Nat) : Int)), (13, Value.slice (some ⟨b, off, none⟩) n c), (12, Value.slice A2 (List.length (encs (ls.take k))) c2)] [.no, .no, .no, .no, .v (Value.int .i64 z)] (((0 : Int) ≤ ((k : Nat) : Int)) ∧ (((k : Nat) : Int) < ((n : Nat) : Int)) ∧ (LoadsAt Try.prog (fun x_ => St w x_ [Res.row (Value.slice A2 (List.length (encs (ls.take k))) c2) 5 1 (List.length (encs (ls.take k))) ((encs (ls.take k)).map (Value.int .u8))]) 3 ⟨b, off + Int.toNat ((k : Nat) : Int) * 1, none⟩ (Value.int .i64 z))) (by kernel_rfl) ⟨(by omega), (by omega), (ld_low (hcl _ _ (by simp [hzk])) (by kernel_rfl))⟩ hS3 ?_
    refine l_op rfl rfl (fun K hK => op_call (d := some 17) rfl rfl ⟨_, Try.func101, by kernel_rfl, by kernel_rfl⟩ (vs := [Value.slice A2 (List.length (encs (ls.take k))) c2, Value.int .i64 z]) (by kernel_rfl) (AppendUvarint_s_c A2 (List.length (encs (ls.take k))) c2 (encs (ls.take k)) z w3 (by omega) (hS3.rd (List.mem_of_getElem? (i := 0) rfl)).u1) hS3 (fun v7 new8 w6 Rw6 hS6 => hK _ _ ?_))
    clear hK K
    obtain ⟨Aq9, cq10, rfl, rfl⟩ := Rw6
    have hen11 := uv_len z
    have hen12 : (List.length ((encs (ls.take k)) ++ uv z)) = (List.length (encs (ls.take k))) + (List.length (uv z)) := List.length_append
    refine q_seg (S := (fun x_ => St w x_ [Res.row (Value.slice Aq9 (List.length ((encs (ls.take k)) ++ uv z)) cq10) 5 1 (List.length ((encs (ls.take k)) ++ uv z)) (((encs (ls.take k)) ++ uv z).map (Value.int .u8)), Res.row (Value.slice A2 (List.length (encs (ls.take k))) c2) 5 1 (List.length (encs (ls.take k))) ((encs (ls.take k)).map (Value.int .u8))])) [(3, Value.slice Aq9 (List.length ((encs (ls.take k)) ++ uv z)) cq10)] [.no] True (by kernel_rfl) trivial hS6 ?_
    refine l_nil rfl ?_
    refine blk_n ?_
    refine then_n ?_
    refine c_reg ?_
    refine q_seg (S := (fun x_ => St w x_ [Res.row (Value.slice Aq9 (List.length ((encs (ls.take k)) ++ uv z)) cq10) 5 1 (List.length ((encs (ls.take k)) ++ uv z)) (((encs (ls.take k)) ++ uv z).map (Value.int .u8)), Res.row (Value.slice A2 (List.length (encs (ls.take k))) c2) 5 1 (List.length (encs (ls.take k))) ((encs (ls.take k)).map (Value.int .u8))])) [(4, Value.int .i64 (((k : Nat) : Int) + (1 : Int))), (11, Value.int .i64 (((k : Nat) : Int) + (1 : Int))), (10, Value.int .i64 ((k : Nat) : Int))] [.no, .no, .no] ((InK .i64 (((k : Nat) : Int) + (1 : Int)))) (by kernel_rfl) (in64 (by omega) (by omega)) hS6 ?_
    refine l_nil rfl ?_
    refine then_n ?_
    have hS6s1 : St w w6 [Res.row (Value.slice Aq9 (List.length ((encs (ls.take k)) ++ uv z)) cq10) 5 1 (List.length ((encs (ls.take k)) ++ uv z)) (((encs (ls.take k)) ++ uv z).map (Value.int .u8))] := (hS6.sub (List.Sublist.cons_cons _ (List.Sublist.cons _ List.Sublist.slnil)))
    refine round_end ((k + 1, Aq9, cq10)) ?_ ?_ ?_
    · exact (agree_cons (by kernel_rfl) (agree_eq (v0 := Value.slice Aq9 (List.length ((encs (ls.take k)) ++ uv z)) cq10) (by kernel_rfl) (congrArg (fun m => Value.slice Aq9 m cq10) (by first | (rw [encs_get hzk]; done) | (rw [encs_get hzk]; simp))) (agree_cons (by kernel_rfl) agree_nil)))
    · exact ⟨(by omega), (hS6s1.eqv (by first | (rw [encs_get hzk]; done) | (rw [encs_get hzk]; simp)))⟩
    · exact (by first | omega | (dsimp only; omega))
  · skip
    have hb5p := of_decide_eq_false hb5
    refine c_false (b := (decide (((k : Nat) : Int) < ((n : Nat) : Int)))) (by kernel_rfl) hb5 ?_
    refine wp_exit ?_
    refine then_x ?_
    refine then_x ?_
    refine blk_hit ?_
    refine then_n ?_
    refine wp_seq ?_
    refine c_reg ?_
    refine q_seg (S := (fun x_ => St w x_ [Res.row (Value.slice A2 (List.length (encs (ls.take k))) c2) 5 1 (List.length (encs (ls.take k))) ((encs (ls.take k)).map (Value.int .u8))])) [(2, Value.slice A2 (List.length (encs (ls.take k))) c2), (18, Value.slice A2 (List.length (encs (ls.take k))) c2)] [.no, .no] True (by kernel_rfl) trivial hS3 ?_
    refine l_nil rfl ?_
    refine then_n ?_
    refine wp_ret ?_
    have hL : (encs ls) = (encs (ls.take k)) := by rw [take_all (by omega)]
    exact c_end (S := (fun x_ => St w x_ [Res.row (Value.slice A2 (List.length (encs (ls.take k))) c2) 5 1 (List.length (encs (ls.take k))) ((encs (ls.take k)).map (Value.int .u8))])) (rs := [.tmp 2]) rfl [] (v := Value.slice A2 (List.length (encs (ls.take k))) c2) (C := True) (by kernel_rfl) trivial hS3 (by rw [hL]; exact (hS3.eqv (by first | rfl | (rw [hcp]; simp [hln]; done) | (simp; done) | (simp [Nat.add_assoc]; done) | (simp [hln, Nat.add_assoc]; done) | (simp [*, Nat.add_assoc]; done))).rt ⟨A2, c2, (by first | rfl | (rw [hcp]; simp [hln]; done) | (simp; done) | (simp [Nat.add_assoc]; done) | (simp [hln, Nat.add_assoc]; done) | (simp [*, Nat.add_assoc]; done)), rfl⟩)
theorem AppendBytes_i_c (A : Option Addr) (n c : Nat) (zs : List Int) (B : Option Addr) (m d : Nat) (ys : List Int) (w : World) (hn : n ≤ 100000000) (hm : m ≤ 100000000) (hz : okz .u8 zs) (hy : okz .u8 ys) (hr : Rd w w.heap.size A n (zs.map (Value.int .u8))) (hr2 : Rd w w.heap.size B m (ys.map (Value.int .u8))) : Calls Try.prog 94 #[.slice A n c, .slice B m d] w (Ret w (fun v new => ∃ (A0_ : Option Addr) (c0_ : Nat), v = Value.slice A0_ (List.length ((zs ++ uv ((m : Nat) : Int)) ++ ys)) c0_ ∧ new = [Res.row (Value.slice A0_ (List.length ((zs ++ uv ((m : Nat) : Int)) ++ ys)) c0_) 5 1 (List.length ((zs ++ uv ((m : Nat) : Int)) ++ ys)) (((zs ++ uv ((m : Nat) : Int)) ++ ys).map (Value.int .u8))])) := by
  have hln := hr.len
  have hlm := hr2.len
  refine calls_FA Try.func94 rfl (n := 13) rfl (l := [(0, Value.slice A n c), (1, Value.slice B m d)]) rfl (by simp) (fun g => ?_)
  have hS := St.init w
  refine wp_seq ?_
  refine c_reg ?_
  refine q_seg (S := (fun x_ => St w x_ [])) [(4, Value.slice none 0 0)] [.no] True (by kernel_rfl) trivial hS ?_
  refine l_nil rfl ?_
  refine then_n ?_
  refine wp_seq ?_
  refine c_reg ?_
  refine q_seg (S := (fun x_ => St w x_ [])) [(8, Value.int .i64 ((m : Nat) : Int)), (7, Value.slice B m d), (6, Value.slice A n c)] [.no, .no, .no] True (by kernel_rfl) trivial hS ?_
  refine l_op rfl rfl (fun K hK => op_call (d := some 9) rfl rfl ⟨_, Try.func93, by kernel_rfl, by kernel_rfl⟩ (vs := [Value.slice A n c, Value.int .i64 ((m : Nat) : Int)]) (by kernel_rfl) (AppendUvarint_i_c A n c zs ((m : Nat) : Int) w (by omega) (hS.rdlow hr)) hS (fun v2 new3 w1 Rw1 hS1 => hK _ _ ?_))
  clear hK K
  obtain ⟨Aq4, cq5, rfl, rfl⟩ := Rw1
  have hen6 := uv_len ((m : Nat) : Int)
  have hen7 : (List.length (zs ++ uv ((m : Nat) : Int))) = (List.length zs) + (List.length (uv ((m : Nat) : Int))) := List.length_append
  refine q_seg (S := (fun x_ => St w x_ [Res.row (Value.slice Aq4 (List.length (zs ++ uv ((m : Nat) : Int))) cq5) 5 1 (List.length (zs ++ uv ((m : Nat) : Int))) ((zs ++ uv ((m : Nat) : Int)).map (Value.int .u8))])) [(5, Value.slice Aq4 (List.length (zs ++ uv ((m : Nat) : Int))) cq5)] [.no] True (by kernel_rfl) trivial hS1 ?_
  refine l_nil rfl ?_
  refine then_n ?_
  refine wp_seq ?_
  refine c_reg ?_
  refine q_seg (S := (fun x_ => St w x_ [Res.row (Value.slice Aq4 (List.length (zs ++ uv ((m : Nat) : Int))) cq5) 5 1 (List.length (zs ++ uv ((m : Nat) : Int))) ((zs ++ uv ((m : Nat) : Int)).map (Value.int .u8))])) [(11, Value.slice B m d), (10, Value.slice Aq4 (List.length (zs ++ uv ((m : Nat) : Int))) cq5)] [.no, .no] True (by kernel_rfl) trivial hS1 ?_
  refine l_op rfl rfl (fun K hK => op_append (d := some 12) rfl rfl elByte hS1 (i := 0) rfl rfl rfl (news := (ys.map (Value.int .u8))) (hS1.rdlow hr2).m1 (ints_one _ _) (by omega) (by omega) (fun v9 w8 hS8 => hK _ _ ?_))
  clear hK K
  obtain ⟨hlv9, Av9, cv9, hvv9, hnv9, hmv9⟩ := hS8.row_slice (List.mem_of_getElem? (i := 0) rfl)
  subst hvv9
  refine q_seg (S := (fun x_ => St w x_ [Res.row (Value.slice Av9 ((List.length (zs ++ uv ((m : Nat) : Int))) + m) cv9) 5 1 ((List.length (zs ++ uv ((m : Nat) : Int))) + m) (((zs ++ uv ((m : Nat) : Int)).map (Value.int .u8)) ++ (ys.map (Value.int .u8)))])) [(4, Value.slice Av9 ((List.length (zs ++ uv ((m : Nat) : Int))) + m) cv9)] [.no] True (by kernel_rfl) trivial hS8 ?_
  refine l_nil rfl ?_
  refine then_n ?_
  refine wp_ret ?_
  have hL : ((zs ++ uv ((m : Nat) : Int)) ++ ys) = ((zs ++ uv ((m : Nat) : Int)) ++ ys) := rfl
  exact c_end (S := (fun x_ => St w x_ [Res.row (Value.slice Av9 ((List.length (zs ++ uv ((m : Nat) : Int))) + m) cv9) 5 1 ((List.length (zs ++ uv ((m : Nat) : Int))) + m) (((zs ++ uv ((m : Nat) : Int)).map (Value.int .u8)) ++ (ys.map (Value.int .u8)))])) (rs := [.tmp 4]) rfl [] (v := Value.slice Av9 ((List.length (zs ++ uv ((m : Nat) : Int))) + m) cv9) (C := True) (by kernel_rfl) trivial hS8 (by rw [hL]; exact (hS8.eqv (by first | rfl | (rw [hcp]; simp [hln]; done) | (simp; done) | (simp [Nat.add_assoc]; done) | (simp [hln, Nat.add_assoc]; done) | (simp [*, Nat.add_assoc]; done))).rt ⟨Av9, cv9, (by first | rfl | (rw [hcp]; simp [hln]; done) | (simp; done) | (simp [Nat.add_assoc]; done) | (simp [hln, Nat.add_assoc]; done) | (simp [*, Nat.add_assoc]; done)), rfl⟩)
theorem AppendBytes_s_c (A : Option Addr) (n c : Nat) (zs : List Int) (B : Option Addr) (m d : Nat) (ys : List Int) (w : World) (hn : n ≤ 100000000) (hm : m ≤ 100000000) (hz : okz .u8 zs) (hy : okz .u8 ys) (hr : Rd w w.heap.size A n (zs.map (Value.int .u8))) (hr2 : Rd w w.heap.size B m (ys.map (Value.int .u8))) : Calls Try.prog 102 #[.slice A n c, .slice B m d] w (Ret w (fun v new => ∃ (A0_ : Option Addr) (c0_ : Nat), v = Value.slice A0_ (List.length ((zs ++ uv ((m : Nat) : Int)) ++ ys)) c0_ ∧ new = [Res.row (Value.slice A0_ (List.length ((zs ++ uv ((m : Nat) : Int)) ++ ys)) c0_) 5 1 (List.length ((zs ++ uv ((m : Nat) : Int)) ++ ys)) (((zs ++ uv ((m : Nat) : Int)) ++ ys).map (Value.int .u8))])) := by
  have hln := hr.len
  have hlm := hr2.len
  refine calls_FA Try.func102 rfl (n := 11) rfl (l := [(0, Value.slice A n c), (1, Value.slice B m d)]) rfl (by simp) (fun g => ?_)
  have hS := St.init w
  refine wp_seq ?_
  refine c_reg ?_
  refine q_seg (S := (fun x_ => St w x_ [])) [(4, Value.slice none 0 0)] [.no] True (by kernel_rfl) trivial hS ?_
  refine l_nil rfl ?_
  refine then_n ?_
  refine wp_seq ?_
  refine c_reg ?_
  refine q_seg (S := (fun x_ => St w x_ [])) [(7, Value.int .i64 ((m : Nat) : Int)), (6, Value.slice B m d), (5, Value.slice A n c)] [.no, .no, .no] True (by kernel_rfl) trivial hS ?_
  refine l_op rfl rfl (fun K hK => op_call (d := some 8) rfl rfl ⟨_, Try.func101, by kernel_rfl, by kernel_rfl⟩ (vs := [Value.slice A n c, Value.int .i64 ((m : Nat) : Int)]) (by kernel_rfl) (AppendUvarint_s_c A n c zs ((m : Nat) : Int) w (by omega) (hS.rdlow hr)) hS (fun v2 new3 w1 Rw1 hS1 => hK _ _ ?_))
  clear hK K
  obtain ⟨Aq4, cq5, rfl, rfl⟩ := Rw1
  have hen6 := uv_len ((m : Nat) : Int)
  have hen7 : (List.length (zs ++ uv ((m : Nat) : Int))) = (List.length zs) + (List.length (uv ((m : Nat) : Int))) := List.length_append
  refine q_seg (S := (fun x_ => St w x_ [Res.row (Value.slice Aq4 (List.length (zs ++ uv ((m : Nat) : Int))) cq5) 5 1 (List.length (zs ++ uv ((m : Nat) : Int))) ((zs ++ uv ((m : Nat) : Int)).map (Value.int .u8))])) [(9, Value.slice B m d)] [.no] True (by kernel_rfl) trivial hS1 ?_
  refine l_op rfl rfl (fun K hK => op_append (d := some 10) rfl rfl elByte hS1 (i := 0) rfl rfl rfl (news := (ys.map (Value.int .u8))) (hS1.rdlow hr2).m1 (ints_one _ _) (by omega) (by omega) (fun v9 w8 hS8 => hK _ _ ?_))
  clear hK K
  obtain ⟨hlv9, Av9, cv9, hvv9, hnv9, hmv9⟩ := hS8.row_slice (List.mem_of_getElem? (i := 0) rfl)
  subst hvv9
  refine q_seg (S := (fun x_ => St w x_ [Res.row (Value.slice Av9 ((List.length (zs ++ uv ((m : Nat) : Int))) + m) cv9) 5 1 ((List.length (zs ++ uv ((m : Nat) : Int))) + m) (((zs ++ uv ((m : Nat) : Int)).map (Value.int .u8)) ++ (ys.map (Value.int .u8)))])) [(4, Value.slice Av9 ((List.length (zs ++ uv ((m : Nat) : Int))) + m) cv9)] [.no] True (by kernel_rfl) trivial hS8 ?_
  refine l_nil rfl ?_
  refine then_n ?_
  refine wp_ret ?_
  have hL : ((zs ++ uv ((m : Nat) : Int)) ++ ys) = ((zs ++ uv ((m : Nat) : Int)) ++ ys) := rfl
  exact c_end (S := (fun x_ => St w x_ [Res.row (Value.slice Av9 ((List.length (zs ++ uv ((m : Nat) : Int))) + m) cv9) 5 1 ((List.length (zs ++ uv ((m : Nat) : Int))) + m) (((zs ++ uv ((m : Nat) : Int)).map (Value.int .u8)) ++ (ys.map (Value.int .u8)))])) (rs := [.tmp 4]) rfl [] (v := Value.slice Av9 ((List.length (zs ++ uv ((m : Nat) : Int))) + m) cv9) (C := True) (by kernel_rfl) trivial hS8 (by rw [hL]; exact (hS8.eqv (by first | rfl | (rw [hcp]; simp [hln]; done) | (simp; done) | (simp [Nat.add_assoc]; done) | (simp [hln, Nat.add_assoc]; done) | (simp [*, Nat.add_assoc]; done))).rt ⟨Av9, cv9, (by first | rfl | (rw [hcp]; simp [hln]; done) | (simp; done) | (simp [Nat.add_assoc]; done) | (simp [hln, Nat.add_assoc]; done) | (simp [*, Nat.add_assoc]; done)), rfl⟩)
theorem IsValidSecured_i_c (d c : Int) (A : Option Addr) (n k : Nat) (m : Int) (w : World) (hn : n ≤ 9223372036854775807) : Calls Try.prog 61 #[Value.agg #[Value.int .i64 d, Value.int .i64 c, Value.slice A n k, Value.int .i64 m]] w (RetV w (.bool (vsec d c n m))) := by
  refine calls_FA Try.func61 rfl (n := 27) rfl (l := [(0, Value.agg #[Value.int .i64 d, Value.int .i64 c, Value.slice A n k, Value.int .i64 m])]) rfl (by simp) (fun g => ?_)
  have hS := St.init w
  refine wp_seq ?_
  refine c_reg ?_
  refine l_op rfl rfl (fun K hK => op_box (d := some 1) rfl rfl [Value.int .i64 d, Value.int .i64 c, Value.slice A n k, Value.int .i64 m] (by kernel_rfl) hS (fun blk2 w1 hS1 => hK _ _ ?_))
  clear hK K
  refine q_seg (S := (fun x_ => St w x_ [Res.box blk2 [Value.int .i64 d, Value.int .i64 c, Value.slice A n k, Value.int .i64 m] 32])) [(2, Value.bool false)] [.no] True (by kernel_rfl) trivial hS1 ?_
  refine l_nil rfl ?_
  refine then_n ?_
  refine wp_seq ?_
  refine c_reg ?_
  refine q_seg (S := (fun x_ => St w x_ [Res.box blk2 [Value.int .i64 d, Value.int .i64 c, Value.slice A n k, Value.int .i64 m] 32])) [(6, Value.bool (decide (d = (0 : Int)))), (5, Value.bool (decide (d = (0 : Int)))), (4, Value.int .i64 d), (3, Value.pointer (some ⟨blk2, 0 + 0, none⟩))] [.no, .v (Value.int .i64 d), .no, .no] ((LoadsAt Try.prog (fun x_ => St w x_ [Res.box blk2 [Value.int .i64 d, Value.int .i64 c, Value.slice A n k, Value.int .i64 m] 32]) 3 ⟨blk2, 0 + 0, none⟩ (Value.int .i64 d))) (by kernel_rfl) (ld_box (i := 0) rfl rfl (by kernel_rfl)) hS1 ?_
  rcases Bool.eq_false_or_eq_true (decide (d = (0 : Int))) with hb3 | hb3
  · skip
    have hb3p := of_decide_eq_true hb3
    refine q_seg (S := (fun x_ => St w x_ [Res.box blk2 [Value.int .i64 d, Value.int .i64 c, Value.slice A n k, Value.int .i64 m] 32])) [(13, Value.int .i64 c), (12, Value.pointer (some ⟨blk2, 0 + 1, none⟩)), (11, Value.bool true), (10, Value.bool true), (9, undef), (8, undef), (7, undef)] [.skip, .skip, .skip, .v (.bool true), .no, .no, .v (Value.int .i64 c)] (((decide (d = (0 : Int))) = !false) ∧ ((decide (d = (0 : Int))) = !false) ∧ ((decide (d = (0 : Int))) = !false) ∧ ((decide (d = (0 : Int))) = true) ∧ (true = true) ∧ (true = true) ∧ (LoadsAt Try.prog (fun x_ => St w x_ [Res.box blk2 [Value.int .i64 d, Value.int .i64 c, Value.slice A n k, Value.int .i64 m] 32]) 3 ⟨blk2, 0 + 1, none⟩ (Value.int .i64 c))) (by kernel_rfl) ⟨hb3, hb3, hb3, hb3, rfl, rfl, (ld_box (i := 0) rfl rfl (by kernel_rfl))⟩ hS1 ?_
    refine l_opg rfl (b := true) (want := true) (by kernel_rfl) rfl (fun K hK => op_callv (d := some 14) rfl rfl ⟨_, Try.func59, by kernel_rfl, by kernel_rfl⟩ (vs := [Value.int .i64 c, Value.int .i64 1, Value.int .i64 100000]) (by kernel_rfl) (v := Value.bool (inR c 1 100000)) (InRange_c c 1 100000 _) hS1 (fun w4 hS4 => hK _ _ ?_))
    clear hK K
    refine q_seg (S := (fun x_ => St w x_ [Res.box blk2 [Value.int .i64 d, Value.int .i64 c, Value.slice A n k, Value.int .i64 m] 32])) [(16, Value.bool (inR c 1 100000)), (15, Value.bool (inR c 1 100000))] [.v (.bool true), .no] ((true = true)) (by kernel_rfl) rfl hS4 ?_
    rcases Bool.eq_false_or_eq_true (inR c 1 100000) with hb5 | hb5
    · skip
      obtain ⟨hb5p, hb5q⟩ := inR_iff.1 hb5
      refine q_seg (S := (fun x_ => St w x_ [Res.box blk2 [Value.int .i64 d, Value.int .i64 c, Value.slice A n k, Value.int .i64 m] 32])) [(22, Value.bool (decide (((n : Nat) : Int) ≤ (60 : Int)))), (21, Value.bool (decide (((n : Nat) : Int) ≤ (60 : Int)))), (20, Value.bool (decide (((n : Nat) : Int) ≤ (60 : Int)))), (19, Value.int .i64 ((n : Nat) : Int)), (18, Value.slice A n k), (17, Value.pointer (some ⟨blk2, 0 + 2, none⟩))] [.no, .v (Value.slice A n k), .no, .no, .v (.bool true), .no] (((inR c 1 100000) = true) ∧ ((inR c 1 100000) = true) ∧ (LoadsAt Try.prog (fun x_ => St w x_ [Res.box blk2 [Value.int .i64 d, Value.int .i64 c, Value.slice A n k, Value.int .i64 m] 32]) 22 ⟨blk2, 0 + 2, none⟩ (Value.slice A n k)) ∧ ((inR c 1 100000) = true) ∧ ((inR c 1 100000) = true) ∧ ((inR c 1 100000) = true)) (by kernel_rfl) ⟨hb5, hb5, (ld_box (i := 0) rfl rfl (by kernel_rfl)), hb5, hb5, hb5⟩ hS4 ?_
      rcases Bool.eq_false_or_eq_true (decide (((n : Nat) : Int) ≤ (60 : Int))) with hb6 | hb6
      · skip
        have hb6p := of_decide_eq_true hb6
        refine q_seg (S := (fun x_ => St w x_ [Res.box blk2 [Value.int .i64 d, Value.int .i64 c, Value.slice A n k, Value.int .i64 m] 32])) [(24, Value.int .i64 m), (23, Value.pointer (some ⟨blk2, 0 + 3, none⟩))] [.no, .v (Value.int .i64 m)] (((decide (((n : Nat) : Int) ≤ (60 : Int))) = true) ∧ ((decide (((n : Nat) : Int) ≤ (60 : Int))) = true) ∧ (LoadsAt Try.prog (fun x_ => St w x_ [Res.box blk2 [Value.int .i64 d, Value.int .i64 c, Value.slice A n k, Value.int .i64 m] 32]) 3 ⟨blk2, 0 + 3, none⟩ (Value.int .i64 m))) (by kernel_rfl) ⟨hb6, hb6, (ld_box (i := 0) rfl rfl (by kernel_rfl))⟩ hS4 ?_
        refine l_opg rfl (b := (decide (((n : Nat) : Int) ≤ (60 : Int)))) (want := true) (by kernel_rfl) hb6 (fun K hK => op_callv (d := some 25) rfl rfl ⟨_, Try.func59, by kernel_rfl, by kernel_rfl⟩ (vs := [Value.int .i64 m, Value.int .i64 0, Value.int .i64 2147483646]) (by kernel_rfl) (v := Value.bool (inR m 0 2147483646)) (InRange_c m 0 2147483646 _) hS4 (fun w7 hS7 => hK _ _ ?_))
        clear hK K
        refine q_seg (S := (fun x_ => St w x_ [Res.box blk2 [Value.int .i64 d, Value.int .i64 c, Value.slice A n k, Value.int .i64 m] 32])) [(2, Value.bool (inR m 0 2147483646)), (26, Value.bool (inR m 0 2147483646))] [.v (.bool true), .no] (((decide (((n : Nat) : Int) ≤ (60 : Int))) = true)) (by kernel_rfl) hb6 hS7 ?_
        refine l_nil rfl ?_
        refine then_n ?_
        refine wp_ret ?_
        exact c_end (S := (fun x_ => St w x_ [Res.box blk2 [Value.int .i64 d, Value.int .i64 c, Value.slice A n k, Value.int .i64 m] 32])) (rs := [.tmp 2]) rfl [] (v := Value.bool (inR m 0 2147483646)) (C := True) (by kernel_rfl) trivial hS7 ((hS7.rv (congrArg Value.bool (by simp only [vsec]; first | (simp [*]; done) | (simp [*, inR]; done) | (rw [Bool.eq_iff_iff]; simp [inR] at *; omega)))))
      · skip
        have hb6p := of_decide_eq_false hb6
        refine q_seg (S := (fun x_ => St w x_ [Res.box blk2 [Value.int .i64 d, Value.int .i64 c, Value.slice A n k, Value.int .i64 m] 32])) [(2, Value.bool false), (26, Value.bool false), (25, undef), (24, undef), (23, undef)] [.skip, .skip, .skip, .v (.bool false), .no] (((decide (((n : Nat) : Int) ≤ (60 : Int))) = !true) ∧ ((decide (((n : Nat) : Int) ≤ (60 : Int))) = !true) ∧ ((decide (((n : Nat) : Int) ≤ (60 : Int))) = !true) ∧ ((decide (((n : Nat) : Int) ≤ (60 : Int))) = false)) (by kernel_rfl) ⟨hb6, hb6, hb6, hb6⟩ hS4 ?_
        refine l_nil rfl ?_
        refine then_n ?_
        refine wp_ret ?_
        exact c_end (S := (fun x_ => St w x_ [Res.box blk2 [Value.int .i64 d, Value.int .i64 c, Value.slice A n k, Value.int .i64 m] 32])) (rs := [.tmp 2]) rfl [] (v := Value.bool false) (C := True) (by kernel_rfl) trivial hS4 ((hS4.rv (congrArg Value.bool (by simp only [vsec]; first | (simp [*]; done) | (simp [*, inR]; done) | (rw [Bool.eq_iff_iff]; simp [inR] at *; omega)))))
    · skip
      have hb5p := inR_neg hb5
      refine q_seg (S := (fun x_ => St w x_ [Res.box blk2 [Value.int .i64 d, Value.int .i64 c, Value.slice A n k, Value.int .i64 m] 32])) [(2, Value.bool false), (26, Value.bool false), (25, undef), (24, undef), (23, undef), (22, Value.bool false), (21, Value.bool false), (20, undef), (19, undef), (18, undef), (17, undef)] [.skip, .skip, .skip, .skip, .v (.bool false), .no, .skip, .skip, .skip, .v (.bool false), .no] (((inR c 1 100000) = !true) ∧ ((inR c 1 100000) = !true) ∧ ((inR c 1 100000) = !true) ∧ ((inR c 1 100000) = !true) ∧ ((inR c 1 100000) = false) ∧ (false = !true) ∧ (false = !true) ∧ (false = !true) ∧ (false = false)) (by kernel_rfl) ⟨hb5, hb5, hb5, hb5, hb5, rfl, rfl, rfl, rfl⟩ hS4 ?_
      refine l_nil rfl ?_
      refine then_n ?_
      refine wp_ret ?_
      exact c_end (S := (fun x_ => St w x_ [Res.box blk2 [Value.int .i64 d, Value.int .i64 c, Value.slice A n k, Value.int .i64 m] 32])) (rs := [.tmp 2]) rfl [] (v := Value.bool false) (C := True) (by kernel_rfl) trivial hS4 ((hS4.rv (congrArg Value.bool (by simp only [vsec]; first | (simp [*]; done) | (simp [*, inR]; done) | (rw [Bool.eq_iff_iff]; simp [inR] at *; omega)))))
  · skip
    have hb3p := of_decide_eq_false hb3
    refine q_seg (S := (fun x_ => St w x_ [Res.box blk2 [Value.int .i64 d, Value.int .i64 c, Value.slice A n k, Value.int .i64 m] 32])) [(11, Value.bool (decide (d = (1 : Int)))), (10, Value.bool (decide (d = (1 : Int)))), (9, Value.bool (decide (d = (1 : Int)))), (8, Value.int .i64 d), (7, Value.pointer (some ⟨blk2, 0 + 0, none⟩))] [.no, .v (Value.int .i64 d), .no, .v (.bool false), .no] (((decide (d = (0 : Int))) = false) ∧ ((decide (d = (0 : Int))) = false) ∧ (LoadsAt Try.prog (fun x_ => St w x_ [Res.box blk2 [Value.int .i64 d, Value.int .i64 c, Value.slice A n k, Value.int .i64 m] 32]) 3 ⟨blk2, 0 + 0, none⟩ (Value.int .i64 d)) ∧ ((decide (d = (0 : Int))) = false) ∧ ((decide (d = (0 : Int))) = false)) (by kernel_rfl) ⟨hb3, hb3, (ld_box (i := 0) rfl rfl (by kernel_rfl)), hb3, hb3⟩ hS1 ?_
    rcases Bool.eq_false_or_eq_true (decide (d = (1 : Int))) with hb8 | hb8
    · skip
      have hb8p := of_decide_eq_true hb8
      refine q_seg (S := (fun x_ => St w x_ [Res.box blk2 [Value.int .i64 d, Value.int .i64 c, Value.slice A n k, Value.int .i64 m] 32])) [(13, Value.int .i64 c), (12, Value.pointer (some ⟨blk2, 0 + 1, none⟩))] [.no, .v (Value.int .i64 c)] (((decide (d = (1 : Int))) = true) ∧ ((decide (d = (1 : Int))) = true) ∧ (LoadsAt Try.prog (fun x_ => St w x_ [Res.box blk2 [Value.int .i64 d, Value.int .i64 c, Value.slice A n k, Value.int .i64 m] 32]) 3 ⟨blk2, 0 + 1, none⟩ (Value.int .i64 c))) (by kernel_rfl) ⟨hb8, hb8, (ld_box (i := 0) rfl rfl (by kernel_rfl))⟩ hS1 ?_
      refine l_opg rfl (b := (decide (d = (1 : Int)))) (want := true) (by kernel_rfl) hb8 (fun K hK => op_callv (d := some 14) rfl rfl ⟨_, Try.func59, by kernel_rfl, by kernel_rfl⟩ (vs := [Value.int .i64 c, Value.int .i64 1, Value.int .i64 100000]) (by kernel_rfl) (v := Value.bool (inR c 1 100000)) (InRange_c c 1 100000 _) hS1 (fun w9 hS9 => hK _ _ ?_))
      clear hK K
      refine q_seg (S := (fun x_ => St w x_ [Res.box blk2 [Value.int .i64 d, Value.int .i64 c, Value.slice A n k, Value.int .i64 m] 32])) [(16, Value.bool (inR c 1 100000)), (15, Value.bool (inR c 1 100000))] [.v (.bool true), .no] (((decide (d = (1 : Int))) = true)) (by kernel_rfl) hb8 hS9 ?_
      rcases Bool.eq_false_or_eq_true (inR c 1 100000) with hb10 | hb10
      · skip
        obtain ⟨hb10p, hb10q⟩ := inR_iff.1 hb10
        refine q_seg (S := (fun x_ => St w x_ [Res.box blk2 [Value.int .i64 d, Value.int .i64 c, Value.slice A n k, Value.int .i64 m] 32])) [(22, Value.bool (decide (((n : Nat) : Int) ≤ (60 : Int)))), (21, Value.bool (decide (((n : Nat) : Int) ≤ (60 : Int)))), (20, Value.bool (decide (((n : Nat) : Int) ≤ (60 : Int)))), (19, Value.int .i64 ((n : Nat) : Int)), (18, Value.slice A n k), (17, Value.pointer (some ⟨blk2, 0 + 2, none⟩))] [.no, .v (Value.slice A n k), .no, .no, .v (.bool true), .no] (((inR c 1 100000) = true) ∧ ((inR c 1 100000) = true) ∧ (LoadsAt Try.prog (fun x_ => St w x_ [Res.box blk2 [Value.int .i64 d, Value.int .i64 c, Value.slice A n k, Value.int .i64 m] 32]) 22 ⟨blk2, 0 + 2, none⟩ (Value.slice A n k)) ∧ ((inR c 1 100000) = true) ∧ ((inR c 1 100000) = true) ∧ ((inR c 1 100000) = true)) (by kernel_rfl) ⟨hb10, hb10, (ld_box (i := 0) rfl rfl (by kernel_rfl)), hb10, hb10, hb10⟩ hS9 ?_
        rcases Bool.eq_false_or_eq_true (decide (((n : Nat) : Int) ≤ (60 : Int))) with hb11 | hb11
        · skip
          have hb11p := of_decide_eq_true hb11
          refine q_seg (S := (fun x_ => St w x_ [Res.box blk2 [Value.int .i64 d, Value.int .i64 c, Value.slice A n k, Value.int .i64 m] 32])) [(24, Value.int .i64 m), (23, Value.pointer (some ⟨blk2, 0 + 3, none⟩))] [.no, .v (Value.int .i64 m)] (((decide (((n : Nat) : Int) ≤ (60 : Int))) = true) ∧ ((decide (((n : Nat) : Int) ≤ (60 : Int))) = true) ∧ (LoadsAt Try.prog (fun x_ => St w x_ [Res.box blk2 [Value.int .i64 d, Value.int .i64 c, Value.slice A n k, Value.int .i64 m] 32]) 3 ⟨blk2, 0 + 3, none⟩ (Value.int .i64 m))) (by kernel_rfl) ⟨hb11, hb11, (ld_box (i := 0) rfl rfl (by kernel_rfl))⟩ hS9 ?_
          refine l_opg rfl (b := (decide (((n : Nat) : Int) ≤ (60 : Int)))) (want := true) (by kernel_rfl) hb11 (fun K hK => op_callv (d := some 25) rfl rfl ⟨_, Try.func59, by kernel_rfl, by kernel_rfl⟩ (vs := [Value.int .i64 m, Value.int .i64 0, Value.int .i64 2147483646]) (by kernel_rfl) (v := Value.bool (inR m 0 2147483646)) (InRange_c m 0 2147483646 _) hS9 (fun w12 hS12 => hK _ _ ?_))
          clear hK K
          refine q_seg (S := (fun x_ => St w x_ [Res.box blk2 [Value.int .i64 d, Value.int .i64 c, Value.slice A n k, Value.int .i64 m] 32])) [(2, Value.bool (inR m 0 2147483646)), (26, Value.bool (inR m 0 2147483646))] [.v (.bool true), .no] (((decide (((n : Nat) : Int) ≤ (60 : Int))) = true)) (by kernel_rfl) hb11 hS12 ?_
          refine l_nil rfl ?_
          refine then_n ?_
          refine wp_ret ?_
          exact c_end (S := (fun x_ => St w x_ [Res.box blk2 [Value.int .i64 d, Value.int .i64 c, Value.slice A n k, Value.int .i64 m] 32])) (rs := [.tmp 2]) rfl [] (v := Value.bool (inR m 0 2147483646)) (C := True) (by kernel_rfl) trivial hS12 ((hS12.rv (congrArg Value.bool (by simp only [vsec]; first | (simp [*]; done) | (simp [*, inR]; done) | (rw [Bool.eq_iff_iff]; simp [inR] at *; omega)))))
        · skip
          have hb11p := of_decide_eq_false hb11
          refine q_seg (S := (fun x_ => St w x_ [Res.box blk2 [Value.int .i64 d, Value.int .i64 c, Value.slice A n k, Value.int .i64 m] 32])) [(2, Value.bool false), (26, Value.bool false), (25, undef), (24, undef), (23, undef)] [.skip, .skip, .skip, .v (.bool false), .no] (((decide (((n : Nat) : Int) ≤ (60 : Int))) = !true) ∧ ((decide (((n : Nat) : Int) ≤ (60 : Int))) = !true) ∧ ((decide (((n : Nat) : Int) ≤ (60 : Int))) = !true) ∧ ((decide (((n : Nat) : Int) ≤ (60 : Int))) = false)) (by kernel_rfl) ⟨hb11, hb11, hb11, hb11⟩ hS9 ?_
          refine l_nil rfl ?_
          refine then_n ?_
          refine wp_ret ?_
          exact c_end (S := (fun x_ => St w x_ [Res.box blk2 [Value.int .i64 d, Value.int .i64 c, Value.slice A n k, Value.int .i64 m] 32])) (rs := [.tmp 2]) rfl [] (v := Value.bool false) (C := True) (by kernel_rfl) trivial hS9 ((hS9.rv (congrArg Value.bool (by simp only [vsec]; first | (simp [*]; done) | (simp [*, inR]; done) | (rw [Bool.eq_iff_iff]; simp [inR] at *; omega)))))
      · skip
        have hb10p := inR_neg hb10
        refine q_seg (S := (fun x_ => St w x_ [Res.box blk2 [Value.int .i64 d, Value.int .i64 c, Value.slice A n k, Value.int .i64 m] 32])) [(2, Value.bool false), (26, Value.bool false), (25, undef), (24, undef), (23, undef), (22, Value.bool false), (21, Value.bool false), (20, undef), (19, undef), (18, undef), (17, undef)] [.skip, .skip, .skip, .skip, .v (.bool false), .no, .skip, .skip, .skip, .v (.bool false), .no] (((inR c 1 100000) = !true) ∧ ((inR c 1 100000) = !true) ∧ ((inR c 1 100000) = !true) ∧ ((inR c 1 100000) = !true) ∧ ((inR c 1 100000) = false) ∧ (false = !true) ∧ (false = !true) ∧ (false = !true) ∧ (false = false)) (by kernel_rfl) ⟨hb10, hb10, hb10, hb10, hb10, rfl, rfl, rfl, rfl⟩ hS9 ?_
        refine l_nil rfl ?_
        refine then_n ?_
        refine wp_ret ?_
        exact c_end (S := (fun x_ => St w x_ [Res.box blk2 [Value.int .i64 d, Value.int .i64 c, Value.slice A n k, Value.int .i64 m] 32])) (rs := [.tmp 2]) rfl [] (v := Value.bool false) (C := True) (by kernel_rfl) trivial hS9 ((hS9.rv (congrArg Value.bool (by simp only [vsec]; first | (simp [*]; done) | (simp [*, inR]; done) | (rw [Bool.eq_iff_iff]; simp [inR] at *; omega)))))
    · skip
      have hb8p := of_decide_eq_false hb8
      refine q_seg (S := (fun x_ => St w x_ [Res.box blk2 [Value.int .i64 d, Value.int .i64 c, Value.slice A n k, Value.int .i64 m] 32])) [(2, Value.bool false), (26, Value.bool false), (25, undef), (24, undef), (23, undef), (22, Value.bool false), (21, Value.bool false), (20, undef), (19, undef), (18, undef), (17, undef), (16, Value.bool false), (15, Value.bool false), (14, undef), (13, undef), (12, undef)] [.skip, .skip, .skip, .v (.bool false), .no, .skip, .skip, .skip, .skip, .v (.bool false), .no, .skip, .skip, .skip, .v (.bool false), .no] (((decide (d = (1 : Int))) = !true) ∧ ((decide (d = (1 : Int))) = !true) ∧ ((decide (d = (1 : Int))) = !true) ∧ ((decide (d = (1 : Int))) = false) ∧ (false = !true) ∧ (false = !true) ∧ (false = !true) ∧ (false = !true) ∧ (false = false) ∧ (false = !true) ∧ (false = !true) ∧ (false = !true) ∧ (false = false)) (by kernel_rfl) ⟨hb8, hb8, hb8, hb8, rfl, rfl, rfl, rfl, rfl, rfl, rfl, rfl, rfl⟩ hS1 ?_
      refine l_nil rfl ?_
      refine then_n ?_
      refine wp_ret ?_
      exact c_end (S := (fun x_ => St w x_ [Res.box blk2 [Value.int .i64 d, Value.int .i64 c, Value.slice A n k, Value.int .i64 m] 32])) (rs := [.tmp 2]) rfl [] (v := Value.bool false) (C := True) (by kernel_rfl) trivial hS1 ((hS1.rv (congrArg Value.bool (by simp only [vsec]; first | (simp [*]; done) | (simp [*, inR]; done) | (rw [Bool.eq_iff_iff]; simp [inR] at *; omega)))))
theorem IsValidSecured_s_c (d c : Int) (A : Option Addr) (n k : Nat) (m : Int) (w : World) (hn : n ≤ 9223372036854775807) : Calls Try.prog 28 #[Value.agg #[Value.int .i64 d, Value.int .i64 c, Value.slice A n k, Value.int .i64 m]] w (RetV w (.bool (vsec d c n m))) := by
  refine calls_FA Try.func28 rfl (n := 22) rfl (l := [(0, Value.agg #[Value.int .i64 d, Value.int .i64 c, Value.slice A n k, Value.int .i64 m])]) rfl (by simp) (fun g => ?_)
  have hS := St.init w
  refine wp_seq ?_
  refine c_reg ?_
  refine l_op rfl rfl (fun K hK => op_box (d := some 1) rfl rfl [Value.int .i64 d, Value.int .i64 c, Value.slice A n k, Value.int .i64 m] (by kernel_rfl) hS (fun blk2 w1 hS1 => hK _ _ ?_))
  clear hK K
  refine q_seg (S := (fun x_ => St w x_ [Res.box blk2 [Value.int .i64 d, Value.int .i64 c, Value.slice A n k, Value.int .i64 m] 32])) [(2, Value.bool false)] [.no] True (by kernel_rfl) trivial hS1 ?_
  refine l_nil rfl ?_
  refine then_n ?_
  refine wp_seq ?_
  refine c_reg ?_
  refine q_seg (S := (fun x_ => St w x_ [Res.box blk2 [Value.int .i64 d, Value.int .i64 c, Value.slice A n k, Value.int .i64 m] 32])) [(4, Value.int .i64 d), (3, Value.pointer (some ⟨blk2, 0 + 0, none⟩))] [.no, .v (Value.int .i64 d)] ((LoadsAt Try.prog (fun x_ => St w x_ [Res.box blk2 [Value.int .i64 d, Value.int .i64 c, Value.slice A n k, Value.int .i64 m] 32]) 3 ⟨blk2, 0 + 0, none⟩ (Value.int .i64 d))) (by kernel_rfl) (ld_box (i := 0) rfl rfl (by kernel_rfl)) hS1 ?_
  refine l_op rfl rfl (fun K hK => op_callv (d := some 5) rfl rfl ⟨_, Try.func66, by kernel_rfl, by kernel_rfl⟩ (vs := [Value.int .i64 d, Value.int .i64 0, Value.int .i64 1]) (by kernel_rfl) (v := Value.bool (inR d 0 1)) (l1In_c d 0 1 _) hS1 (fun w3 hS3 => hK _ _ ?_))
  clear hK K
  refine q_seg (S := (fun x_ => St w x_ [Res.box blk2 [Value.int .i64 d, Value.int .i64 c, Value.slice A n k, Value.int .i64 m] 32])) [(6, Value.bool (inR d 0 1))] [.no] True (by kernel_rfl) trivial hS3 ?_
  rcases Bool.eq_false_or_eq_true (inR d 0 1) with hb4 | hb4
  · skip
    obtain ⟨hb4p, hb4q⟩ := inR_iff.1 hb4
    refine q_seg (S := (fun x_ => St w x_ [Res.box blk2 [Value.int .i64 d, Value.int .i64 c, Value.slice A n k, Value.int .i64 m] 32])) [(8, Value.int .i64 c), (7, Value.pointer (some ⟨blk2, 0 + 1, none⟩))] [.no, .v (Value.int .i64 c)] (((inR d 0 1) = true) ∧ ((inR d 0 1) = true) ∧ (LoadsAt Try.prog (fun x_ => St w x_ [Res.box blk2 [Value.int .i64 d, Value.int .i64 c, Value.slice A n k, Value.int .i64 m] 32]) 3 ⟨blk2, 0 + 1, none⟩ (Value.int .i64 c))) (by kernel_rfl) ⟨hb4, hb4, (ld_box (i := 0) rfl rfl (by kernel_rfl))⟩ hS3 ?_
    refine l_opg rfl (b := (inR d 0 1)) (want := true) (by kernel_rfl) hb4 (fun K hK => op_callv (d := some 9) rfl rfl ⟨_, Try.func66, by kernel_rfl, by kernel_rfl⟩ (vs := [Value.int .i64 c, Value.int .i64 1, Value.int .i64 100000]) (by kernel_rfl) (v := Value.bool (inR c 1 100000)) (l1In_c c 1 100000 _) hS3 (fun w5 hS5 => hK _ _ ?_))
    clear hK K
    refine q_seg (S := (fun x_ => St w x_ [Res.box blk2 [Value.int .i64 d, Value.int .i64 c, Value.slice A n k, Value.int .i64 m] 32])) [(11, Value.bool (inR c 1 100000)), (10, Value.bool (inR c 1 100000))] [.v (.bool true), .no] (((inR d 0 1) = true)) (by kernel_rfl) hb4 hS5 ?_
    rcases Bool.eq_false_or_eq_true (inR c 1 100000) with hb6 | hb6
    · skip
      obtain ⟨hb6p, hb6q⟩ := inR_iff.1 hb6
      refine q_seg (S := (fun x_ => St w x_ [Res.box blk2 [Value.int .i64 d, Value.int .i64 c, Value.slice A n k, Value.int .i64 m] 32])) [(17, Value.bool (decide (((n : Nat) : Int) ≤ (60 : Int)))), (16, Value.bool (decide (((n : Nat) : Int) ≤ (60 : Int)))), (15, Value.bool (decide (((n : Nat) : Int) ≤ (60 : Int)))), (14, Value.int .i64 ((n : Nat) : Int)), (13, Value.slice A n k), (12, Value.pointer (some ⟨blk2, 0 + 2, none⟩))] [.no, .v (Value.slice A n k), .no, .no, .v (.bool true), .no] (((inR c 1 100000) = true) ∧ ((inR c 1 100000) = true) ∧ (LoadsAt Try.prog (fun x_ => St w x_ [Res.box blk2 [Value.int .i64 d, Value.int .i64 c, Value.slice A n k, Value.int .i64 m] 32]) 22 ⟨blk2, 0 + 2, none⟩ (Value.slice A n k)) ∧ ((inR c 1 100000) = true) ∧ ((inR c 1 100000) = true) ∧ ((inR c 1 100000) = true)) (by kernel_rfl) ⟨hb6, hb6, (ld_box (i := 0) rfl rfl (by kernel_rfl)), hb6, hb6, hb6⟩ hS5 ?_
      rcases Bool.eq_false_or_eq_true (decide (((n : Nat) : Int) ≤ (60 : Int))) with hb7 | hb7
      · skip
        have hb7p := of_decide_eq_true hb7
        refine q_seg (S := (fun x_ => St w x_ [Res.box blk2 [Value.int .i64 d, Value.int .i64 c, Value.slice A n k, Value.int .i64 m] 32])) [(19, Value.int .i64 m), (18, Value.pointer (some ⟨blk2, 0 + 3, none⟩))] [.no, .v (Value.int .i64 m)] (((decide (((n : Nat) : Int) ≤ (60 : Int))) = true) ∧ ((decide (((n : Nat) : Int) ≤ (60 : Int))) = true) ∧ (LoadsAt Try.prog (fun x_ => St w x_ [Res.box blk2 [Value.int .i64 d, Value.int .i64 c, Value.slice A n k, Value.int .i64 m] 32]) 3 ⟨blk2, 0 + 3, none⟩ (Value.int .i64 m))) (by kernel_rfl) ⟨hb7, hb7, (ld_box (i := 0) rfl rfl (by kernel_rfl))⟩ hS5 ?_
        refine l_opg rfl (b := (decide (((n : Nat) : Int) ≤ (60 : Int)))) (want := true) (by kernel_rfl) hb7 (fun K hK => op_callv (d := some 20) rfl rfl ⟨_, Try.func66, by kernel_rfl, by kernel_rfl⟩ (vs := [Value.int .i64 m, Value.int .i64 0, Value.int .i64 2147483646]) (by kernel_rfl) (v := Value.bool (inR m 0 2147483646)) (l1In_c m 0 2147483646 _) hS5 (fun w8 hS8 => hK _ _ ?_))
        clear hK K
        refine q_seg (S := (fun x_ => St w x_ [Res.box blk2 [Value.int .i64 d, Value.int .i64 c, Value.slice A n k, Value.int .i64 m] 32])) [(2, Value.bool (inR m 0 2147483646)), (21, Value.bool (inR m 0 2147483646))] [.v (.bool true), .no] (((decide (((n : Nat) : Int) ≤ (60 : Int))) = true)) (by kernel_rfl) hb7 hS8 ?_
        refine l_nil rfl ?_
        refine then_n ?_
        refine wp_ret ?_
        exact c_end (S := (fun x_ => St w x_ [Res.box blk2 [Value.int .i64 d, Value.int .i64 c, Value.slice A n k, Value.int .i64 m] 32])) (rs := [.tmp 2]) rfl [] (v := Value.bool (inR m 0 2147483646)) (C := True) (by kernel_rfl) trivial hS8 ((hS8.rv (congrArg Value.bool (by simp only [vsec]; first | (simp [*]; done) | (simp [*, inR]; done) | (rw [Bool.eq_iff_iff]; simp [inR] at *; omega)))))
      · skip
        have hb7p := of_decide_eq_false hb7
        refine q_seg (S := (fun x_ => St w x_ [Res.box blk2 [Value.int .i64 d, Value.int .i64 c, Value.slice A n k, Value.int .i64 m] 32])) [(2, Value.bool false), (21, Value.bool false), (20, undef), (19, undef), (18, undef)] [.skip, .skip, .skip, .v (.bool false), .no] (((decide (((n : Nat) : Int) ≤ (60 : Int))) = !true) ∧ ((decide (((n : Nat) : Int) ≤ (60 : Int))) = !true) ∧ ((decide (((n : Nat) : Int) ≤ (60 : Int))) = !true) ∧ ((decide (((n : Nat) : Int) ≤ (60 : Int))) = false)) (by kernel_rfl) ⟨hb7, hb7, hb7, hb7⟩ hS5 ?_
        refine l_nil rfl ?_
        refine then_n ?_
        refine wp_ret ?_
        exact c_end (S := (fun x_ => St w x_ [Res.box blk2 [Value.int .i64 d, Value.int .i64 c, Value.slice A n k, Value.int .i64 m] 32])) (rs := [.tmp 2]) rfl [] (v := Value.bool false) (C := True) (by kernel_rfl) trivial hS5 ((hS5.rv (congrArg Value.bool (by simp only [vsec]; first | (simp [*]; done) | (simp [*, inR]; done) | (rw [Bool.eq_iff_iff]; simp [inR] at *; omega)))))
    · skip
      have hb6p := inR_neg hb6
      refine q_seg (S := (fun x_ => St w x_ [Res.box blk2 [Value.int .i64 d, Value.int .i64 c, Value.slice A n k, Value.int .i64 m] 32])) [(2, Value.bool false), (21, Value.bool false), (20, undef), (19, undef), (18, undef), (17, Value.bool false), (16, Value.bool false), (15, undef), (14, undef), (13, undef), (12, undef)] [.skip, .skip, .skip, .skip, .v (.bool false), .no, .skip, .skip, .skip, .v (.bool false), .no] (((inR c 1 100000) = !true) ∧ ((inR c 1 100000) = !true) ∧ ((inR c 1 100000) = !true) ∧ ((inR c 1 100000) = !true) ∧ ((inR c 1 100000) = false) ∧ (false = !true) ∧ (false = !true) ∧ (false = !true) ∧ (false = false)) (by kernel_rfl) ⟨hb6, hb6, hb6, hb6, hb6, rfl, rfl, rfl, rfl⟩ hS5 ?_
      refine l_nil rfl ?_
      refine then_n ?_
      refine wp_ret ?_
      exact c_end (S := (fun x_ => St w x_ [Res.box blk2 [Value.int .i64 d, Value.int .i64 c, Value.slice A n k, Value.int .i64 m] 32])) (rs := [.tmp 2]) rfl [] (v := Value.bool false) (C := True) (by kernel_rfl) trivial hS5 ((hS5.rv (congrArg Value.bool (by simp only [vsec]; first | (simp [*]; done) | (simp [*, inR]; done) | (rw [Bool.eq_iff_iff]; simp [inR] at *; omega)))))
  · skip
    have hb4p := inR_neg hb4
    refine q_seg (S := (fun x_ => St w x_ [Res.box blk2 [Value.int .i64 d, Value.int .i64 c, Value.slice A n k, Value.int .i64 m] 32])) [(2, Value.bool false), (21, Value.bool false), (20, undef), (19, undef), (18, undef), (17, Value.bool false), (16, Value.bool false), (15, undef), (14, undef), (13, undef), (12, undef), (11, Value.bool false), (10, Value.bool false), (9, undef), (8, undef), (7, undef)] [.skip, .skip, .skip, .v (.bool false), .no, .skip, .skip, .skip, .skip, .v (.bool false), .no, .skip, .skip, .skip, .v (.bool false), .no] (((inR d 0 1) = !true) ∧ ((inR d 0 1) = !true) ∧ ((inR d 0 1) = !true) ∧ ((inR d 0 1) = false) ∧ (false = !true) ∧ (false = !true) ∧ (false = !true) ∧ (false = !true) ∧ (false = false) ∧ (false = !true) ∧ (false = !true) ∧ (false = !true) ∧ (false = false)) (by kernel_rfl) ⟨hb4, hb4, hb4, hb4, rfl, rfl, rfl, rfl, rfl, rfl, rfl, rfl, rfl⟩ hS3 ?_
    refine l_nil rfl ?_
    refine then_n ?_
    refine wp_ret ?_
    exact c_end (S := (fun x_ => St w x_ [Res.box blk2 [Value.int .i64 d, Value.int .i64 c, Value.slice A n k, Value.int .i64 m] 32])) (rs := [.tmp 2]) rfl [] (v := Value.bool false) (C := True) (by kernel_rfl) trivial hS3 ((hS3.rv (congrArg Value.bool (by simp only [vsec]; first | (simp [*]; done) | (simp [*, inR]; done) | (rw [Bool.eq_iff_iff]; simp [inR] at *; omega)))))
theorem EncodeSecured_i_c (a0 : Int) (a1 : Int) (a2A : Option Addr) (a2n a2c : Nat) (a2z : List Int) (a3 : Int) (w : World) (a2h : Rd w w.heap.size a2A a2n (a2z.map (Value.int .u8))) (a2w : a2n ≤ 99999999) (a2o : okz .u8 a2z) : Calls Try.prog 63 #[Value.agg #[Value.int .i64 a0, Value.int .i64 a1, Value.slice a2A a2n a2c, Value.int .i64 a3]] w (Ret w (fun v new => ∃ (A0_ : Option Addr) (c0_ : Nat), v = Value.slice A0_ (List.length (esec a0 a1 a2z a3)) c0_ ∧ new = [Res.row (Value.slice A0_ (List.length (esec a0 a1 a2z a3)) c0_) 5 1 (List.length (esec a0 a1 a2z a3)) ((esec a0 a1 a2z a3).map (Value.int .u8))])) := by
  obtain rfl : a2n = a2z.length := a2h.len.symm
  refine calls_FA Try.func63 rfl (n := 22) rfl (l := [(0, Value.agg #[Value.int .i64 a0, Value.int .i64 a1, Value.slice a2A a2z.length a2c, Value.int .i64 a3])]) rfl (by simp) (fun g => ?_)
  have hS := St.init w
  refine wp_seq ?_
  refine c_reg ?_
  refine l_op rfl rfl (fun K hK => op_box (d := some 1) rfl rfl [Value.int .i64 a0, Value.int .i64 a1, Value.slice a2A a2z.length a2c, Value.int .i64 a3] (by kernel_rfl) hS (fun blk2 w1 hS1 => hK _ _ ?_))
  clear hK K
  refine q_seg (S := (fun x_ => St w x_ [Res.box blk2 [Value.int .i64 a0, Value.int .i64 a1, Value.slice a2A a2z.length a2c, Value.int .i64 a3] 32])) [(2, Value.slice none 0 0)] [.no] True (by kernel_rfl) trivial hS1 ?_
  refine l_nil rfl ?_
  refine then_n ?_
  refine wp_seq ?_
  refine wp_seq ?_
  refine c_reg ?_
  refine q_seg (S := (fun x_ => St w x_ [Res.box blk2 [Value.int .i64 a0, Value.int .i64 a1, Value.slice a2A a2z.length a2c, Value.int .i64 a3] 32])) [(4, Value.agg #[Value.int .i64 a0, Value.int .i64 a1, Value.slice a2A a2z.length a2c, Value.int .i64 a3])] [.v (Value.agg #[Value.int .i64 a0, Value.int .i64 a1, Value.slice a2A a2z.length a2c, Value.int .i64 a3])] ((LoadsAt Try.prog (fun x_ => St w x_ [Res.box blk2 [Value.int .i64 a0, Value.int .i64 a1, Value.slice a2A a2z.length a2c, Value.int .i64 a3] 32]) 32 ⟨blk2, 0, none⟩ (Value.agg #[Value.int .i64 a0, Value.int .i64 a1, Value.slice a2A a2z.length a2c, Value.int .i64 a3]))) (by kernel_rfl) (ld_boxN (i := 0) (k := 4) rfl rfl rfl (by kernel_rfl)) hS1 ?_
  refine l_op rfl rfl (fun K hK => op_callv (d := some 5) rfl rfl ⟨_, Try.func61, by kernel_rfl, by kernel_rfl⟩ (vs := [Value.agg #[Value.int .i64 a0, Value.int .i64 a1, Value.slice a2A a2z.length a2c, Value.int .i64 a3]]) (by kernel_rfl) (v := Value.bool (vsec a0 a1 a2z.length a3)) (IsValidSecured_i_c a0 a1 a2A a2z.length a2c a3 w1 (by omega)) hS1 (fun w3 hS3 => hK _ _ ?_))
  clear hK K
  refine q_seg (S := (fun x_ => St w x_ [Res.box blk2 [Value.int .i64 a0, Value.int .i64 a1, Value.slice a2A a2z.length a2c, Value.int .i64 a3] 32])) [(6, Value.bool (!(vsec a0 a1 a2z.length a3)))] [.no] True (by kernel_rfl) trivial hS3 ?_
  refine l_nil rfl ?_
  refine then_n ?_
  rcases Bool.eq_false_or_eq_true (vsec a0 a1 a2z.length a3) with hb4 | hb4
  · skip
    refine c_false (b := (!(vsec a0 a1 a2z.length a3))) (by kernel_rfl) (nb (v := true) hb4) ?_
    refine wp_skip ?_
    refine then_n ?_
    refine wp_seq ?_
    refine c_reg ?_
    refine q_seg (S := (fun x_ => St w x_ [Res.box blk2 [Value.int .i64 a0, Value.int .i64 a1, Value.slice a2A a2z.length a2c, Value.int .i64 a3] 32])) [(11, Value.int .i64 a1), (10, Value.pointer (some ⟨blk2, 0 + 1, none⟩)), (9, Value.int .i64 a0), (8, Value.pointer (some ⟨blk2, 0 + 0, none⟩))] [.no, .v (Value.int .i64 a0), .no, .v (Value.int .i64 a1)] ((LoadsAt Try.prog (fun x_ => St w x_ [Res.box blk2 [Value.int .i64 a0, Value.int .i64 a1, Value.slice a2A a2z.length a2c, Value.int .i64 a3] 32]) 3 ⟨blk2, 0 + 0, none⟩ (Value.int .i64 a0)) ∧ (LoadsAt Try.prog (fun x_ => St w x_ [Res.box blk2 [Value.int .i64 a0, Value.int .i64 a1, Value.slice a2A a2z.length a2c, Value.int .i64 a3] 32]) 3 ⟨blk2, 0 + 1, none⟩ (Value.int .i64 a1))) (by kernel_rfl) ⟨(ld_box (i := 0) rfl rfl (by kernel_rfl)), (ld_box (i := 0) rfl rfl (by kernel_rfl))⟩ hS3 ?_
    refine l_op rfl rfl (fun K hK => op_buildSlice (d := some 12) rfl rfl (e := 3) (by kernel_rfl) 1 (by kernel_rfl) (by decide) (by decide) [Value.int .i64 a0, Value.int .i64 a1] (by kernel_rfl) rfl hS3 (fun blk6 w5 hS5 => hK _ _ ?_))
    clear hK K
    refine l_op rfl rfl (fun K hK => op_call (d := some 13) rfl rfl ⟨_, Try.func62, by kernel_rfl, by kernel_rfl⟩ (vs := [Value.slice (some ⟨blk6, 0, none⟩) 2 2]) (by kernel_rfl) (EncodeInts_i_c (some ⟨blk6, 0, none⟩) 2 2 ([a0, a1]) w5 (by omega) (hS5.rd (List.mem_of_getElem? (i := 0) rfl)).u1) hS5 (fun v8 new9 w7 Rw7 hS7 => hK _ _ ?_))
    clear hK K
    obtain ⟨Aq10, cq11, rfl, rfl⟩ := Rw7
    have hen12 := encs_len ([a0, a1])
    simp only [List.length_cons, List.length_nil] at hen12
    refine q_seg (S := (fun x_ => St w x_ [Res.row (Value.slice Aq10 (List.length (encs ([a0, a1]))) cq11) 5 1 (List.length (encs ([a0, a1]))) ((encs ([a0, a1])).map (Value.int .u8)), Res.row (Value.slice (some ⟨blk6, 0, none⟩) 2 2) 3 1 2 ([Value.int .i64 a0, Value.int .i64 a1]), Res.box blk2 [Value.int .i64 a0, Value.int .i64 a1, Value.slice a2A a2z.length a2c, Value.int .i64 a3] 32])) [(3, Value.slice Aq10 (List.length (encs ([a0, a1]))) cq11)] [.no] True (by kernel_rfl) trivial hS7 ?_
    refine l_nil rfl ?_
    refine then_n ?_
    refine wp_seq ?_
    refine c_reg ?_
    refine q_seg (S := (fun x_ => St w x_ [Res.row (Value.slice Aq10 (List.length (encs ([a0, a1]))) cq11) 5 1 (List.length (encs ([a0, a1]))) ((encs ([a0, a1])).map (Value.int .u8)), Res.row (Value.slice (some ⟨blk6, 0, none⟩) 2 2) 3 1 2 ([Value.int .i64 a0, Value.int .i64 a1]), Res.box blk2 [Value.int .i64 a0, Value.int .i64 a1, Value.slice a2A a2z.length a2c, Value.int .i64 a3] 32])) [(16, Value.slice a2A a2z.length a2c), (15, Value.pointer (some ⟨blk2, 0 + 2, none⟩)), (14, Value.slice Aq10 (List.length (encs ([a0, a1]))) cq11)] [.no, .no, .v (Value.slice a2A a2z.length a2c)] ((LoadsAt Try.prog (fun x_ => St w x_ [Res.row (Value.slice Aq10 (List.length (encs ([a0, a1]))) cq11) 5 1 (List.length (encs ([a0, a1]))) ((encs ([a0, a1])).map (Value.int .u8)), Res.row (Value.slice (some ⟨blk6, 0, none⟩) 2 2) 3 1 2 ([Value.int .i64 a0, Value.int .i64 a1]), Res.box blk2 [Value.int .i64 a0, Value.int .i64 a1, Value.slice a2A a2z.length a2c, Value.int .i64 a3] 32]) 22 ⟨blk2, 0 + 2, none⟩ (Value.slice a2A a2z.length a2c))) (by kernel_rfl) (ld_box (i := 2) rfl rfl (by kernel_rfl)) hS7 ?_
    refine l_op rfl rfl (fun K hK => op_call (d := some 17) rfl rfl ⟨_, Try.func94, by kernel_rfl, by kernel_rfl⟩ (vs := [Value.slice Aq10 (List.length (encs ([a0, a1]))) cq11, Value.slice a2A a2z.length a2c]) (by kernel_rfl) (AppendBytes_i_c Aq10 (List.length (encs ([a0, a1]))) cq11 (encs ([a0, a1])) a2A a2z.length a2c a2z w7 (by omega) (by omega) (encs_ok _) a2o (hS7.rd (List.mem_of_getElem? (i := 0) rfl)).u1 (hS7.rdlow a2h)) hS7 (fun v14 new15 w13 Rw13 hS13 => hK _ _ ?_))
    clear hK K
    obtain ⟨Aq16, cq17, rfl, rfl⟩ := Rw13
    have hen18 := uv_len ((a2z.length : Nat) : Int)
    have hen19 : (List.length (((encs ([a0, a1])) ++ uv ((a2z.length : Nat) : Int)) ++ a2z)) = ((List.length (encs ([a0, a1]))) + (List.length (uv ((a2z.length : Nat) : Int)))) + (List.length a2z) := by rw [List.length_append, List.length_append]
    refine q_seg (S := (fun x_ => St w x_ [Res.row (Value.slice Aq16 (List.length (((encs ([a0, a1])) ++ uv ((a2z.length : Nat) : Int)) ++ a2z)) cq17) 5 1 (List.length (((encs ([a0, a1])) ++ uv ((a2z.length : Nat) : Int)) ++ a2z)) ((((encs ([a0, a1])) ++ uv ((a2z.length : Nat) : Int)) ++ a2z).map (Value.int .u8)), Res.row (Value.slice Aq10 (List.length (encs ([a0, a1]))) cq11) 5 1 (List.length (encs ([a0, a1]))) ((encs ([a0, a1])).map (Value.int .u8)), Res.row (Value.slice (some ⟨blk6, 0, none⟩) 2 2) 3 1 2 ([Value.int .i64 a0, Value.int .i64 a1]), Res.box blk2 [Value.int .i64 a0, Value.int .i64 a1, Value.slice a2A a2z.length a2c, Value.int .i64 a3] 32])) [(3, Value.slice Aq16 (List.length (((encs ([a0, a1])) ++ uv ((a2z.length : Nat) : Int)) ++ a2z)) cq17)] [.no] True (by kernel_rfl) trivial hS13 ?_
    refine l_nil rfl ?_
    refine then_n ?_
    refine wp_seq ?_
    refine c_reg ?_
    refine q_seg (S := (fun x_ => St w x_ [Res.row (Value.slice Aq16 (List.length (((encs ([a0, a1])) ++ uv ((a2z.length : Nat) : Int)) ++ a2z)) cq17) 5 1 (List.length (((encs ([a0, a1])) ++ uv ((a2z.length : Nat) : Int)) ++ a2z)) ((((encs ([a0, a1])) ++ uv ((a2z.length : Nat) : Int)) ++ a2z).map (Value.int .u8)), Res.row (Value.slice Aq10 (List.length (encs ([a0, a1]))) cq11) 5 1 (List.length (encs ([a0, a1]))) ((encs ([a0, a1])).map (Value.int .u8)), Res.row (Value.slice (some ⟨blk6, 0, none⟩) 2 2) 3 1 2 ([Value.int .i64 a0, Value.int .i64 a1]), Res.box blk2 [Value.int .i64 a0, Value.int .i64 a1, Value.slice a2A a2z.length a2c, Value.int .i64 a3] 32])) [(20, Value.int .i64 a3), (19, Value.pointer (some ⟨blk2, 0 + 3, none⟩)), (18, Value.slice Aq16 (List.length (((encs ([a0, a1])) ++ uv ((a2z.length : Nat) : Int)) ++ a2z)) cq17)] [.no, .no, .v (Value.int .i64 a3)] ((LoadsAt Try.prog (fun x_ => St w x_ [Res.row (Value.slice Aq16 (List.length (((encs ([a0, a1])) ++ uv ((a2z.length : Nat) : Int)) ++ a2z)) cq17) 5 1 (List.length (((encs ([a0, a1])) ++ uv ((a2z.length : Nat) : Int)) ++ a2z)) ((((encs ([a0, a1])) ++ uv ((a2z.length : Nat) : Int)) ++ a2z).map (Value.int .u8)), Res.row (Value.slice Aq10 (List.length (encs ([a0, a1]))) cq11) 5 1 (List.length (encs ([a0, a1]))) ((encs ([a0, a1])).map (Value.int .u8)), Res.row (Value.slice (some ⟨blk6, 0, none⟩) 2 2) 3 1 2 ([Value.int .i64 a0, Value.int .i64 a1]), Res.box blk2 [Value.int .i64 a0, Value.int .i64 a1, Value.slice a2A a2z.length a2c, Value.int .i64 a3] 32]) 3 ⟨blk2, 0 + 3, none⟩ (Value.int .i64 a3))) (by kernel_rfl) (ld_box (i := 3) rfl rfl (by kernel_rfl)) hS13 ?_
    refine l_op rfl rfl (fun K hK => op_call (d := some 21) rfl rfl ⟨_, Try.func93, by kernel_rfl, by kernel_rfl⟩ (vs := [Value.slice Aq16 (List.length (((encs ([a0, a1])) ++ uv ((a2z.length : Nat) : Int)) ++ a2z)) cq17, Value.int .i64 a3]) (by kernel_rfl) (AppendUvarint_i_c Aq16 (List.length (((encs ([a0, a1])) ++ uv ((a2z.length : Nat) : Int)) ++ a2z)) cq17 (((encs ([a0, a1])) ++ uv ((a2z.length : Nat) : Int)) ++ a2z) a3 w13 (by omega) (hS13.rd (List.mem_of_getElem? (i := 0) rfl)).u1) hS13 (fun v21 new22 w20 Rw20 hS20 => hK _ _ ?_))
    clear hK K
    obtain ⟨Aq23, cq24, rfl, rfl⟩ := Rw20
    have hen25 := uv_len a3
    have hen26 : (List.length ((((encs ([a0, a1])) ++ uv ((a2z.length : Nat) : Int)) ++ a2z) ++ uv a3)) = (List.length (((encs ([a0, a1])) ++ uv ((a2z.length : Nat) : Int)) ++ a2z)) + (List.length (uv a3)) := List.length_append
    refine q_seg (S := (fun x_ => St w x_ [Res.row (Value.slice Aq23 (List.length ((((encs ([a0, a1])) ++ uv ((a2z.length : Nat) : Int)) ++ a2z) ++ uv a3)) cq24) 5 1 (List.length ((((encs ([a0, a1])) ++ uv ((a2z.length : Nat) : Int)) ++ a2z) ++ uv a3)) (((((encs ([a0, a1])) ++ uv ((a2z.length : Nat) : Int)) ++ a2z) ++ uv a3).map (Value.int .u8)), Res.row (Value.slice Aq16 (List.length (((encs ([a0, a1])) ++ uv ((a2z.length : Nat) : Int)) ++ a2z)) cq17) 5 1 (List.length (((encs ([a0, a1])) ++ uv ((a2z.length : Nat) : Int)) ++ a2z)) ((((encs ([a0, a1])) ++ uv ((a2z.length : Nat) : Int)) ++ a2z).map (Value.int .u8)), Res.row (Value.slice Aq10 (List.length (encs ([a0, a1]))) cq11) 5 1 (List.length (encs ([a0, a1]))) ((encs ([a0, a1])).map (Value.int .u8)), Res.row (Value.slice (some ⟨blk6, 0, none⟩) 2 2) 3 1 2 ([Value.int .i64 a0, Value.int .i64 a1]), Res.box blk2 [Value.int .i64 a0, Value.int .i64 a1, Value.slice a2A a2z.length a2c, Value.int .i64 a3] 32])) [(2, Value.slice Aq23 (List.length ((((encs ([a0, a1])) ++ uv ((a2z.length : Nat) : Int)) ++ a2z) ++ uv a3)) cq24)] [.no] True (by kernel_rfl) trivial hS20 ?_
    refine l_nil rfl ?_
    refine then_n ?_
    refine wp_ret ?_
    have hS20s1 : St w w20 [Res.row (Value.slice Aq23 (List.length ((((encs ([a0, a1])) ++ uv ((a2z.length : Nat) : Int)) ++ a2z) ++ uv a3)) cq24) 5 1 (List.length ((((encs ([a0, a1])) ++ uv ((a2z.length : Nat) : Int)) ++ a2z) ++ uv a3)) (((((encs ([a0, a1])) ++ uv ((a2z.length : Nat) : Int)) ++ a2z) ++ uv a3).map (Value.int .u8))] := (hS20.sub (List.Sublist.cons_cons _ (List.Sublist.cons _ (List.Sublist.cons _ (List.Sublist.cons _ (List.Sublist.cons _ List.Sublist.slnil))))))
    have hL : (esec a0 a1 a2z a3) = (((encs [a0, a1] ++ uv ((a2z.length : Nat) : Int)) ++ a2z) ++ uv a3) := by rw [esec, hb4]; rfl
    exact c_end (S := (fun x_ => St w x_ [Res.row (Value.slice Aq23 (List.length ((((encs ([a0, a1])) ++ uv ((a2z.length : Nat) : Int)) ++ a2z) ++ uv a3)) cq24) 5 1 (List.length ((((encs ([a0, a1])) ++ uv ((a2z.length : Nat) : Int)) ++ a2z) ++ uv a3)) (((((encs ([a0, a1])) ++ uv ((a2z.length : Nat) : Int)) ++ a2z) ++ uv a3).map (Value.int .u8)), Res.row (Value.slice Aq16 (List.length (((encs ([a0, a1])) ++ uv ((a2z.length : Nat) : Int)) ++ a2z)) cq17) 5 1 (List.length (((encs ([a0, a1])) ++ uv ((a2z.length : Nat) : Int)) ++ a2z)) ((((encs ([a0, a1])) ++ uv ((a2z.length : Nat) : Int)) ++ a2z).map (Value.int .u8)), Res.row (Value.slice Aq10 (List.length (encs ([a0, a1]))) cq11) 5 1 (List.length (encs ([a0, a1]))) ((encs ([a0, a1])).map (Value.int .u8)), Res.row (Value.slice (some ⟨blk6, 0, none⟩) 2 2) 3 1 2 ([Value.int .i64 a0, Value.int .i64 a1]), Res.box blk2 [Value.int .i64 a0, Value.int .i64 a1, Value.slice a2A a2z.length a2c, Value.int .i64 a3] 32])) (rs := [.tmp 2]) rfl [] (v := Value.slice Aq23 (List.length ((((encs ([a0, a1])) ++ uv ((a2z.length : Nat) : Int)) ++ a2z) ++ uv a3)) cq24) (C := True) (by kernel_rfl) trivial hS20 (by rw [hL]; exact (hS20s1.eqv (by first | rfl | (rw [hcp]; simp [hln]; done) | (simp; done) | (simp [Nat.add_assoc]; done) | (simp [hln, Nat.add_assoc]; done) | (simp [*, Nat.add_assoc]; done))).rt ⟨Aq23, cq24, (by first | rfl | (rw [hcp]; simp [hln]; done) | (simp; done) | (simp [Nat.add_assoc]; done) | (simp [hln, Nat.add_assoc]; done) | (simp [*, Nat.add_assoc]; done)), rfl⟩)
  · skip
    refine c_true (b := (!(vsec a0 a1 a2z.length a3))) (by kernel_rfl) (nb (v := false) hb4) ?_
    refine wp_seq ?_
    refine c_reg ?_
    refine l_op rfl rfl (fun K hK => op_buildSlice (d := some 7) rfl rfl (e := 5) (by kernel_rfl) 1 (by kernel_rfl) (by decide) (by decide) [] (by kernel_rfl) rfl hS3 (fun blk28 w27 hS27 => hK _ _ ?_))
    clear hK K
    refine q_seg (S := (fun x_ => St w x_ [Res.row (Value.slice (some ⟨blk28, 0, none⟩) 0 0) 5 1 0 ([]), Res.box blk2 [Value.int .i64 a0, Value.int .i64 a1, Value.slice a2A a2z.length a2c, Value.int .i64 a3] 32])) [(2, Value.slice (some ⟨blk28, 0, none⟩) 0 0)] [.no] True (by kernel_rfl) trivial hS27 ?_
    refine l_nil rfl ?_
    refine then_n ?_
    refine wp_ret ?_
    refine then_r ?_
    have hS27s2 : St w w27 [Res.row (Value.slice (some ⟨blk28, 0, none⟩) 0 0) 5 1 0 ([])] := (hS27.sub (List.Sublist.cons_cons _ (List.Sublist.cons _ List.Sublist.slnil)))
    have hL : (esec a0 a1 a2z a3) = [] := by rw [esec, hb4]; rfl
    exact c_end (S := (fun x_ => St w x_ [Res.row (Value.slice (some ⟨blk28, 0, none⟩) 0 0) 5 1 0 ([]), Res.box blk2 [Value.int .i64 a0, Value.int .i64 a1, Value.slice a2A a2z.length a2c, Value.int .i64 a3] 32])) (rs := [.tmp 2]) rfl [] (v := Value.slice (some ⟨blk28, 0, none⟩) 0 0) (C := True) (by kernel_rfl) trivial hS27 (by rw [hL]; exact (hS27s2.eqv (by first | rfl | (rw [hcp]; simp [hln]; done) | (simp; done) | (simp [Nat.add_assoc]; done) | (simp [hln, Nat.add_assoc]; done) | (simp [*, Nat.add_assoc]; done))).rt ⟨(some ⟨blk28, 0, none⟩), 0, (by first | rfl | (rw [hcp]; simp [hln]; done) | (simp; done) | (simp [Nat.add_assoc]; done) | (simp [hln, Nat.add_assoc]; done) | (simp [*, Nat.add_assoc]; done)), rfl⟩)
theorem EncodeSecured_s_c (a0 : Int) (a1 : Int) (a2A : Option Addr) (a2n a2c : Nat) (a2z : List Int) (a3 : Int) (w : World) (a2h : Rd w w.heap.size a2A a2n (a2z.map (Value.int .u8))) (a2w : a2n ≤ 99999999) (a2o : okz .u8 a2z) : Calls Try.prog 74 #[Value.agg #[Value.int .i64 a0, Value.int .i64 a1, Value.slice a2A a2n a2c, Value.int .i64 a3]] w (Ret w (fun v new => ∃ (A0_ : Option Addr) (c0_ : Nat), v = Value.slice A0_ (List.length (esec a0 a1 a2z a3)) c0_ ∧ new = [Res.row (Value.slice A0_ (List.length (esec a0 a1 a2z a3)) c0_) 5 1 (List.length (esec a0 a1 a2z a3)) ((esec a0 a1 a2z a3).map (Value.int .u8))])) := by
  obtain rfl : a2n = a2z.length := a2h.len.symm
  refine calls_FA Try.func74 rfl (n := 21) rfl (l := [(0, Value.agg #[Value.int .i64 a0, Value.int .i64 a1, Value.slice a2A a2z.length a2c, Value.int .i64 a3])]) rfl (by simp) (fun g => ?_)
  have hS := St.init w
  refine wp_seq ?_
  refine c_reg ?_
  refine l_op rfl rfl (fun K hK => op_box (d := some 1) rfl rfl [Value.int .i64 a0, Value.int .i64 a1, Value.slice a2A a2z.length a2c, Value.int .i64 a3] (by kernel_rfl) hS (fun blk2 w1 hS1 => hK _ _ ?_))
  clear hK K
  refine q_seg (S := (fun x_ => St w x_ [Res.box blk2 [Value.int .i64 a0, Value.int .i64 a1, Value.slice a2A a2z.length a2c, Value.int .i64 a3] 32])) [(2, Value.slice none 0 0)] [.no] True (by kernel_rfl) trivial hS1 ?_
  refine l_nil rfl ?_
  refine then_n ?_
  refine wp_seq ?_
  refine wp_seq ?_
  refine c_reg ?_
  refine q_seg (S := (fun x_ => St w x_ [Res.box blk2 [Value.int .i64 a0, Value.int .i64 a1, Value.slice a2A a2z.length a2c, Value.int .i64 a3] 32])) [(4, Value.agg #[Value.int .i64 a0, Value.int .i64 a1, Value.slice a2A a2z.length a2c, Value.int .i64 a3])] [.v (Value.agg #[Value.int .i64 a0, Value.int .i64 a1, Value.slice a2A a2z.length a2c, Value.int .i64 a3])] ((LoadsAt Try.prog (fun x_ => St w x_ [Res.box blk2 [Value.int .i64 a0, Value.int .i64 a1, Value.slice a2A a2z.length a2c, Value.int .i64 a3] 32]) 32 ⟨blk2, 0, none⟩ (Value.agg #[Value.int .i64 a0, Value.int .i64 a1, Value.slice a2A a2z.length a2c, Value.int .i64 a3]))) (by kernel_rfl) (ld_boxN (i := 0) (k := 4) rfl rfl rfl (by kernel_rfl)) hS1 ?_
  refine l_op rfl rfl (fun K hK => op_callv (d := some 5) rfl rfl ⟨_, Try.func28, by kernel_rfl, by kernel_rfl⟩ (vs := [Value.agg #[Value.int .i64 a0, Value.int .i64 a1, Value.slice a2A a2z.length a2c, Value.int .i64 a3]]) (by kernel_rfl) (v := Value.bool (vsec a0 a1 a2z.length a3)) (IsValidSecured_s_c a0 a1 a2A a2z.length a2c a3 w1 (by omega)) hS1 (fun w3 hS3 => hK _ _ ?_))
  clear hK K
  refine q_seg (S := (fun x_ => St w x_ [Res.box blk2 [Value.int .i64 a0, Value.int .i64 a1, Value.slice a2A a2z.length a2c, Value.int .i64 a3] 32])) [(6, Value.bool (!(vsec a0 a1 a2z.length a3)))] [.no] True (by kernel_rfl) trivial hS3 ?_
  refine l_nil rfl ?_
  refine then_n ?_
  rcases Bool.eq_false_or_eq_true (vsec a0 a1 a2z.length a3) with hb4 | hb4
  · skip
    refine c_false (b := (!(vsec a0 a1 a2z.length a3))) (by kernel_rfl) (nb (v := true) hb4) ?_
    refine wp_skip ?_
    refine then_n ?_
    refine wp_seq ?_
    refine c_drawn [] (by kernel_rfl) hS3 (fun w5 hS5 => ?_)
    refine t_seg (S := (fun x_ => St w x_ [Res.box blk2 [Value.int .i64 a0, Value.int .i64 a1, Value.slice a2A a2z.length a2c, Value.int .i64 a3] 32])) [(0, .no), (2, .no), (6, .no), (1, .v (Value.int .i64 a0)), (3, .v (Value.int .i64 a1)), (7, .v (Value.slice a2A a2z.length a2c))] 4 #[true, true, true, true, false, false, true, true, false, false] [(15, Value.slice a2A a2z.length a2c), (11, Value.int .i64 a1), (9, Value.int .i64 a0), (14, Value.pointer (some ⟨blk2, 0 + 2, none⟩)), (10, Value.pointer (some ⟨blk2, 0 + 1, none⟩)), (8, Value.pointer (some ⟨blk2, 0 + 0, none⟩))] ((LoadsAt Try.prog (fun x_ => St w x_ [Res.box blk2 [Value.int .i64 a0, Value.int .i64 a1, Value.slice a2A a2z.length a2c, Value.int .i64 a3] 32]) 3 ⟨blk2, 0 + 0, none⟩ (Value.int .i64 a0)) ∧ (LoadsAt Try.prog (fun x_ => St w x_ [Res.box blk2 [Value.int .i64 a0, Value.int .i64 a1, Value.slice a2A a2z.length a2c, Value.int .i64 a3] 32]) 3 ⟨blk2, 0 + 1, none⟩ (Value.int .i64 a1)) ∧ (LoadsAt Try.prog (fun x_ => St w x_ [Res.box blk2 [Value.int .i64 a0, Value.int .i64 a1, Value.slice a2A a2z.length a2c, Value.int .i64 a3] 32]) 22 ⟨blk2, 0 + 2, none⟩ (Value.slice a2A a2z.length a2c))) (by kernel_rfl) (Qpanic.then Qpanic.bp) rfl (by kernel_rfl) ⟨(ld_box (i := 0) rfl rfl (by kernel_rfl)), (ld_box (i := 0) rfl rfl (by kernel_rfl)), (ld_box (i := 0) rfl rfl (by kernel_rfl))⟩ hS5 ?_
    refine a_op (i := 4) (fuel := 3) (listed' := #[true, true, true, true, true, false, true, true, false, false]) rfl rfl (by kernel_rfl) (by kernel_rfl) rfl (fun K hK => op_buildSlice (d := some 12) rfl rfl (e := 3) (by kernel_rfl) 1 (by kernel_rfl) (by decide) (by decide) [Value.int .i64 a0, Value.int .i64 a1] (by kernel_rfl) rfl hS5 (fun blk7 w6 hS6 => hK _ _ (fun _ => hS6.drop) ?_))
    clear hK K
    refine a_op (i := 5) (fuel := 2) (listed' := #[true, true, true, true, true, true, true, true, false, false]) rfl rfl (by kernel_rfl) (by kernel_rfl) rfl (fun K hK => op_call (d := some 13) rfl rfl ⟨_, Try.func73, by kernel_rfl, by kernel_rfl⟩ (vs := [Value.slice (some ⟨blk7, 0, none⟩) 2 2]) (by kernel_rfl) (EncodeInts_s_c (some ⟨blk7, 0, none⟩) 2 2 ([a0, a1]) w6 (by omega) (hS6.rd (List.mem_of_getElem? (i := 0) rfl)).u1) hS6 (fun v9 new10 w8 Rw8 hS8 => hK _ _ (fun _ => hS8.after.drop) ?_))
    clear hK K
    obtain ⟨Aq11, cq12, rfl, rfl⟩ := Rw8
    have hen13 := encs_len ([a0, a1])
    simp only [List.length_cons, List.length_nil] at hen13
    refine a_op (i := 8) (fuel := 1) (listed' := #[true, true, true, true, true, true, true, true, true, false]) rfl rfl (by kernel_rfl) (by kernel_rfl) rfl (fun K hK => op_call (d := some 16) rfl rfl ⟨_, Try.func102, by kernel_rfl, by kernel_rfl⟩ (vs := [Value.slice Aq11 (List.length (encs ([a0, a1]))) cq12, Value.slice a2A a2z.length a2c]) (by kernel_rfl) (AppendBytes_s_c Aq11 (List.length (encs ([a0, a1]))) cq12 (encs ([a0, a1])) a2A a2z.length a2c a2z w8 (by omega) (by omega) (encs_ok _) a2o (hS8.rd (List.mem_of_getElem? (i := 0) rfl)).u1 (hS8.rdlow a2h)) hS8 (fun v15 new16 w14 Rw14 hS14 => hK _ _ (fun _ => hS14.after.drop.drop) ?_))
    clear hK K
    obtain ⟨Aq17, cq18, rfl, rfl⟩ := Rw14
    have hen19 := uv_len ((a2z.length : Nat) : Int)
    have hen20 : (List.length (((encs ([a0, a1])) ++ uv ((a2z.length : Nat) : Int)) ++ a2z)) = ((List.length (encs ([a0, a1]))) + (List.length (uv ((a2z.length : Nat) : Int)))) + (List.length a2z) := by rw [List.length_append, List.length_append]
    refine t_seg (S := (fun x_ => St w x_ [Res.box blk2 [Value.int .i64 a0, Value.int .i64 a1, Value.slice a2A a2z.length a2c, Value.int .i64 a3] 32])) [(9, .no)] 0 #[true, true, true, true, true, true, true, true, true, true] [(3, Value.slice Aq17 (List.length (((encs ([a0, a1])) ++ uv ((a2z.length : Nat) : Int)) ++ a2z)) cq18)] True (by kernel_rfl) (Qpanic.then Qpanic.bp) rfl (by kernel_rfl) trivial (hS14.drop.drop.drop) ?_
    refine a_done (by kernel_rfl) ?_
    refine then_n ?_
    refine wp_seq ?_
    refine c_reg ?_
    refine q_seg (S := (fun x_ => St w x_ [Res.row (Value.slice Aq17 (List.length (((encs ([a0, a1])) ++ uv ((a2z.length : Nat) : Int)) ++ a2z)) cq18) 5 1 (List.length (((encs ([a0, a1])) ++ uv ((a2z.length : Nat) : Int)) ++ a2z)) ((((encs ([a0, a1])) ++ uv ((a2z.length : Nat) : Int)) ++ a2z).map (Value.int .u8)), Res.row (Value.slice Aq11 (List.length (encs ([a0, a1]))) cq12) 5 1 (List.length (encs ([a0, a1]))) ((encs ([a0, a1])).map (Value.int .u8)), Res.row (Value.slice (some ⟨blk7, 0, none⟩) 2 2) 3 1 2 ([Value.int .i64 a0, Value.int .i64 a1]), Res.box blk2 [Value.int .i64 a0, Value.int .i64 a1, Value.slice a2A a2z.length a2c, Value.int .i64 a3] 32])) [(19, Value.int .i64 a3), (18, Value.pointer (some ⟨blk2, 0 + 3, none⟩)), (17, Value.slice Aq17 (List.length (((encs ([a0, a1])) ++ uv ((a2z.length : Nat) : Int)) ++ a2z)) cq18)] [.no, .no, .v (Value.int .i64 a3)] ((LoadsAt Try.prog (fun x_ => St w x_ [Res.row (Value.slice Aq17 (List.length (((encs ([a0, a1])) ++ uv ((a2z.length : Nat) : Int)) ++ a2z)) cq18) 5 1 (List.length (((encs ([a0, a1])) ++ uv ((a2z.length : Nat) : Int)) ++ a2z)) ((((encs ([a0, a1])) ++ uv ((a2z.length : Nat) : Int)) ++ a2z).map (Value.int .u8)), Res.row (Value.slice Aq11 (List.length (encs ([a0, a1]))) cq12) 5 1 (List.length (encs ([a0, a1]))) ((encs ([a0, a1])).map (Value.int .u8)), Res.row (Value.slice (some ⟨blk7, 0, none⟩) 2 2) 3 1 2 ([Value.int .i64 a0, Value.int .i64 a1]), Res.box blk2 [Value.int .i64 a0, Value.int .i64 a1, Value.slice a2A a2z.length a2c, Value.int .i64 a3] 32]) 3 ⟨blk2, 0 + 3, none⟩ (Value.int .i64 a3))) (by kernel_rfl) (ld_box (i := 3) rfl rfl (by kernel_rfl)) hS14 ?_
    refine l_op rfl rfl (fun K hK => op_call (d := some 20) rfl rfl ⟨_, Try.func101, by kernel_rfl, by kernel_rfl⟩ (vs := [Value.slice Aq17 (List.length (((encs ([a0, a1])) ++ uv ((a2z.length : Nat) : Int)) ++ a2z)) cq18, Value.int .i64 a3]) (by kernel_rfl) (AppendUvarint_s_c Aq17 (List.length (((encs ([a0, a1])) ++ uv ((a2z.length : Nat) : Int)) ++ a2z)) cq18 (((encs ([a0, a1])) ++ uv ((a2z.length : Nat) : Int)) ++ a2z) a3 w14 (by omega) (hS14.rd (List.mem_of_getElem? (i := 0) rfl)).u1) hS14 (fun v22 new23 w21 Rw21 hS21 => hK _ _ ?_))
    clear hK K
    obtain ⟨Aq24, cq25, rfl, rfl⟩ := Rw21
    have hen26 := uv_len a3
    have hen27 : (List.length ((((encs ([a0, a1])) ++ uv ((a2z.length : Nat) : Int)) ++ a2z) ++ uv a3)) = (List.length (((encs ([a0, a1])) ++ uv ((a2z.length : Nat) : Int)) ++ a2z)) + (List.length (uv a3)) := List.length_append
    refine q_seg (S := (fun x_ => St w x_ [Res.row (Value.slice Aq24 (List.length ((((encs ([a0, a1])) ++ uv ((a2z.length : Nat) : Int)) ++ a2z) ++ uv a3)) cq25) 5 1 (List.length ((((encs ([a0, a1])) ++ uv ((a2z.length : Nat) : Int)) ++ a2z) ++ uv a3)) (((((encs ([a0, a1])) ++ uv ((a2z.length : Nat) : Int)) ++ a2z) ++ uv a3).map (Value.int .u8)), Res.row (Value.slice Aq17 (List.length (((encs ([a0, a1])) ++ uv ((a2z.length : Nat) : Int)) ++ a2z)) cq18) 5 1 (List.length (((encs ([a0, a1])) ++ uv ((a2z.length : Nat) : Int)) ++ a2z)) ((((encs ([a0, a1])) ++ uv ((a2z.length : Nat) : Int)) ++ a2z).map (Value.int .u8)), Res.row (Value.slice Aq11 (List.length (encs ([a0, a1]))) cq12) 5 1 (List.length (encs ([a0, a1]))) ((encs ([a0, a1])).map (Value.int .u8)), Res.row (Value.slice (some ⟨blk7, 0, none⟩) 2 2) 3 1 2 ([Value.int .i64 a0, Value.int .i64 a1]), Res.box blk2 [Value.int .i64 a0, Value.int .i64 a1, Value.slice a2A a2z.length a2c, Value.int .i64 a3] 32])) [(2, Value.slice Aq24 (List.length ((((encs ([a0, a1])) ++ uv ((a2z.length : Nat) : Int)) ++ a2z) ++ uv a3)) cq25)] [.no] True (by kernel_rfl) trivial hS21 ?_
    refine l_nil rfl ?_
    refine then_n ?_
    refine wp_ret ?_
    have hS21s1 : St w w21 [Res.row (Value.slice Aq24 (List.length ((((encs ([a0, a1])) ++ uv ((a2z.length : Nat) : Int)) ++ a2z) ++ uv a3)) cq25) 5 1 (List.length ((((encs ([a0, a1])) ++ uv ((a2z.length : Nat) : Int)) ++ a2z) ++ uv a3)) (((((encs ([a0, a1])) ++ uv ((a2z.length : Nat) : Int)) ++ a2z) ++ uv a3).map (Value.int .u8))] := (hS21.sub (List.Sublist.cons_cons _ (List.Sublist.cons _ (List.Sublist.cons _ (List.Sublist.cons _ (List.Sublist.cons _ List.Sublist.slnil))))))
    have hL : (esec a0 a1 a2z a3) = (((encs [a0, a1] ++ uv ((a2z.length : Nat) : Int)) ++ a2z) ++ uv a3) := by rw [esec, hb4]; rfl
    exact c_end (S := (fun x_ => St w x_ [Res.row (Value.slice Aq24 (List.length ((((encs ([a0, a1])) ++ uv ((a2z.length : Nat) : Int)) ++ a2z) ++ uv a3)) cq25) 5 1 (List.length ((((encs ([a0, a1])) ++ uv ((a2z.length : Nat) : Int)) ++ a2z) ++ uv a3)) (((((encs ([a0, a1])) ++ uv ((a2z.length : Nat) : Int)) ++ a2z) ++ uv a3).map (Value.int .u8)), Res.row (Value.slice Aq17 (List.length (((encs ([a0, a1])) ++ uv ((a2z.length : Nat) : Int)) ++ a2z)) cq18) 5 1 (List.length (((encs ([a0, a1])) ++ uv ((a2z.length : Nat) : Int)) ++ a2z)) ((((encs ([a0, a1])) ++ uv ((a2z.length : Nat) : Int)) ++ a2z).map (Value.int .u8)), Res.row (Value.slice Aq11 (List.length (encs ([a0, a1]))) cq12) 5 1 (List.length (encs ([a0, a1]))) ((encs ([a0, a1])).map (Value.int .u8)), Res.row (Value.slice (some ⟨blk7, 0, none⟩) 2 2) 3 1 2 ([Value.int .i64 a0, Value.int .i64 a1]), Res.box blk2 [Value.int .i64 a0, Value.int .i64 a1, Value.slice a2A a2z.length a2c, Value.int .i64 a3] 32])) (rs := [.tmp 2]) rfl [] (v := Value.slice Aq24 (List.length ((((encs ([a0, a1])) ++ uv ((a2z.length : Nat) : Int)) ++ a2z) ++ uv a3)) cq25) (C := True) (by kernel_rfl) trivial hS21 (by rw [hL]; exact (hS21s1.eqv (by first | rfl | (rw [hcp]; simp [hln]; done) | (simp; done) | (simp [Nat.add_assoc]; done) | (simp [hln, Nat.add_assoc]; done) | (simp [*, Nat.add_assoc]; done))).rt ⟨Aq24, cq25, (by first | rfl | (rw [hcp]; simp [hln]; done) | (simp; done) | (simp [Nat.add_assoc]; done) | (simp [hln, Nat.add_assoc]; done) | (simp [*, Nat.add_assoc]; done)), rfl⟩)
  · skip
    refine c_true (b := (!(vsec a0 a1 a2z.length a3))) (by kernel_rfl) (nb (v := false) hb4) ?_
    refine wp_seq ?_
    refine c_reg ?_
    refine l_op rfl rfl (fun K hK => op_buildSlice (d := some 7) rfl rfl (e := 5) (by kernel_rfl) 1 (by kernel_rfl) (by decide) (by decide) [] (by kernel_rfl) rfl hS3 (fun blk29 w28 hS28 => hK _ _ ?_))
    clear hK K
    refine q_seg (S := (fun x_ => St w x_ [Res.row (Value.slice (some ⟨blk29, 0, none⟩) 0 0) 5 1 0 ([]), Res.box blk2 [Value.int .i64 a0, Value.int .i64 a1, Value.slice a2A a2z.length a2c, Value.int .i64 a3] 32])) [(2, Value.slice (some ⟨blk29, 0, none⟩) 0 0)] [.no] True (by kernel_rfl) trivial hS28 ?_
    refine l_nil rfl ?_
    refine then_n ?_
    refine wp_ret ?_
    refine then_r ?_
    have hS28s2 : St w w28 [Res.row (Value.slice (some ⟨blk29, 0, none⟩) 0 0) 5 1 0 ([])] := (hS28.sub (List.Sublist.cons_cons _ (List.Sublist.cons _ List.Sublist.slnil)))
    have hL : (esec a0 a1 a2z a3) = [] := by rw [esec, hb4]; rfl
    exact c_end (S := (fun x_ => St w x_ [Res.row (Value.slice (some ⟨blk29, 0, none⟩) 0 0) 5 1 0 ([]), Res.box blk2 [Value.int .i64 a0, Value.int .i64 a1, Value.slice a2A a2z.length a2c, Value.int .i64 a3] 32])) (rs := [.tmp 2]) rfl [] (v := Value.slice (some ⟨blk29, 0, none⟩) 0 0) (C := True) (by kernel_rfl) trivial hS28 (by rw [hL]; exact (hS28s2.eqv (by first | rfl | (rw [hcp]; simp [hln]; done) | (simp; done) | (simp [Nat.add_assoc]; done) | (simp [hln, Nat.add_assoc]; done) | (simp [*, Nat.add_assoc]; done))).rt ⟨(some ⟨blk29, 0, none⟩), 0, (by first | rfl | (rw [hcp]; simp [hln]; done) | (simp; done) | (simp [Nat.add_assoc]; done) | (simp [hln, Nat.add_assoc]; done) | (simp [*, Nat.add_assoc]; done)), rfl⟩)
theorem EncodeRadio_i_c (a0 : Int) (a1 : Int) (a2 : Int) (a3 : Int) (a4A : Option Addr) (a4n a4c : Nat) (a4z : List Int) (a5 : Int) (w : World) (a4h : Rd w w.heap.size a4A a4n (a4z.map (Value.int .u8))) (a4w : a4n ≤ 99999999) (a4o : okz .u8 a4z) : Calls Try.prog 26 #[Value.agg #[Value.int .i64 a0, Value.int .i64 a1, Value.int .i64 a2, Value.int .i64 a3, Value.slice a4A a4n a4c, Value.int .i64 a5]] w (Ret w (fun v new => ∃ (A0_ : Option Addr) (c0_ : Nat), v = Value.slice A0_ (List.length (erad a0 a1 a2 a3 a4z a5)) c0_ ∧ new = [Res.row (Value.slice A0_ (List.length (erad a0 a1 a2 a3 a4z a5)) c0_) 5 1 (List.length (erad a0 a1 a2 a3 a4z a5)) ((erad a0 a1 a2 a3 a4z a5).map (Value.int .u8))])) := by
  obtain rfl : a4n = a4z.length := a4h.len.symm
  refine calls_FA Try.func26 rfl (n := 30) rfl (l := [(0, Value.agg #[Value.int .i64 a0, Value.int .i64 a1, Value.int .i64 a2, Value.int .i64 a3, Value.slice a4A a4z.length a4c, Value.int .i64 a5])]) rfl (by simp) (fun g => ?_)
  have hS := St.init w
  refine wp_seq ?_
  refine c_reg ?_
  refine l_op rfl rfl (fun K hK => op_box (d := some 1) rfl rfl [Value.int .i64 a0, Value.int .i64 a1, Value.int .i64 a2, Value.int .i64 a3, Value.slice a4A a4z.length a4c, Value.int .i64 a5] (by kernel_rfl) hS (fun blk2 w1 hS1 => hK _ _ ?_))
  clear hK K
  refine q_seg (S := (fun x_ => St w x_ [Res.box blk2 [Value.int .i64 a0, Value.int .i64 a1, Value.int .i64 a2, Value.int .i64 a3, Value.slice a4A a4z.length a4c, Value.int .i64 a5] 34])) [(2, Value.slice none 0 0)] [.no] True (by kernel_rfl) trivial hS1 ?_
  refine l_nil rfl ?_
  refine then_n ?_
  refine wp_seq ?_
  refine wp_seq ?_
  refine c_reg ?_
  refine q_seg (S := (fun x_ => St w x_ [Res.box blk2 [Value.int .i64 a0, Value.int .i64 a1, Value.int .i64 a2, Value.int .i64 a3, Value.slice a4A a4z.length a4c, Value.int .i64 a5] 34])) [(4, Value.int .i64 a0), (3, Value.pointer (some ⟨blk2, 0 + 0, none⟩))] [.no, .v (Value.int .i64 a0)] ((LoadsAt Try.prog (fun x_ => St w x_ [Res.box blk2 [Value.int .i64 a0, Value.int .i64 a1, Value.int .i64 a2, Value.int .i64 a3, Value.slice a4A a4z.length a4c, Value.int .i64 a5] 34]) 3 ⟨blk2, 0 + 0, none⟩ (Value.int .i64 a0))) (by kernel_rfl) (ld_box (i := 0) rfl rfl (by kernel_rfl)) hS1 ?_
  refine l_op rfl rfl (fun K hK => op_callv (d := some 5) rfl rfl ⟨_, Try.func59, by kernel_rfl, by kernel_rfl⟩ (vs := [Value.int .i64 a0, Value.int .i64 0, Value.int .i64 100000]) (by kernel_rfl) (v := Value.bool (inR a0 0 100000)) (InRange_c a0 0 100000 _) hS1 (fun w3 hS3 => hK _ _ ?_))
  clear hK K
  refine q_seg (S := (fun x_ => St w x_ [Res.box blk2 [Value.int .i64 a0, Value.int .i64 a1, Value.int .i64 a2, Value.int .i64 a3, Value.slice a4A a4z.length a4c, Value.int .i64 a5] 34])) [(7, Value.bool (!(inR a0 0 100000))), (6, Value.bool (!(inR a0 0 100000)))] [.no, .no] True (by kernel_rfl) trivial hS3 ?_
  rcases Bool.eq_false_or_eq_true (inR a0 0 100000) with hb4 | hb4
  · skip
    obtain ⟨hb4p, hb4q⟩ := inR_iff.1 hb4
    refine q_seg (S := (fun x_ => St w x_ [Res.box blk2 [Value.int .i64 a0, Value.int .i64 a1, Value.int .i64 a2, Value.int .i64 a3, Value.slice a4A a4z.length a4c, Value.int .i64 a5] 34])) [(9, Value.int .i64 a1), (8, Value.pointer (some ⟨blk2, 0 + 1, none⟩))] [.no, .v (Value.int .i64 a1)] (((!(inR a0 0 100000)) = false) ∧ ((!(inR a0 0 100000)) = false) ∧ (LoadsAt Try.prog (fun x_ => St w x_ [Res.box blk2 [Value.int .i64 a0, Value.int .i64 a1, Value.int .i64 a2, Value.int .i64 a3, Value.slice a4A a4z.length a4c, Value.int .i64 a5] 34]) 3 ⟨blk2, 0 + 1, none⟩ (Value.int .i64 a1))) (by kernel_rfl) ⟨(nb (v := true) hb4), (nb (v := true) hb4), (ld_box (i := 0) rfl rfl (by kernel_rfl))⟩ hS3 ?_
    refine l_opg rfl (b := (!(inR a0 0 100000))) (want := false) (by kernel_rfl) (nb (v := true) hb4) (fun K hK => op_callv (d := some 10) rfl rfl ⟨_, Try.func59, by kernel_rfl, by kernel_rfl⟩ (vs := [Value.int .i64 a1, Value.int .i64 0, Value.int .i64 100000]) (by kernel_rfl) (v := Value.bool (inR a1 0 100000)) (InRange_c a1 0 100000 _) hS3 (fun w5 hS5 => hK _ _ ?_))
    clear hK K
    refine q_seg (S := (fun x_ => St w x_ [Res.box blk2 [Value.int .i64 a0, Value.int .i64 a1, Value.int .i64 a2, Value.int .i64 a3, Value.slice a4A a4z.length a4c, Value.int .i64 a5] 34])) [(13, Value.bool (!(inR a1 0 100000))), (12, Value.bool (!(inR a1 0 100000))), (11, Value.bool (!(inR a1 0 100000)))] [.no, .v (.bool false), .no] (((!(inR a0 0 100000)) = false) ∧ ((!(inR a0 0 100000)) = false)) (by kernel_rfl) ⟨(nb (v := true) hb4), (nb (v := true) hb4)⟩ hS5 ?_
    rcases Bool.eq_false_or_eq_true (inR a1 0 100000) with hb6 | hb6
    · skip
      obtain ⟨hb6p, hb6q⟩ := inR_iff.1 hb6
      refine q_seg (S := (fun x_ => St w x_ [Res.box blk2 [Value.int .i64 a0, Value.int .i64 a1, Value.int .i64 a2, Value.int .i64 a3, Value.slice a4A a4z.length a4c, Value.int .i64 a5] 34])) [(15, Value.agg #[Value.int .i64 a2, Value.int .i64 a3, Value.slice a4A a4z.length a4c, Value.int .i64 a5]), (14, Value.pointer (some ⟨blk2, 0 + 2, none⟩))] [.no, .v (Value.agg #[Value.int .i64 a2, Value.int .i64 a3, Value.slice a4A a4z.length a4c, Value.int .i64 a5])] (((!(inR a1 0 100000)) = false) ∧ ((!(inR a1 0 100000)) = false) ∧ (LoadsAt Try.prog (fun x_ => St w x_ [Res.box blk2 [Value.int .i64 a0, Value.int .i64 a1, Value.int .i64 a2, Value.int .i64 a3, Value.slice a4A a4z.length a4c, Value.int .i64 a5] 34]) 32 ⟨blk2, 0 + 2, none⟩ (Value.agg #[Value.int .i64 a2, Value.int .i64 a3, Value.slice a4A a4z.length a4c, Value.int .i64 a5]))) (by kernel_rfl) ⟨(nb (v := true) hb6), (nb (v := true) hb6), (ld_boxN (i := 0) (k := 4) rfl rfl rfl (by kernel_rfl))⟩ hS5 ?_
      refine l_opg rfl (b := (!(inR a1 0 100000))) (want := false) (by kernel_rfl) (nb (v := true) hb6) (fun K hK => op_callv (d := some 16) rfl rfl ⟨_, Try.func61, by kernel_rfl, by kernel_rfl⟩ (vs := [Value.agg #[Value.int .i64 a2, Value.int .i64 a3, Value.slice a4A a4z.length a4c, Value.int .i64 a5]]) (by kernel_rfl) (v := Value.bool (vsec a2 a3 a4z.length a5)) (IsValidSecured_i_c a2 a3 a4A a4z.length a4c a5 w5 (by omega)) hS5 (fun w7 hS7 => hK _ _ ?_))
      clear hK K
      refine q_seg (S := (fun x_ => St w x_ [Res.box blk2 [Value.int .i64 a0, Value.int .i64 a1, Value.int .i64 a2, Value.int .i64 a3, Value.slice a4A a4z.length a4c, Value.int .i64 a5] 34])) [(18, Value.bool (!(vsec a2 a3 a4z.length a5))), (17, Value.bool (!(vsec a2 a3 a4z.length a5)))] [.no, .v (.bool false)] (((!(inR a1 0 100000)) = false) ∧ ((!(inR a1 0 100000)) = false)) (by kernel_rfl) ⟨(nb (v := true) hb6), (nb (v := true) hb6)⟩ hS7 ?_
      refine l_nil rfl ?_
      refine then_n ?_
      rcases Bool.eq_false_or_eq_true (vsec a2 a3 a4z.length a5) with hb8 | hb8
      · skip
        refine c_false (b := (!(vsec a2 a3 a4z.length a5))) (by kernel_rfl) (nb (v := true) hb8) ?_
        refine wp_skip ?_
        refine then_n ?_
        refine wp_seq ?_
        refine c_drawn [] (by kernel_rfl) hS7 (fun w9 hS9 => ?_)
        refine t_seg (S := (fun x_ => St w x_ [Res.box blk2 [Value.int .i64 a0, Value.int .i64 a1, Value.int .i64 a2, Value.int .i64 a3, Value.slice a4A a4z.length a4c, Value.int .i64 a5] 34])) [(0, .no), (2, .no), (6, .no), (1, .v (Value.int .i64 a0)), (3, .v (Value.int .i64 a1)), (7, .v (Value.agg #[Value.int .i64 a2, Value.int .i64 a3, Value.slice a4A a4z.length a4c, Value.int .i64 a5]))] 5 #[true, true, true, true, false, false, true, true, false, false, false] [(27, Value.agg #[Value.int .i64 a2, Value.int .i64 a3, Value.slice a4A a4z.length a4c, Value.int .i64 a5]), (23, Value.int .i64 a1), (21, Value.int .i64 a0), (26, Value.pointer (some ⟨blk2, 0 + 2, none⟩)), (22, Value.pointer (some ⟨blk2, 0 + 1, none⟩)), (20, Value.pointer (some ⟨blk2, 0 + 0, none⟩))] ((LoadsAt Try.prog (fun x_ => St w x_ [Res.box blk2 [Value.int .i64 a0, Value.int .i64 a1, Value.int .i64 a2, Value.int .i64 a3, Value.slice a4A a4z.length a4c, Value.int .i64 a5] 34]) 3 ⟨blk2, 0 + 0, none⟩ (Value.int .i64 a0)) ∧ (LoadsAt Try.prog (fun x_ => St w x_ [Res.box blk2 [Value.int .i64 a0, Value.int .i64 a1, Value.int .i64 a2, Value.int .i64 a3, Value.slice a4A a4z.length a4c, Value.int .i64 a5] 34]) 3 ⟨blk2, 0 + 1, none⟩ (Value.int .i64 a1)) ∧ (LoadsAt Try.prog (fun x_ => St w x_ [Res.box blk2 [Value.int .i64 a0, Value.int .i64 a1, Value.int .i64 a2, Value.int .i64 a3, Value.slice a4A a4z.length a4c, Value.int .i64 a5] 34]) 32 ⟨blk2, 0 + 2, none⟩ (Value.agg #[Value.int .i64 a2, Value.int .i64 a3, Value.slice a4A a4z.length a4c, Value.int .i64 a5]))) (by kernel_rfl) (Qpanic.then Qpanic.bp) rfl (by kernel_rfl) ⟨(ld_box (i := 0) rfl rfl (by kernel_rfl)), (ld_box (i := 0) rfl rfl (by kernel_rfl)), (ld_boxN (i := 0) (k := 4) rfl rfl rfl (by kernel_rfl))⟩ hS9 ?_
        refine a_op (i := 4) (fuel := 4) (listed' := #[true, true, true, true, true, false, true, true, false, false, false]) rfl rfl (by kernel_rfl) (by kernel_rfl) rfl (fun K hK => op_buildSlice (d := some 24) rfl rfl (e := 3) (by kernel_rfl) 1 (by kernel_rfl) (by decide) (by decide) [Value.int .i64 a0, Value.int .i64 a1] (by kernel_rfl) rfl hS9 (fun blk11 w10 hS10 => hK _ _ (fun _ => hS10.drop) ?_))
        clear hK K
        refine a_op (i := 5) (fuel := 3) (listed' := #[true, true, true, true, true, true, true, true, false, false, false]) rfl rfl (by kernel_rfl) (by kernel_rfl) rfl (fun K hK => op_call (d := some 25) rfl rfl ⟨_, Try.func62, by kernel_rfl, by kernel_rfl⟩ (vs := [Value.slice (some ⟨blk11, 0, none⟩) 2 2]) (by kernel_rfl) (EncodeInts_i_c (some ⟨blk11, 0, none⟩) 2 2 ([a0, a1]) w10 (by omega) (hS10.rd (List.mem_of_getElem? (i := 0) rfl)).u1) hS10 (fun v13 new14 w12 Rw12 hS12 => hK _ _ (fun _ => hS12.after.drop) ?_))
        clear hK K
        obtain ⟨Aq15, cq16, rfl, rfl⟩ := Rw12
        have hen17 := encs_len ([a0, a1])
        simp only [List.length_cons, List.length_nil] at hen17
        refine a_op (i := 8) (fuel := 2) (listed' := #[true, true, true, true, true, true, true, true, true, false, false]) rfl rfl (by kernel_rfl) (by kernel_rfl) rfl (fun K hK => op_call (d := some 28) rfl rfl ⟨_, Try.func63, by kernel_rfl, by kernel_rfl⟩ (vs := [Value.agg #[Value.int .i64 a2, Value.int .i64 a3, Value.slice a4A a4z.length a4c, Value.int .i64 a5]]) (by kernel_rfl) (EncodeSecured_i_c a2 a3 a4A a4z.length a4c a4z a5 w12 (hS12.rdlow a4h) (by omega) a4o) hS12 (fun v20 new21 w18 Rw18 hS18 => hK _ _ (fun _ => hS18.after.drop.drop) ?_))
        clear hK K
        have hlq19n0 : (List.length (esec a2 a3 a4z a5)) ≤ 84 := esec_len _ _ _ _
        obtain ⟨Aq22, cq23, rfl, rfl⟩ := Rw18
        refine a_op (i := 9) (fuel := 1) (listed' := #[true, true, true, true, true, true, true, true, true, true, false]) rfl rfl (by kernel_rfl) (by kernel_rfl) rfl (fun K hK => op_append (d := some 29) rfl rfl elByte hS18 (i := 1) rfl rfl rfl (news := ((esec a2 a3 a4z a5).map (Value.int .u8))) (hS18.rd (List.mem_of_getElem? (i := 0) rfl)) (ints_one _ _) (by omega) (by omega) (fun v25 w24 hS24 => hK _ _ (fun _ => hS24.drop.drop.drop) ?_))
        clear hK K
        obtain ⟨hlv25, Av25, cv25, hvv25, hnv25, hmv25⟩ := hS24.row_slice (List.mem_of_getElem? (i := 1) rfl)
        subst hvv25
        refine t_seg (S := (fun x_ => St w x_ [Res.box blk2 [Value.int .i64 a0, Value.int .i64 a1, Value.int .i64 a2, Value.int .i64 a3, Value.slice a4A a4z.length a4c, Value.int .i64 a5] 34])) [(10, .no)] 0 #[true, true, true, true, true, true, true, true, true, true, true] [(2, Value.slice Av25 ((List.length (encs ([a0, a1]))) + (List.length (esec a2 a3 a4z a5))) cv25)] True (by kernel_rfl) (Qpanic.then Qpanic.bp) rfl (by kernel_rfl) trivial (hS24.drop.drop.drop) ?_
        refine a_done (by kernel_rfl) ?_
        refine then_n ?_
        refine wp_ret ?_
        have hS24s1 : St w w24 [Res.row (Value.slice Av25 ((List.length (encs ([a0, a1]))) + (List.length (esec a2 a3 a4z a5))) cv25) 5 1 ((List.length (encs ([a0, a1]))) + (List.length (esec a2 a3 a4z a5))) (((encs ([a0, a1])).map (Value.int .u8)) ++ ((esec a2 a3 a4z a5).map (Value.int .u8)))] := (hS24.sub (List.Sublist.cons _ (List.Sublist.cons_cons _ (List.Sublist.cons _ (List.Sublist.cons _ List.Sublist.slnil)))))
        have hL : (erad a0 a1 a2 a3 a4z a5) = (encs [a0, a1] ++ esec a2 a3 a4z a5) := by simp [erad, hb4, hb6, hb8]
        exact c_end (S := (fun x_ => St w x_ [Res.row (Value.slice Aq22 (List.length (esec a2 a3 a4z a5)) cq23) 5 1 (List.length (esec a2 a3 a4z a5)) ((esec a2 a3 a4z a5).map (Value.int .u8)), Res.row (Value.slice Av25 ((List.length (encs ([a0, a1]))) + (List.length (esec a2 a3 a4z a5))) cv25) 5 1 ((List.length (encs ([a0, a1]))) + (List.length (esec a2 a3 a4z a5))) (((encs ([a0, a1])).map (Value.int .u8)) ++ ((esec a2 a3 a4z a5).map (Value.int .u8))), Res.row (Value.slice (some ⟨blk11, 0, none⟩) 2 2) 3 1 2 ([Value.int .i64 a0, Value.int .i64 a1]), Res.box blk2 [Value.int .i64 a0, Value.int .i64 a1, Value.int .i64 a2, Value.int .i64 a3, Value.slice a4A a4z.length a4c, Value.int .i64 a5] 34])) (rs := [.tmp 2]) rfl [] (v := Value.slice Av25 ((List.length (encs ([a0, a1]))) + (List.length (esec a2 a3 a4z a5))) cv25) (C := True) (by kernel_rfl) trivial hS24 (by rw [hL]; exact (hS24s1.eqv (by first | rfl | (rw [hcp]; simp [hln]; done) | (simp; done) | (simp [Nat.add_assoc]; done) | (simp [hln, Nat.add_assoc]; done) | (simp [*, Nat.add_assoc]; done))).rt ⟨Av25, cv25, (by first | rfl | (rw [hcp]; simp [hln]; done) | (simp; done) | (simp [Nat.add_assoc]; done) | (simp [hln, Nat.add_assoc]; done) | (simp [*, Nat.add_assoc]; done)), rfl⟩)
      · skip
        refine c_true (b := (!(vsec a2 a3 a4z.length a5))) (by kernel_rfl) (nb (v := false) hb8) ?_
        refine wp_seq ?_
        refine c_reg ?_
        refine l_op rfl rfl (fun K hK => op_buildSlice (d := some 19) rfl rfl (e := 5) (by kernel_rfl) 1 (by kernel_rfl) (by decide) (by decide) [] (by kernel_rfl) rfl hS7 (fun blk27 w26 hS26 => hK _ _ ?_))
        clear hK K
        refine q_seg (S := (fun x_ => St w x_ [Res.row (Value.slice (some ⟨blk27, 0, none⟩) 0 0) 5 1 0 ([]), Res.box blk2 [Value.int .i64 a0, Value.int .i64 a1, Value.int .i64 a2, Value.int .i64 a3, Value.slice a4A a4z.length a4c, Value.int .i64 a5] 34])) [(2, Value.slice (some ⟨blk27, 0, none⟩) 0 0)] [.no] True (by kernel_rfl) trivial hS26 ?_
        refine l_nil rfl ?_
        refine then_n ?_
        refine wp_ret ?_
        refine then_r ?_
        have hS26s2 : St w w26 [Res.row (Value.slice (some ⟨blk27, 0, none⟩) 0 0) 5 1 0 ([])] := (hS26.sub (List.Sublist.cons_cons _ (List.Sublist.cons _ List.Sublist.slnil)))
        have hL : (erad a0 a1 a2 a3 a4z a5) = [] := by simp [erad, hb4, hb6, hb8]
        exact c_end (S := (fun x_ => St w x_ [Res.row (Value.slice (some ⟨blk27, 0, none⟩) 0 0) 5 1 0 ([]), Res.box blk2 [Value.int .i64 a0, Value.int .i64 a1, Value.int .i64 a2, Value.int .i64 a3, Value.slice a4A a4z.length a4c, Value.int .i64 a5] 34])) (rs := [.tmp 2]) rfl [] (v := Value.slice (some ⟨blk27, 0, none⟩) 0 0) (C := True) (by kernel_rfl) trivial hS26 (by rw [hL]; exact (hS26s2.eqv (by first | rfl | (rw [hcp]; simp [hln]; done) | (simp; done) | (simp [Nat.add_assoc]; done) | (simp [hln, Nat.add_assoc]; done) | (simp [*, Nat.add_assoc]; done))).rt ⟨(some ⟨blk27, 0, none⟩), 0, (by first | rfl | (rw [hcp]; simp [hln]; done) | (simp; done) | (simp [Nat.add_assoc]; done) | (simp [hln, Nat.add_assoc]; done) | (simp [*, Nat.add_assoc]; done)), rfl⟩)
    · skip
      have hb6p := inR_neg hb6
      refine q_seg (S := (fun x_ => St w x_ [Res.box blk2 [Value.int .i64 a0, Value.int .i64 a1, Value.int .i64 a2, Value.int .i64 a3, Value.slice a4A a4z.length a4c, Value.int .i64 a5] 34])) [(18, Value.bool true), (17, undef), (16, undef), (15, undef), (14, undef)] [.skip, .skip, .skip, .skip, .v (.bool true)] (((!(inR a1 0 100000)) = !false) ∧ ((!(inR a1 0 100000)) = !false) ∧ ((!(inR a1 0 100000)) = !false) ∧ ((!(inR a1 0 100000)) = !false) ∧ ((!(inR a1 0 100000)) = true)) (by kernel_rfl) ⟨(nb (v := false) hb6), (nb (v := false) hb6), (nb (v := false) hb6), (nb (v := false) hb6), (nb (v := false) hb6)⟩ hS5 ?_
      refine l_nil rfl ?_
      refine then_n ?_
      refine c_true (b := true) (by kernel_rfl) rfl ?_
      refine wp_seq ?_
      refine c_reg ?_
      refine l_op rfl rfl (fun K hK => op_buildSlice (d := some 19) rfl rfl (e := 5) (by kernel_rfl) 1 (by kernel_rfl) (by decide) (by decide) [] (by kernel_rfl) rfl hS5 (fun blk29 w28 hS28 => hK _ _ ?_))
      clear hK K
      refine q_seg (S := (fun x_ => St w x_ [Res.row (Value.slice (some ⟨blk29, 0, none⟩) 0 0) 5 1 0 ([]), Res.box blk2 [Value.int .i64 a0, Value.int .i64 a1, Value.int .i64 a2, Value.int .i64 a3, Value.slice a4A a4z.length a4c, Value.int .i64 a5] 34])) [(2, Value.slice (some ⟨blk29, 0, none⟩) 0 0)] [.no] True (by kernel_rfl) trivial hS28 ?_
      refine l_nil rfl ?_
      refine then_n ?_
      refine wp_ret ?_
      refine then_r ?_
      have hS28s3 : St w w28 [Res.row (Value.slice (some ⟨blk29, 0, none⟩) 0 0) 5 1 0 ([])] := (hS28.sub (List.Sublist.cons_cons _ (List.Sublist.cons _ List.Sublist.slnil)))
      have hL : (erad a0 a1 a2 a3 a4z a5) = [] := by simp [erad, hb4, hb6]
      exact c_end (S := (fun x_ => St w x_ [Res.row (Value.slice (some ⟨blk29, 0, none⟩) 0 0) 5 1 0 ([]), Res.box blk2 [Value.int .i64 a0, Value.int .i64 a1, Value.int .i64 a2, Value.int .i64 a3, Value.slice a4A a4z.length a4c, Value.int .i64 a5] 34])) (rs := [.tmp 2]) rfl [] (v := Value.slice (some ⟨blk29, 0, none⟩) 0 0) (C := True) (by kernel_rfl) trivial hS28 (by rw [hL]; exact (hS28s3.eqv (by first | rfl | (rw [hcp]; simp [hln]; done) | (simp; done) | (simp [Nat.add_assoc]; done) | (simp [hln, Nat.add_assoc]; done) | (simp [*, Nat.add_assoc]; done))).rt ⟨(some ⟨blk29, 0, none⟩), 0, (by first | rfl | (rw [hcp]; simp [hln]; done) | (simp; done) | (simp [Nat.add_assoc]; done) | (simp [hln, Nat.add_assoc]; done) | (simp [*, Nat.add_assoc]; done)), rfl⟩)
  · skip
    have hb4p := inR_neg hb4
    refine q_seg (S := (fun x_ => St w x_ [Res.box blk2 [Value.int .i64 a0, Value.int .i64 a1, Value.int .i64 a2, Value.int .i64 a3, Value.slice a4A a4z.length a4c, Value.int .i64 a5] 34])) [(18, Value.bool true), (17, undef), (16, undef), (15, undef), (14, undef), (13, Value.bool true), (12, Value.bool true), (11, undef), (10, undef), (9, undef), (8, undef)] [.skip, .skip, .skip, .skip, .v (.bool true), .no, .skip, .skip, .skip, .skip, .v (.bool true)] (((!(inR a0 0 100000)) = !false) ∧ ((!(inR a0 0 100000)) = !false) ∧ ((!(inR a0 0 100000)) = !false) ∧ ((!(inR a0 0 100000)) = !false) ∧ ((!(inR a0 0 100000)) = true) ∧ (true = !false) ∧ (true = !false) ∧ (true = !false) ∧ (true = !false) ∧ (true = true)) (by kernel_rfl) ⟨(nb (v := false) hb4), (nb (v := false) hb4), (nb (v := false) hb4), (nb (v := false) hb4), (nb (v := false) hb4), rfl, rfl, rfl, rfl, rfl⟩ hS3 ?_
    refine l_nil rfl ?_
    refine then_n ?_
    refine c_true (b := true) (by kernel_rfl) rfl ?_
    refine wp_seq ?_
    refine c_reg ?_
    refine l_op rfl rfl (fun K hK => op_buildSlice (d := some 19) rfl rfl (e := 5) (by kernel_rfl) 1 (by kernel_rfl) (by decide) (by decide) [] (by kernel_rfl) rfl hS3 (fun blk31 w30 hS30 => hK _ _ ?_))
    clear hK K
    refine q_seg (S := (fun x_ => St w x_ [Res.row (Value.slice (some ⟨blk31, 0, none⟩) 0 0) 5 1 0 ([]), Res.box blk2 [Value.int .i64 a0, Value.int .i64 a1, Value.int .i64 a2, Value.int .i64 a3, Value.slice a4A a4z.length a4c, Value.int .i64 a5] 34])) [(2, Value.slice (some ⟨blk31, 0, none⟩) 0 0)] [.no] True (by kernel_rfl) trivial hS30 ?_
    refine l_nil rfl ?_
    refine then_n ?_
    refine wp_ret ?_
    refine then_r ?_
    have hS30s4 : St w w30 [Res.row (Value.slice (some ⟨blk31, 0, none⟩) 0 0) 5 1 0 ([])] := (hS30.sub (List.Sublist.cons_cons _ (List.Sublist.cons _ List.Sublist.slnil)))
    have hL : (erad a0 a1 a2 a3 a4z a5) = [] := by simp [erad, hb4]
    exact c_end (S := (fun x_ => St w x_ [Res.row (Value.slice (some ⟨blk31, 0, none⟩) 0 0) 5 1 0 ([]), Res.box blk2 [Value.int .i64 a0, Value.int .i64 a1, Value.int .i64 a2, Value.int .i64 a3, Value.slice a4A a4z.length a4c, Value.int .i64 a5] 34])) (rs := [.tmp 2]) rfl [] (v := Value.slice (some ⟨blk31, 0, none⟩) 0 0) (C := True) (by kernel_rfl) trivial hS30 (by rw [hL]; exact (hS30s4.eqv (by first | rfl | (rw [hcp]; simp [hln]; done) | (simp; done) | (simp [Nat.add_assoc]; done) | (simp [hln, Nat.add_assoc]; done) | (simp [*, Nat.add_assoc]; done))).rt ⟨(some ⟨blk31, 0, none⟩), 0, (by first | rfl | (rw [hcp]; simp [hln]; done) | (simp; done) | (simp [Nat.add_assoc]; done) | (simp [hln, Nat.add_assoc]; done) | (simp [*, Nat.add_assoc]; done)), rfl⟩)
theorem EncodeRadio_s_c (a0 : Int) (a1 : Int) (a2 : Int) (a3 : Int) (a4A : Option Addr) (a4n a4c : Nat) (a4z : List Int) (a5 : Int) (w : World) (a4h : Rd w w.heap.size a4A a4n (a4z.map (Value.int .u8))) (a4w : a4n ≤ 99999999) (a4o : okz .u8 a4z) : Calls Try.prog 34 #[Value.agg #[Value.int .i64 a0, Value.int .i64 a1, Value.int .i64 a2, Value.int .i64 a3, Value.slice a4A a4n a4c, Value.int .i64 a5]] w (Ret w (fun v new => ∃ (A0_ : Option Addr) (c0_ : Nat), v = Value.slice A0_ (List.length (erad a0 a1 a2 a3 a4z a5)) c0_ ∧ new = [Res.row (Value.slice A0_ (List.length (erad a0 a1 a2 a3 a4z a5)) c0_) 5 1 (List.length (erad a0 a1 a2 a3 a4z a5)) ((erad a0 a1 a2 a3 a4z a5).map (Value.int .u8))])) := by
  obtain rfl : a4n = a4z.length := a4h.len.symm
  refine calls_FA Try.func34 rfl (n := 30) rfl (l := [(0, Value.agg #[Value.int .i64 a0, Value.int .i64 a1, Value.int .i64 a2, Value.int .i64 a3, Value.slice a4A a4z.length a4c, Value.int .i64 a5])]) rfl (by simp) (fun g => ?_)
  have hS := St.init w
  refine wp_seq ?_
  refine c_reg ?_
  refine l_op rfl rfl (fun K hK => op_box (d := some 1) rfl rfl [Value.int .i64 a0, Value.int .i64 a1, Value.int .i64 a2, Value.int .i64 a3, Value.slice a4A a4z.length a4c, Value.int .i64 a5] (by kernel_rfl) hS (fun blk2 w1 hS1 => hK _ _ ?_))
  clear hK K
  refine q_seg (S := (fun x_ => St w x_ [Res.box blk2 [Value.int .i64 a0, Value.int .i64 a1, Value.int .i64 a2, Value.int .i64 a3, Value.slice a4A a4z.length a4c, Value.int .i64 a5] 34])) [(2, Value.slice none 0 0)] [.no] True (by kernel_rfl) trivial hS1 ?_
  refine l_nil rfl ?_
  refine then_n ?_
  refine wp_seq ?_
  refine wp_seq ?_
  refine c_reg ?_
  refine q_seg (S := (fun x_ => St w x_ [Res.box blk2 [Value.int .i64 a0, Value.int .i64 a1, Value.int .i64 a2, Value.int .i64 a3, Value.slice a4A a4z.length a4c, Value.int .i64 a5] 34])) [(4, Value.int .i64 a0), (3, Value.pointer (some ⟨blk2, 0 + 0, none⟩))] [.no, .v (Value.int .i64 a0)] ((LoadsAt Try.prog (fun x_ => St w x_ [Res.box blk2 [Value.int .i64 a0, Value.int .i64 a1, Value.int .i64 a2, Value.int .i64 a3, Value.slice a4A a4z.length a4c, Value.int .i64 a5] 34]) 3 ⟨blk2, 0 + 0, none⟩ (Value.int .i64 a0))) (by kernel_rfl) (ld_box (i := 0) rfl rfl (by kernel_rfl)) hS1 ?_
  refine l_op rfl rfl (fun K hK => op_callv (d := some 5) rfl rfl ⟨_, Try.func66, by kernel_rfl, by kernel_rfl⟩ (vs := [Value.int .i64 a0, Value.int .i64 0, Value.int .i64 100000]) (by kernel_rfl) (v := Value.bool (inR a0 0 100000)) (l1In_c a0 0 100000 _) hS1 (fun w3 hS3 => hK _ _ ?_))
  clear hK K
  refine q_seg (S := (fun x_ => St w x_ [Res.box blk2 [Value.int .i64 a0, Value.int .i64 a1, Value.int .i64 a2, Value.int .i64 a3, Value.slice a4A a4z.length a4c, Value.int .i64 a5] 34])) [(7, Value.bool (!(inR a0 0 100000))), (6, Value.bool (!(inR a0 0 100000)))] [.no, .no] True (by kernel_rfl) trivial hS3 ?_
  rcases Bool.eq_false_or_eq_true (inR a0 0 100000) with hb4 | hb4
  · skip
    obtain ⟨hb4p, hb4q⟩ := inR_iff.1 hb4
    refine q_seg (S := (fun x_ => St w x_ [Res.box blk2 [Value.int .i64 a0, Value.int .i64 a1, Value.int .i64 a2, Value.int .i64 a3, Value.slice a4A a4z.length a4c, Value.int .i64 a5] 34])) [(9, Value.int .i64 a1), (8, Value.pointer (some ⟨blk2, 0 + 1, none⟩))] [.no, .v (Value.int .i64 a1)] (((!(inR a0 0 100000)) = false) ∧ ((!(inR a0 0 100000)) = false) ∧ (LoadsAt Try.prog (fun x_ => St w x_ [Res.box blk2 [Value.int .i64 a0, Value.int .i64 a1, Value.int .i64 a2, Value.int .i64 a3, Value.slice a4A a4z.length a4c, Value.int .i64 a5] 34]) 3 ⟨blk2, 0 + 1, none⟩ (Value.int .i64 a1))) (by kernel_rfl) ⟨(nb (v := true) hb4), (nb (v := true) hb4), (ld_box (i := 0) rfl rfl (by kernel_rfl))⟩ hS3 ?_
    refine l_opg rfl (b := (!(inR a0 0 100000))) (want := false) (by kernel_rfl) (nb (v := true) hb4) (fun K hK => op_callv (d := some 10) rfl rfl ⟨_, Try.func66, by kernel_rfl, by kernel_rfl⟩ (vs := [Value.int .i64 a1, Value.int .i64 0, Value.int .i64 100000]) (by kernel_rfl) (v := Value.bool (inR a1 0 100000)) (l1In_c a1 0 100000 _) hS3 (fun w5 hS5 => hK _ _ ?_))
    clear hK K
    refine q_seg (S := (fun x_ => St w x_ [Res.box blk2 [Value.int .i64 a0, Value.int .i64 a1, Value.int .i64 a2, Value.int .i64 a3, Value.slice a4A a4z.length a4c, Value.int .i64 a5] 34])) [(13, Value.bool (!(inR a1 0 100000))), (12, Value.bool (!(inR a1 0 100000))), (11, Value.bool (!(inR a1 0 100000)))] [.no, .v (.bool false), .no] (((!(inR a0 0 100000)) = false) ∧ ((!(inR a0 0 100000)) = false)) (by kernel_rfl) ⟨(nb (v := true) hb4), (nb (v := true) hb4)⟩ hS5 ?_
    rcases Bool.eq_false_or_eq_true (inR a1 0 100000) with hb6 | hb6
    · skip
      obtain ⟨hb6p, hb6q⟩ := inR_iff.1 hb6
      refine q_seg (S := (fun x_ => St w x_ [Res.box blk2 [Value.int .i64 a0, Value.int .i64 a1, Value.int .i64 a2, Value.int .i64 a3, Value.slice a4A a4z.length a4c, Value.int .i64 a5] 34])) [(15, Value.agg #[Value.int .i64 a2, Value.int .i64 a3, Value.slice a4A a4z.length a4c, Value.int .i64 a5]), (14, Value.pointer (some ⟨blk2, 0 + 2, none⟩))] [.no, .v (Value.agg #[Value.int .i64 a2, Value.int .i64 a3, Value.slice a4A a4z.length a4c, Value.int .i64 a5])] (((!(inR a1 0 100000)) = false) ∧ ((!(inR a1 0 100000)) = false) ∧ (LoadsAt Try.prog (fun x_ => St w x_ [Res.box blk2 [Value.int .i64 a0, Value.int .i64 a1, Value.int .i64 a2, Value.int .i64 a3, Value.slice a4A a4z.length a4c, Value.int .i64 a5] 34]) 32 ⟨blk2, 0 + 2, none⟩ (Value.agg #[Value.int .i64 a2, Value.int .i64 a3, Value.slice a4A a4z.length a4c, Value.int .i64 a5]))) (by kernel_rfl) ⟨(nb (v := true) hb6), (nb (v := true) hb6), (ld_boxN (i := 0) (k := 4) rfl rfl rfl (by kernel_rfl))⟩ hS5 ?_
      refine l_opg rfl (b := (!(inR a1 0 100000))) (want := false) (by kernel_rfl) (nb (v := true) hb6) (fun K hK => op_callv (d := some 16) rfl rfl ⟨_, Try.func28, by kernel_rfl, by kernel_rfl⟩ (vs := [Value.agg #[Value.int .i64 a2, Value.int .i64 a3, Value.slice a4A a4z.length a4c, Value.int .i64 a5]]) (by kernel_rfl) (v := Value.bool (vsec a2 a3 a4z.length a5)) (IsValidSecured_s_c a2 a3 a4A a4z.length a4c a5 w5 (by omega)) hS5 (fun w7 hS7 => hK _ _ ?_))
      clear hK K
      refine q_seg (S := (fun x_ => St w x_ [Res.box blk2 [Value.int .i64 a0, Value.int .i64 a1, Value.int .i64 a2, Value.int .i64 a3, Value.slice a4A a4z.length a4c, Value.int .i64 a5] 34])) [(18, Value.bool (!(vsec a2 a3 a4z.length a5))), (17, Value.bool (!(vsec a2 a3 a4z.length a5)))] [.no, .v (.bool false)] (((!(inR a1 0 100000)) = false) ∧ ((!(inR a1 0 100000)) = false)) (by kernel_rfl) ⟨(nb (v := true) hb6), (nb (v := true) hb6)⟩ hS7 ?_
      refine l_nil rfl ?_
      refine then_n ?_
      rcases Bool.eq_false_or_eq_true (vsec a2 a3 a4z.length a5) with hb8 | hb8
      · skip
        refine c_false (b := (!(vsec a2 a3 a4z.length a5))) (by kernel_rfl) (nb (v := true) hb8) ?_
        refine wp_skip ?_
        refine then_n ?_
        refine wp_seq ?_
        refine c_drawn [] (by kernel_rfl) hS7 (fun w9 hS9 => ?_)
        refine t_seg (S := (fun x_ => St w x_ [Res.box blk2 [Value.int .i64 a0, Value.int .i64 a1, Value.int .i64 a2, Value.int .i64 a3, Value.slice a4A a4z.length a4c, Value.int .i64 a5] 34])) [(0, .no), (2, .no), (6, .no), (1, .v (Value.int .i64 a0)), (3, .v (Value.int .i64 a1)), (7, .v (Value.agg #[Value.int .i64 a2, Value.int .i64 a3, Value.slice a4A a4z.length a4c, Value.int .i64 a5]))] 5 #[true, true, true, true, false, false, true, true, false, false, false] [(27, Value.agg #[Value.int .i64 a2, Value.int .i64 a3, Value.slice a4A a4z.length a4c, Value.int .i64 a5]), (23, Value.int .i64 a1), (21, Value.int .i64 a0), (26, Value.pointer (some ⟨blk2, 0 + 2, none⟩)), (22, Value.pointer (some ⟨blk2, 0 + 1, none⟩)), (20, Value.pointer (some ⟨blk2, 0 + 0, none⟩))] ((LoadsAt Try.prog (fun x_ => St w x_ [Res.box blk2 [Value.int .i64 a0, Value.int .i64 a1, Value.int .i64 a2, Value.int .i64 a3, Value.slice a4A a4z.length a4c, Value.int .i64 a5] 34]) 3 ⟨blk2, 0 + 0, none⟩ (Value.int .i64 a0)) ∧ (LoadsAt Try.prog (fun x_ => St w x_ [Res.box blk2 [Value.int .i64 a0, Value.int .i64 a1, Value.int .i64 a2, Value.int .i64 a3, Value.slice a4A a4z.length a4c, Value.int .i64 a5] 34]) 3 ⟨blk2, 0 + 1, none⟩ (Value.int .i64 a1)) ∧ (LoadsAt Try.prog (fun x_ => St w x_ [Res.box blk2 [Value.int .i64 a0, Value.int .i64 a1, Value.int .i64 a2, Value.int .i64 a3, Value.slice a4A a4z.length a4c, Value.int .i64 a5] 34]) 32 ⟨blk2, 0 + 2, none⟩ (Value.agg #[Value.int .i64 a2, Value.int .i64 a3, Value.slice a4A a4z.length a4c, Value.int .i64 a5]))) (by kernel_rfl) (Qpanic.then Qpanic.bp) rfl (by kernel_rfl) ⟨(ld_box (i := 0) rfl rfl (by kernel_rfl)), (ld_box (i := 0) rfl rfl (by kernel_rfl)), (ld_boxN (i := 0) (k := 4) rfl rfl rfl (by kernel_rfl))⟩ hS9 ?_
        refine a_op (i := 4) (fuel := 4) (listed' := #[true, true, true, true, true, false, true, true, false, false, false]) rfl rfl (by kernel_rfl) (by kernel_rfl) rfl (fun K hK => op_buildSlice (d := some 24) rfl rfl (e := 3) (by kernel_rfl) 1 (by kernel_rfl) (by decide) (by decide) [Value.int .i64 a0, Value.int .i64 a1] (by kernel_rfl) rfl hS9 (fun blk11 w10 hS10 => hK _ _ (fun _ => hS10.drop) ?_))
        clear hK K
        refine a_op (i := 5) (fuel := 3) (listed' := #[true, true, true, true, true, true, true, true, false, false, false]) rfl rfl (by kernel_rfl) (by kernel_rfl) rfl (fun K hK => op_call (d := some 25) rfl rfl ⟨_, Try.func73, by kernel_rfl, by kernel_rfl⟩ (vs := [Value.slice (some ⟨blk11, 0, none⟩) 2 2]) (by kernel_rfl) (EncodeInts_s_c (some ⟨blk11, 0, none⟩) 2 2 ([a0, a1]) w10 (by omega) (hS10.rd (List.mem_of_getElem? (i := 0) rfl)).u1) hS10 (fun v13 new14 w12 Rw12 hS12 => hK _ _ (fun _ => hS12.after.drop) ?_))
        clear hK K
        obtain ⟨Aq15, cq16, rfl, rfl⟩ := Rw12
        have hen17 := encs_len ([a0, a1])
        simp only [List.length_cons, List.length_nil] at hen17
        refine a_op (i := 8) (fuel := 2) (listed' := #[true, true, true, true, true, true, true, true, true, false, false]) rfl rfl (by kernel_rfl) (by kernel_rfl) rfl (fun K hK => op_call (d := some 28) rfl rfl ⟨_, Try.func74, by kernel_rfl, by kernel_rfl⟩ (vs := [Value.agg #[Value.int .i64 a2, Value.int .i64 a3, Value.slice a4A a4z.length a4c, Value.int .i64 a5]]) (by kernel_rfl) (EncodeSecured_s_c a2 a3 a4A a4z.length a4c a4z a5 w12 (hS12.rdlow a4h) (by omega) a4o) hS12 (fun v20 new21 w18 Rw18 hS18 => hK _ _ (fun _ => hS18.after.drop.drop) ?_))
        clear hK K
        have hlq19n0 : (List.length (esec a2 a3 a4z a5)) ≤ 84 := esec_len _ _ _ _
        obtain ⟨Aq22, cq23, rfl, rfl⟩ := Rw18
        refine a_op (i := 9) (fuel := 1) (listed' := #[true, true, true, true, true, true, true, true, true, true, false]) rfl rfl (by kernel_rfl) (by kernel_rfl) rfl (fun K hK => op_append (d := some 29) rfl rfl elByte hS18 (i := 1) rfl rfl rfl (news := ((esec a2 a3 a4z a5).map (Value.int .u8))) (hS18.rd (List.mem_of_getElem? (i := 0) rfl)) (ints_one _ _) (by omega) (by omega) (fun v25 w24 hS24 => hK _ _ (fun _ => hS24.drop.drop.drop) ?_))
        clear hK K
        obtain ⟨hlv25, Av25, cv25, hvv25, hnv25, hmv25⟩ := hS24.row_slice (List.mem_of_getElem? (i := 1) rfl)
        subst hvv25
        refine t_seg (S := (fun x_ => St w x_ [Res.box blk2 [Value.int .i64 a0, Value.int .i64 a1, Value.int .i64 a2, Value.int .i64 a3, Value.slice a4A a4z.length a4c, Value.int .i64 a5] 34])) [(10, .no)] 0 #[true, true, true, true, true, true, true, true, true, true, true] [(2, Value.slice Av25 ((List.length (encs ([a0, a1]))) + (List.length (esec a2 a3 a4z a5))) cv25)] True (by kernel_rfl) (Qpanic.then Qpanic.bp) rfl (by kernel_rfl) trivial (hS24.drop.drop.drop) ?_
        refine a_done (by kernel_rfl) ?_
        refine then_n ?_
        refine wp_ret ?_
        have hS24s1 : St w w24 [Res.row (Value.slice Av25 ((List.length (encs ([a0, a1]))) + (List.length (esec a2 a3 a4z a5))) cv25) 5 1 ((List.length (encs ([a0, a1]))) + (List.length (esec a2 a3 a4z a5))) (((encs ([a0, a1])).map (Value.int .u8)) ++ ((esec a2 a3 a4z a5).map (Value.int .u8)))] := (hS24.sub (List.Sublist.cons _ (List.Sublist.cons_cons _ (List.Sublist.cons _ (List.Sublist.cons _ List.Sublist.slnil)))))
        have hL : (erad a0 a1 a2 a3 a4z a5) = (encs [a0, a1] ++ esec a2 a3 a4z a5) := by simp [erad, hb4, hb6, hb8]
        exact c_end (S := (fun x_ => St w x_ [Res.row (Value.slice Aq22 (List.length (esec a2 a3 a4z a5)) cq23) 5 1 (List.length (esec a2 a3 a4z a5)) ((esec a2 a3 a4z a5).map (Value.int .u8)), Res.row (Value.slice Av25 ((List.length (encs ([a0, a1]))) + (List.length (esec a2 a3 a4z a5))) cv25) 5 1 ((List.length (encs ([a0, a1]))) + (List.length (esec a2 a3 a4z a5))) (((encs ([a0, a1])).map (Value.int .u8)) ++ ((esec a2 a3 a4z a5).map (Value.int .u8))), Res.row (Value.slice (some ⟨blk11, 0, none⟩) 2 2) 3 1 2 ([Value.int .i64 a0, Value.int .i64 a1]), Res.box blk2 [Value.int .i64 a0, Value.int .i64 a1, Value.int .i64 a2, Value.int .i64 a3, Value.slice a4A a4z.length a4c, Value.int .i64 a5] 34])) (rs := [.tmp 2]) rfl [] (v := Value.slice Av25 ((List.length (encs ([a0, a1]))) + (List.length (esec a2 a3 a4z a5))) cv25) (C := True) (by kernel_rfl) trivial hS24 (by rw [hL]; exact (hS24s1.eqv (by first | rfl | (rw [hcp]; simp [hln]; done) | (simp; done) | (simp [Nat.add_assoc]; done) | (simp [hln, Nat.add_assoc]; done) | (simp [*, Nat.add_assoc]; done))).rt ⟨Av25, cv25, (by first | rfl | (rw [hcp]; simp [hln]; done) | (simp; done) | (simp [Nat.add_assoc]; done) | (simp [hln, Nat.add_assoc]; done) | (simp [*, Nat.add_assoc]; done)), rfl⟩)
      · skip
        refine c_true (b := (!(vsec a2 a3 a4z.length a5))) (by kernel_rfl) (nb (v := false) hb8) ?_
        refine wp_seq ?_
        refine c_reg ?_
        refine l_op rfl rfl (fun K hK => op_buildSlice (d := some 19) rfl rfl (e := 5) (by kernel_rfl) 1 (by kernel_rfl) (by decide) (by decide) [] (by kernel_rfl) rfl hS7 (fun blk27 w26 hS26 => hK _ _ ?_))
        clear hK K
        refine q_seg (S := (fun x_ => St w x_ [Res.row (Value.slice (some ⟨blk27, 0, none⟩) 0 0) 5 1 0 ([]), Res.box blk2 [Value.int .i64 a0, Value.int .i64 a1, Value.int .i64 a2, Value.int .i64 a3, Value.slice a4A a4z.length a4c, Value.int .i64 a5] 34])) [(2, Value.slice (some ⟨blk27, 0, none⟩) 0 0)] [.no] True (by kernel_rfl) trivial hS26 ?_
        refine l_nil rfl ?_
        refine then_n ?_
        refine wp_ret ?_
        refine then_r ?_
        have hS26s2 : St w w26 [Res.row (Value.slice (some ⟨blk27, 0, none⟩) 0 0) 5 1 0 ([])] := (hS26.sub (List.Sublist.cons_cons _ (List.Sublist.cons _ List.Sublist.slnil)))
        have hL : (erad a0 a1 a2 a3 a4z a5) = [] := by simp [erad, hb4, hb6, hb8]
        exact c_end (S := (fun x_ => St w x_ [Res.row (Value.slice (some ⟨blk27, 0, none⟩) 0 0) 5 1 0 ([]), Res.box blk2 [Value.int .i64 a0, Value.int .i64 a1, Value.int .i64 a2, Value.int .i64 a3, Value.slice a4A a4z.length a4c, Value.int .i64 a5] 34])) (rs := [.tmp 2]) rfl [] (v := Value.slice (some ⟨blk27, 0, none⟩) 0 0) (C := True) (by kernel_rfl) trivial hS26 (by rw [hL]; exact (hS26s2.eqv (by first | rfl | (rw [hcp]; simp [hln]; done) | (simp; done) | (simp [Nat.add_assoc]; done) | (simp [hln, Nat.add_assoc]; done) | (simp [*, Nat.add_assoc]; done))).rt ⟨(some ⟨blk27, 0, none⟩), 0, (by first | rfl | (rw [hcp]; simp [hln]; done) | (simp; done) | (simp [Nat.add_assoc]; done) | (simp [hln, Nat.add_assoc]; done) | (simp [*, Nat.add_assoc]; done)), rfl⟩)
    · skip
      have hb6p := inR_neg hb6
      refine q_seg (S := (fun x_ => St w x_ [Res.box blk2 [Value.int .i64 a0, Value.int .i64 a1, Value.int .i64 a2, Value.int .i64 a3, Value.slice a4A a4z.length a4c, Value.int .i64 a5] 34])) [(18, Value.bool true), (17, undef), (16, undef), (15, undef), (14, undef)] [.skip, .skip, .skip, .skip, .v (.bool true)] (((!(inR a1 0 100000)) = !false) ∧ ((!(inR a1 0 100000)) = !false) ∧ ((!(inR a1 0 100000)) = !false) ∧ ((!(inR a1 0 100000)) = !false) ∧ ((!(inR a1 0 100000)) = true)) (by kernel_rfl) ⟨(nb (v := false) hb6), (nb (v := false) hb6), (nb (v := false) hb6), (nb (v := false) hb6), (nb (v := false) hb6)⟩ hS5 ?_
      refine l_nil rfl ?_
      refine then_n ?_
      refine c_true (b := true) (by kernel_rfl) rfl ?_
      refine wp_seq ?_
      refine c_reg ?_
      refine l_op rfl rfl (fun K hK => op_buildSlice (d := some 19) rfl rfl (e := 5) (by kernel_rfl) 1 (by kernel_rfl) (by decide) (by decide) [] (by kernel_rfl) rfl hS5 (fun blk29 w28 hS28 => hK _ _ ?_))
      clear hK K
      refine q_seg (S := (fun x_ => St w x_ [Res.row (Value.slice (some ⟨blk29, 0, none⟩) 0 0) 5 1 0 ([]), Res.box blk2 [Value.int .i64 a0, Value.int .i64 a1, Value.int .i64 a2, Value.int .i64 a3, Value.slice a4A a4z.length a4c, Value.int .i64 a5] 34])) [(2, Value.slice (some ⟨blk29, 0, none⟩) 0 0)] [.no] True (by kernel_rfl) trivial hS28 ?_
      refine l_nil rfl ?_
      refine then_n ?_
      refine wp_ret ?_
      refine then_r ?_
      have hS28s3 : St w w28 [Res.row (Value.slice (some ⟨blk29, 0, none⟩) 0 0) 5 1 0 ([])] := (hS28.sub (List.Sublist.cons_cons _ (List.Sublist.cons _ List.Sublist.slnil)))
      have hL : (erad a0 a1 a2 a3 a4z a5) = [] := by simp [erad, hb4, hb6]
      exact c_end (S := (fun x_ => St w x_ [Res.row (Value.slice (some ⟨blk29, 0, none⟩) 0 0) 5 1 0 ([]), Res.box blk2 [Value.int .i64 a0, Value.int .i64 a1, Value.int .i64 a2, Value.int .i64 a3, Value.slice a4A a4z.length a4c, Value.int .i64 a5] 34])) (rs := [.tmp 2]) rfl [] (v := Value.slice (some ⟨blk29, 0, none⟩) 0 0) (C := True) (by kernel_rfl) trivial hS28 (by rw [hL]; exact (hS28s3.eqv (by first | rfl | (rw [hcp]; simp [hln]; done) | (simp; done) | (simp [Nat.add_assoc]; done) | (simp [hln, Nat.add_assoc]; done) | (simp [*, Nat.add_assoc]; done))).rt ⟨(some ⟨blk29, 0, none⟩), 0, (by first | rfl | (rw [hcp]; simp [hln]; done) | (simp; done) | (simp [Nat.add_assoc]; done) | (simp [hln, Nat.add_assoc]; done) | (simp [*, Nat.add_assoc]; done)), rfl⟩)
  · skip
    have hb4p := inR_neg hb4
    refine q_seg (S := (fun x_ => St w x_ [Res.box blk2 [Value.int .i64 a0, Value.int .i64 a1, Value.int .i64 a2, Value.int .i64 a3, Value.slice a4A a4z.length a4c, Value.int .i64 a5] 34])) [(18, Value.bool true), (17, undef), (16, undef), (15, undef), (14, undef), (13, Value.bool true), (12, Value.bool true), (11, undef), (10, undef), (9, undef), (8, undef)] [.skip, .skip, .skip, .skip, .v (.bool true), .no, .skip, .skip, .skip, .skip, .v (.bool true)] (((!(inR a0 0 100000)) = !false) ∧ ((!(inR a0 0 100000)) = !false) ∧ ((!(inR a0 0 100000)) = !false) ∧ ((!(inR a0 0 100000)) = !false) ∧ ((!(inR a0 0 100000)) = true) ∧ (true = !false) ∧ (true = !false) ∧ (true = !false) ∧ (true = !false) ∧ (true = true)) (by kernel_rfl) ⟨(nb (v := false) hb4), (nb (v := false) hb4), (nb (v := false) hb4), (nb (v := false) hb4), (nb (v := false) hb4), rfl, rfl, rfl, rfl, rfl⟩ hS3 ?_
    refine l_nil rfl ?_
    refine then_n ?_
    refine c_true (b := true) (by kernel_rfl) rfl ?_
    refine wp_seq ?_
    refine c_reg ?_
    refine l_op rfl rfl (fun K hK => op_buildSlice (d := some 19) rfl rfl (e := 5) (by kernel_rfl) 1 (by kernel_rfl) (by decide) (by decide) [] (by kernel_rfl) rfl hS3 (fun blk31 w30 hS30 => hK _ _ ?_))
    clear hK K
    refine q_seg (S := (fun x_ => St w x_ [Res.row (Value.slice (some ⟨blk31, 0, none⟩) 0 0) 5 1 0 ([]), Res.box blk2 [Value.int .i64 a0, Value.int .i64 a1, Value.int .i64 a2, Value.int .i64 a3, Value.slice a4A a4z.length a4c, Value.int .i64 a5] 34])) [(2, Value.slice (some ⟨blk31, 0, none⟩) 0 0)] [.no] True (by kernel_rfl) trivial hS30 ?_
    refine l_nil rfl ?_
    refine then_n ?_
    refine wp_ret ?_
    refine then_r ?_
    have hS30s4 : St w w30 [Res.row (Value.slice (some ⟨blk31, 0, none⟩) 0 0) 5 1 0 ([])] := (hS30.sub (List.Sublist.cons_cons _ (List.Sublist.cons _ List.Sublist.slnil)))
    have hL : (erad a0 a1 a2 a3 a4z a5) = [] := by simp [erad, hb4]
    exact c_end (S := (fun x_ => St w x_ [Res.row (Value.slice (some ⟨blk31, 0, none⟩) 0 0) 5 1 0 ([]), Res.box blk2 [Value.int .i64 a0, Value.int .i64 a1, Value.int .i64 a2, Value.int .i64 a3, Value.slice a4A a4z.length a4c, Value.int .i64 a5] 34])) (rs := [.tmp 2]) rfl [] (v := Value.slice (some ⟨blk31, 0, none⟩) 0 0) (C := True) (by kernel_rfl) trivial hS30 (by rw [hL]; exact (hS30s4.eqv (by first | rfl | (rw [hcp]; simp [hln]; done) | (simp; done) | (simp [Nat.add_assoc]; done) | (simp [hln, Nat.add_assoc]; done) | (simp [*, Nat.add_assoc]; done))).rt ⟨(some ⟨blk31, 0, none⟩), 0, (by first | rfl | (rw [hcp]; simp [hln]; done) | (simp; done) | (simp [Nat.add_assoc]; done) | (simp [hln, Nat.add_assoc]; done) | (simp [*, Nat.add_assoc]; done)), rfl⟩)
end Go.Proofs.Ytfkeiegajaofdaa
