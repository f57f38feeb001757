/-
  Contracts of the cipher, of the codes, and of packets that are sealed and opened.
-/
import Derived.Test.YtfkeiegajaofdaaGDe
import Derived.Test.YtfkeiegajaofdaaSeal
namespace Go.Proofs.Ytfkeiegajaofdaa
open Go.RowKit
set_option maxRecDepth 100000

theorem KeyForPathS_c (key : Int) (A : Option Addr) (n c : Nat) (zs : List Int) (w : World) (hk : I64 key) (hz : ∀ z ∈ zs, I64 z) (hn : n ≤ 1000000000000) (hr : Rd w w.heap.size A n (zs.map (Value.int .i64))) : Calls Try.prog 81 #[.int .i64 key, .agg #[.slice A n c]] w (RetV w (.int .i64 (dsteps key zs))) := by
  obtain ⟨hk1, hk2⟩ := hk
  refine calls_FA Try.func81 rfl (n := 23) rfl (l := [(0, Value.int .i64 key), (1, Value.agg #[Value.slice A n c])]) rfl (by simp) (fun g => ?_)
  have hS := St.init w
  refine wp_seq ?_
  refine c_reg ?_
  refine l_op rfl rfl (fun K hK => op_box (d := some 3) rfl rfl [Value.slice A n c] (by kernel_rfl) hS (fun blk2 w1 hS1 => hK _ _ ?_))
  clear hK K
  refine q_seg (S := (fun x_ => St w x_ [Res.box blk2 [Value.slice A n c] 92])) [(4, Value.int .i64 0)] [.no] True (by kernel_rfl) trivial hS1 ?_
  refine l_nil rfl ?_
  refine then_n ?_
  refine wp_seq ?_
  refine c_reg ?_
  refine q_seg (S := (fun x_ => St w x_ [Res.box blk2 [Value.slice A n c] 92])) [(5, Value.int .i64 key), (7, Value.int .i64 key)] [.no, .no] True (by kernel_rfl) trivial hS1 ?_
  refine l_nil rfl ?_
  refine then_n ?_
  refine wp_seq ?_
  refine wp_seq ?_
  refine c_reg ?_
  refine q_seg (S := (fun x_ => St w x_ [Res.box blk2 [Value.slice A n c] 92])) [(6, Value.int .i64 0)] [.no] True (by kernel_rfl) trivial hS1 ?_
  refine l_nil rfl ?_
  refine then_n ?_
  refine wp_block ?_
  refine c_loop (X := Nat) (fun (k : Nat) => [(3, Value.pointer (some ⟨blk2, 0, none⟩)), (6, Value.int .i64 ((k : Nat) : Int)), (5, Value.int .i64 (dsteps key (zs.take k)))]) (fun (k : Nat) (wr : World) => (k ≤ n) ∧ St w wr [Res.box blk2 [Value.slice A n c] 92]) (fun (k : Nat) => n - k) 0 ?_ ?_ ?_
  · exact (agree_cons (by kernel_rfl) (agree_cons (by kernel_rfl) (agree_cons (by kernel_rfl) agree_nil)))
  · exact ⟨Nat.zero_le _, hS1⟩
  rintro k g4 w3 ⟨hkn, hS3⟩
  obtain ⟨hd1, hd2⟩ := dsteps_I64 (i64 hk1 hk2) (zs.take k)
  refine wp_seq ?_
  refine wp_seq ?_
  refine c_reg ?_
  refine q_seg (S := (fun x_ => St w x_ [Res.box blk2 [Value.slice A n c] 92])) [(12, Value.bool (decide (((k : Nat) : Int) < ((n : Nat) : Int)))), (11, Value.int .i64 ((n : Nat) : Int)), (10, Value.slice A n c), (9, Value.pointer (some ⟨blk2, 0 + 0, none⟩)), (8, Value.int .i64 ((k : Nat) : Int))] [.no, .no, .v (Value.slice A n c), .no, .no] ((LoadsAt Try.prog (fun x_ => St w x_ [Res.box blk2 [Value.slice A n c] 92]) 74 ⟨blk2, 0 + 0, none⟩ (Value.slice A n c))) (by kernel_rfl) (ld_box (i := 0) rfl rfl (by kernel_rfl)) hS3 ?_
  refine l_nil rfl ?_
  refine then_n ?_
  rcases Bool.eq_false_or_eq_true (decide (((k : Nat) : Int) < ((n : Nat) : Int))) with hb5 | hb5
  · skip
    have hb5p := of_decide_eq_true hb5
    obtain ⟨b, off, rfl, hbB, hcl⟩ := hr.2 (by omega)
    obtain ⟨z, hzk, hzm⟩ := get_of_lt (l := zs) (k := k) (by have := hr.len; omega)
    obtain ⟨hz1, hz2⟩ := hz _ hzm
    refine c_true (b := (decide (((k : Nat) : Int) < ((n : Nat) : Int)))) (by kernel_rfl) hb5 ?_
    refine wp_skip ?_
    refine then_n ?_
    refine wp_seq ?_
    refine wp_block ?_
    refine c_reg ?_
    refine q_seg (S := (fun x_ => St w x_ [Res.box blk2 [Value.slice (some ⟨b, off, none⟩) n c] 92])) [(20, Value.int .i64 z), (19, Value.pointer (some ⟨b, off + Int.toNat ((k : Nat) : Int) * 1, none⟩)), (18, Value.int .i64 ((k : Nat) : Int)), (17, Value.slice (some ⟨b, off, none⟩) n c), (16, Value.pointer (some ⟨blk2, 0 + 0, none⟩)), (15, Value.int .i64 (dsteps key (zs.take k)))] [.no, .no, .v (Value.slice (some ⟨b, off, none⟩) n c), .no, .no, .v (Value.int .i64 z)] ((LoadsAt Try.prog (fun x_ => St w x_ [Res.box blk2 [Value.slice (some ⟨b, off, none⟩) n c] 92]) 74 ⟨blk2, 0 + 0, none⟩ (Value.slice (some ⟨b, off, none⟩) n c)) ∧ ((0 : Int) ≤ ((k : Nat) : Int)) ∧ (((k : Nat) : Int) < ((n : Nat) : Int)) ∧ (LoadsAt Try.prog (fun x_ => St w x_ [Res.box blk2 [Value.slice (some ⟨b, off, none⟩) n c] 92]) 3 ⟨b, off + Int.toNat ((k : Nat) : Int) * 1, none⟩ (Value.int .i64 z))) (by kernel_rfl) ⟨(ld_box (i := 0) rfl rfl (by kernel_rfl)), (by omega), (by omega), (ld_low (hcl _ _ (by simp [hzk])) (by kernel_rfl))⟩ hS3 ?_
    refine l_op rfl rfl (fun K hK => op_callv (d := some 21) rfl rfl ⟨_, Try.func80, by kernel_rfl, by kernel_rfl⟩ (vs := [Value.int .i64 (dsteps key (zs.take k)), Value.int .i64 z]) (by kernel_rfl) (v := Value.int .i64 (dkey (dsteps key (zs.take k)) z)) (DeriveKeyS_c (dsteps key (zs.take k)) z (i64 (by omega) (by omega)) (i64 (by omega) (by omega)) _) hS3 (fun w6 hS6 => hK _ _ ?_))
    clear hK K
    have hdq7 := dkey_bd (dsteps key (zs.take k)) z
    refine q_seg (S := (fun x_ => St w x_ [Res.box blk2 [Value.slice (some ⟨b, off, none⟩) n c] 92])) [(5, Value.int .i64 (dkey (dsteps key (zs.take k)) z))] [.no] True (by kernel_rfl) trivial hS6 ?_
    refine l_nil rfl ?_
    refine blk_n ?_
    refine then_n ?_
    refine c_reg ?_
    refine q_seg (S := (fun x_ => St w x_ [Res.box blk2 [Value.slice (some ⟨b, off, none⟩) n c] 92])) [(6, Value.int .i64 (((k : Nat) : Int) + (1 : Int))), (14, Value.int .i64 (((k : Nat) : Int) + (1 : Int))), (13, Value.int .i64 ((k : Nat) : Int))] [.no, .no, .no] ((InK .i64 (((k : Nat) : Int) + (1 : Int)))) (by kernel_rfl) (in64 (by omega) (by omega)) hS6 ?_
    refine l_nil rfl ?_
    refine then_n ?_
    refine round_end (k + 1) ?_ ?_ ?_
    · exact (agree_cons (by kernel_rfl) (agree_cons (by kernel_rfl) (agree_eq (v0 := Value.int .i64 (dkey (dsteps key (zs.take k)) z)) (by kernel_rfl) (congrArg (Value.int .i64) (dsteps_get hzk _).symm) agree_nil)))
    · exact ⟨(by omega), hS6⟩
    · exact (by first | omega | (dsimp only; omega))
  · skip
    have hb5p := of_decide_eq_false hb5
    refine c_false (b := (decide (((k : Nat) : Int) < ((n : Nat) : Int)))) (by kernel_rfl) hb5 ?_
    refine wp_exit ?_
    refine then_x ?_
    refine then_x ?_
    refine blk_hit ?_
    refine then_n ?_
    refine wp_seq ?_
    refine c_reg ?_
    refine q_seg (S := (fun x_ => St w x_ [Res.box blk2 [Value.slice A n c] 92])) [(4, Value.int .i64 (dsteps key (zs.take k))), (22, Value.int .i64 (dsteps key (zs.take k)))] [.no, .no] True (by kernel_rfl) trivial hS3 ?_
    refine l_nil rfl ?_
    refine then_n ?_
    refine wp_ret ?_
    exact c_end (S := (fun x_ => St w x_ [Res.box blk2 [Value.slice A n c] 92])) (rs := [.tmp 4]) rfl [] (v := Value.int .i64 (dsteps key (zs.take k))) (C := True) (by kernel_rfl) trivial hS3 ((hS3.rv (by rw [take_all (by have := hr.len; omega)])))
theorem RadioKeyPath_s_c (e : Int) (w : World) : Calls Try.prog 82 #[.int .i64 e] w (Ret w (fun v new => ∃ b, v = .agg #[.slice (some ⟨b, 0, none⟩) 3 3] ∧ new = [.row (.slice (some ⟨b, 0, none⟩) 3 3) 3 1 3 [.int .i64 1, .int .i64 3, .int .i64 e]])) := by
  refine calls_FA Try.func82 rfl (n := 6) rfl (l := [(0, Value.int .i64 e)]) rfl (by simp) (fun g => ?_)
  have hS := St.init w
  refine wp_seq ?_
  refine c_reg ?_
  refine l_op rfl rfl (fun K hK => op_alloc (d := some 2) rfl rfl [Value.slice none 0 0] (by kernel_rfl) hS (fun blk2 w1 hS1 => hK _ _ ?_))
  clear hK K
  refine l_nil rfl ?_
  refine then_n ?_
  refine wp_seq ?_
  refine c_reg ?_
  refine q_seg (S := (fun x_ => St w x_ [Res.box blk2 [Value.slice none 0 0] 92])) [(3, Value.int .i64 e)] [.no] True (by kernel_rfl) trivial hS1 ?_
  refine l_op rfl rfl (fun K hK => op_buildSlice (d := some 4) rfl rfl (e := 3) (by kernel_rfl) 1 (by kernel_rfl) (by decide) (by decide) [Value.int .i64 1, Value.int .i64 3, Value.int .i64 e] (by kernel_rfl) rfl hS1 (fun blk4 w3 hS3 => hK _ _ ?_))
  clear hK K
  refine q_seg (S := (fun x_ => St w x_ [Res.row (Value.slice (some ⟨blk4, 0, none⟩) 3 3) 3 1 3 ([Value.int .i64 1, Value.int .i64 3, Value.int .i64 e]), Res.box blk2 [Value.slice none 0 0] 92])) [(5, Value.agg #[Value.slice (some ⟨blk4, 0, none⟩) 3 3])] [.no] True (by kernel_rfl) trivial hS3 ?_
  refine l_op rfl rfl (fun K hK => op_store (d := none) rfl rfl (i := 1) (b := blk2) (off := 0) (cs := [Value.slice none 0 0]) (bt := 92) (by kernel_rfl) (by kernel_rfl) [Value.slice (some ⟨blk4, 0, none⟩) 3 3] (by kernel_rfl) (by kernel_rfl) (Nat.le_of_ble_eq_true (by kernel_rfl)) (by kernel_rfl) [Res.row (Value.slice (some ⟨blk4, 0, none⟩) 3 3) 3 1 3 ([Value.int .i64 1, Value.int .i64 3, Value.int .i64 e]), Res.box blk2 [Value.slice (some ⟨blk4, 0, none⟩) 3 3] 92] (by kernel_rfl) hS3 (fun w5 hS5 => hK _ _ ?_))
  clear hK K
  refine l_nil rfl ?_
  refine then_n ?_
  refine wp_ret ?_
  exact c_end (S := (fun x_ => St w x_ [Res.row (Value.slice (some ⟨blk4, 0, none⟩) 3 3) 3 1 3 ([Value.int .i64 1, Value.int .i64 3, Value.int .i64 e]), Res.box blk2 [Value.slice (some ⟨blk4, 0, none⟩) 3 3] 92])) (rs := [.cell 2 92]) rfl [Value.agg #[Value.slice (some ⟨blk4, 0, none⟩) 3 3]] (v := Value.agg #[Value.slice (some ⟨blk4, 0, none⟩) 3 3]) (C := ((LoadsAt Try.prog (fun x_ => St w x_ [Res.row (Value.slice (some ⟨blk4, 0, none⟩) 3 3) 3 1 3 ([Value.int .i64 1, Value.int .i64 3, Value.int .i64 e]), Res.box blk2 [Value.slice (some ⟨blk4, 0, none⟩) 3 3] 92]) 92 ⟨blk2, 0, none⟩ (Value.agg #[Value.slice (some ⟨blk4, 0, none⟩) 3 3])))) (by kernel_rfl) (ld_boxN (i := 1) (k := 1) rfl rfl rfl (by kernel_rfl)) hS5 (((hS5.sub (List.Sublist.cons_cons _ (List.Sublist.cons _ List.Sublist.slnil))).rt ⟨_, rfl, rfl⟩))

theorem RadioKey_s_c (a : Int) (b : Int) (ha : I64 a) (hb : I64 b) (w : World) : Calls Try.prog 46 #[Value.int .i64 a, Value.int .i64 b] w (RetV w (Value.int .i64 (rkey a b))) := by
  obtain ⟨ha1, ha2⟩ := ha
  obtain ⟨hb1, hb2⟩ := hb
  refine calls_FA Try.func46 rfl (n := 9) rfl (l := [(0, Value.int .i64 a), (1, Value.int .i64 b)]) rfl (by simp) (fun g => ?_)
  have hS := St.init w
  refine wp_seq ?_
  refine c_reg ?_
  refine q_seg (S := (fun x_ => St w x_ [])) [(4, Value.int .i64 0)] [.no] True (by kernel_rfl) trivial hS ?_
  refine l_nil rfl ?_
  refine then_n ?_
  refine wp_seq ?_
  refine c_reg ?_
  refine q_seg (S := (fun x_ => St w x_ [])) [(6, Value.int .i64 b), (5, Value.int .i64 a)] [.no, .no] True (by kernel_rfl) trivial hS ?_
  refine l_op rfl rfl (fun K hK => op_call (d := some 7) rfl rfl ⟨_, Try.func82, by kernel_rfl, by kernel_rfl⟩ (vs := [Value.int .i64 b]) (by kernel_rfl) (RadioKeyPath_s_c b _) hS (fun v2 new3 w1 Rw1 hS1 => hK _ _ ?_))
  clear hK K
  obtain ⟨blk4, rfl, rfl⟩ := Rw1
  refine l_op rfl rfl (fun K hK => op_callv (d := some 8) rfl rfl ⟨_, Try.func81, by kernel_rfl, by kernel_rfl⟩ (vs := [Value.int .i64 a, Value.agg #[Value.slice (some ⟨blk4, 0, none⟩) 3 3]]) (by kernel_rfl) (v := Value.int .i64 (dsteps a [1, 3, b])) (KeyForPathS_c a _ 3 3 [1, 3, b] w1 (i64 (by omega) (by omega)) (all64_cons (i64 (by omega) (by omega)) (all64_cons (i64 (by omega) (by omega)) (all64_cons (i64 (by omega) (by omega)) all64_nil))) (by decide) (hS1.rd (List.mem_of_getElem? (i := 0) rfl))) hS1 (fun w5 hS5 => hK _ _ ?_))
  clear hK K
  obtain ⟨hds6, hds7⟩ := dsteps_I64 (a := a) (i64 (by omega) (by omega)) [1, 3, b]
  refine q_seg (S := (fun x_ => St w x_ [Res.row (Value.slice (some ⟨blk4, 0, none⟩) 3 3) 3 1 3 ([Value.int .i64 1, Value.int .i64 3, Value.int .i64 b])])) [(4, Value.int .i64 (dsteps a [1, 3, b]))] [.no] True (by kernel_rfl) trivial hS5 ?_
  refine l_nil rfl ?_
  refine then_n ?_
  refine wp_ret ?_
  exact c_end (S := (fun x_ => St w x_ [Res.row (Value.slice (some ⟨blk4, 0, none⟩) 3 3) 3 1 3 ([Value.int .i64 1, Value.int .i64 3, Value.int .i64 b])])) (rs := [.tmp 4]) rfl [] (v := Value.int .i64 (dsteps a [1, 3, b])) (C := True) (by kernel_rfl) trivial hS5 ((hS5.rv rfl))
theorem Encrypt_s_c (key : Int) (A : Option Addr) (n c : Nat) (zs : List Int) (w : World) (hn : n ≤ 1000000000) (hk : I64 key) (hz : okz .u8 zs) (hr : Rd w w.heap.size A n (zs.map (Value.int .u8))) : Calls Try.prog 104 #[.int .i64 key, .slice A n c] w (Ret w (fun v new => ∃ (A0_ : Option Addr) (c0_ : Nat), v = Value.slice A0_ (List.length (encL key zs)) c0_ ∧ new = [Res.row (Value.slice A0_ (List.length (encL key zs)) c0_) 5 1 (List.length (encL key zs)) ((encL key zs).map (Value.int .u8))])) := by
  obtain ⟨hk1, hk2⟩ := hk
  have hln := hr.len
  refine calls_FA Try.func104 rfl (n := 31) rfl (l := [(0, Value.int .i64 key), (1, Value.slice A n c)]) rfl (by simp) (fun g => ?_)
  have hS := St.init w
  refine wp_seq ?_
  refine c_reg ?_
  refine q_seg (S := (fun x_ => St w x_ [])) [(4, Value.slice none 0 0)] [.no] True (by kernel_rfl) trivial hS ?_
  refine l_nil rfl ?_
  refine then_n ?_
  refine wp_seq ?_
  refine c_reg ?_
  refine l_op rfl rfl (fun K hK => op_buildSlice (d := some 7) rfl rfl (e := 5) (by kernel_rfl) 1 (by kernel_rfl) (by decide) (by decide) [] (by kernel_rfl) rfl hS (fun blk2 w1 hS1 => hK _ _ ?_))
  clear hK K
  refine q_seg (S := (fun x_ => St w x_ [Res.row (Value.slice (some ⟨blk2, 0, none⟩) 0 0) 5 1 0 ([])])) [(5, Value.slice (some ⟨blk2, 0, none⟩) 0 0)] [.no] True (by kernel_rfl) trivial hS1 ?_
  refine l_nil rfl ?_
  refine then_n ?_
  refine wp_seq ?_
  refine wp_seq ?_
  refine c_reg ?_
  refine q_seg (S := (fun x_ => St w x_ [Res.row (Value.slice (some ⟨blk2, 0, none⟩) 0 0) 5 1 0 ([])])) [(6, Value.int .i64 0)] [.no] True (by kernel_rfl) trivial hS1 ?_
  refine l_nil rfl ?_
  refine then_n ?_
  refine wp_block ?_
  refine c_loop (X := Nat × Option Addr × Nat) (fun (x_ : Nat × Option Addr × Nat) => match x_ with | (k, A2, c2) => [(0, Value.int .i64 key), (1, Value.slice A n c), (5, Value.slice A2 (List.length (encK key zs k)) c2), (6, Value.int .i64 ((k : Nat) : Int))]) (fun (x_ : Nat × Option Addr × Nat) (wr : World) => match x_ with | (k, A2, c2) => (k ≤ n) ∧ St w wr [Res.row (Value.slice A2 (List.length (encK key zs k)) c2) 5 1 (List.length (encK key zs k)) ((encK key zs k).map (Value.int .u8))]) (fun (x_ : Nat × Option Addr × Nat) => match x_ with | (k, A2, c2) => n - k) ((0, (some ⟨blk2, 0, none⟩), 0)) ?_ ?_ ?_
  · exact (agree_cons (by kernel_rfl) (agree_cons (by kernel_rfl) (agree_eq (v0 := Value.slice (some ⟨blk2, 0, none⟩) 0 0) (by kernel_rfl) rfl (agree_cons (by kernel_rfl) agree_nil))))
  · exact ⟨Nat.zero_le _, (hS1.eqv (by simp [encK]))⟩
  rintro ⟨k, A2, c2⟩ g4 w3 ⟨hkn, hS3⟩
  have hlk := encK_len key zs k
  refine wp_seq ?_
  refine wp_seq ?_
  refine c_reg ?_
  refine q_seg (S := (fun x_ => St w x_ [Res.row (Value.slice A2 (List.length (encK key zs k)) c2) 5 1 (List.length (encK key zs k)) ((encK key zs k).map (Value.int .u8))])) [(11, Value.bool (decide (((k : Nat) : Int) < ((n : Nat) : Int)))), (10, Value.int .i64 ((n : Nat) : Int)), (9, Value.slice A n c), (8, Value.int .i64 ((k : Nat) : Int))] [.no, .no, .no, .no] True (by kernel_rfl) trivial hS3 ?_
  refine l_nil rfl ?_
  refine then_n ?_
  rcases Bool.eq_false_or_eq_true (decide (((k : Nat) : Int) < ((n : Nat) : Int))) with hb5 | hb5
  · skip
    have hb5p := of_decide_eq_true hb5
    obtain ⟨b, off, rfl, hbB, hcl⟩ := hr.2 (by omega)
    obtain ⟨z, hzk, hzm⟩ := get_of_lt (l := zs) (k := k) (by have := hr.len; omega)
    obtain ⟨hz1, hz2⟩ := okz8 hz _ hzm
    refine c_true (b := (decide (((k : Nat) : Int) < ((n : Nat) : Int)))) (by kernel_rfl) hb5 ?_
    refine wp_skip ?_
    refine then_n ?_
    refine wp_seq ?_
    refine wp_block ?_
    refine c_drawnS (S := (fun x_ => St w x_ [])) [] (by kernel_rfl) hS3 (fun w6 hS6 => ?_)
    refine t_seg (S := (fun x_ => St w x_ [])) [(0, .no), (1, .no), (2, .no), (6, .no), (7, .no), (3, .no), (4, .v (Value.int .u8 z)), (5, .no)] 9 #[true, true, true, true, true, true, true, true, false, false, false, false, false, false, false, false, false] [(19, Value.int .i64 z), (18, Value.int .u8 z), (17, Value.pointer (some ⟨b, off + Int.toNat ((k : Nat) : Int) * 1, none⟩)), (21, Value.int .i64 ((k : Nat) : Int)), (20, Value.int .i64 key), (16, Value.int .i64 ((k : Nat) : Int)), (15, Value.slice (some ⟨b, off, none⟩) n c), (14, Value.slice A2 (List.length (encK key zs k)) c2)] (((0 : Int) ≤ ((k : Nat) : Int)) ∧ (((k : Nat) : Int) < ((n : Nat) : Int)) ∧ (LoadsAt Try.prog (fun x_ => St w x_ []) 5 ⟨b, off + Int.toNat ((k : Nat) : Int) * 1, none⟩ (Value.int .u8 z)) ∧ (InK .i64 z)) (by kernel_rfl) (Qpanic.block (Qpanic.then (Qpanic.then (Qpanic.block (Qpanic.then Qpanic.bp))))) rfl (by kernel_rfl) ⟨(by omega), (by omega), (ld_low (hcl _ _ (by simp [hzk])) (by kernel_rfl)), (in64 (by omega) (by omega))⟩ (hS6.drop) ?_
    refine a_op (i := 8) (fuel := 8) (listed' := #[true, true, true, true, true, true, true, true, true, false, false, false, false, false, false, false, false]) rfl rfl (by kernel_rfl) (by kernel_rfl) rfl (fun K hK => op_buildSlice (d := some 22) rfl rfl (e := 3) (by kernel_rfl) 1 (by kernel_rfl) (by decide) (by decide) [Value.int .i64 ((k : Nat) : Int)] (by kernel_rfl) rfl hS6 (fun blk8 w7 hS7 => hK _ _ (fun _ => hS7.drop.drop) ?_))
    clear hK K
    refine a_op (i := 9) (fuel := 7) (listed' := #[true, true, true, true, true, true, true, true, true, true, false, false, false, false, false, false, false]) rfl rfl (by kernel_rfl) (by kernel_rfl) rfl (fun K hK => op_callv (d := some 23) rfl rfl ⟨_, Try.func106, by kernel_rfl, by kernel_rfl⟩ (vs := [Value.int .i64 key, Value.slice (some ⟨blk8, 0, none⟩) 1 1]) (by kernel_rfl) (v := Value.int .i64 (khash key [((k : Nat) : Int)])) (KeyedHashS_c key _ 1 1 [((k : Nat) : Int)] w7 (i64 (by omega) (by omega)) (all64_cons (i64 (by omega) (by omega)) all64_nil) (by decide) (hS7.rd (List.mem_of_getElem? (i := 0) rfl))) hS7 (fun w9 hS9 => hK _ _ (fun _ => hS9.drop.drop) ?_))
    clear hK K
    have hkq10 := khash_bd key [((k : Nat) : Int)]
    refine t_seg (S := (fun x_ => St w x_ [])) [(10, .no), (11, .no), (12, .no), (13, .no)] 3 #[true, true, true, true, true, true, true, true, true, true, true, true, true, true, false, false, false] [(27, Value.int .u8 ((z + ((khash key [((k : Nat) : Int)]) % (256 : Int))) % (256 : Int))), (26, Value.int .i64 ((z + ((khash key [((k : Nat) : Int)]) % (256 : Int))) % (256 : Int))), (25, Value.int .i64 (z + ((khash key [((k : Nat) : Int)]) % (256 : Int)))), (24, Value.int .i64 ((khash key [((k : Nat) : Int)]) % (256 : Int)))] (((0 : Int) ≤ (khash key [((k : Nat) : Int)])) ∧ ((0 : Int) < (256 : Int)) ∧ (InK .i64 (z + ((khash key [((k : Nat) : Int)]) % (256 : Int)))) ∧ ((0 : Int) ≤ (z + ((khash key [((k : Nat) : Int)]) % (256 : Int)))) ∧ ((0 : Int) < (256 : Int)) ∧ (InK .u8 ((z + ((khash key [((k : Nat) : Int)]) % (256 : Int))) % (256 : Int)))) (by kernel_rfl) (Qpanic.block (Qpanic.then (Qpanic.then (Qpanic.block (Qpanic.then Qpanic.bp))))) rfl (by kernel_rfl) ⟨(by omega), (by omega), (in64 (by omega) (by omega)), (by omega), (by omega), (in8 (by omega) (by omega))⟩ (hS9.drop.drop) ?_
    refine a_op (i := 14) (fuel := 2) (listed' := #[true, true, true, true, true, true, true, true, true, true, true, true, true, true, true, false, false]) rfl rfl (by kernel_rfl) (by kernel_rfl) rfl (fun K hK => op_buildSlice (d := some 28) rfl rfl (e := 5) (by kernel_rfl) 1 (by kernel_rfl) (by decide) (by decide) [Value.int .u8 ((z + ((khash key [((k : Nat) : Int)]) % (256 : Int))) % (256 : Int))] (by kernel_rfl) rfl hS9 (fun blk12 w11 hS11 => hK _ _ (fun _ => hS11.drop.drop.drop) ?_))
    clear hK K
    refine a_op (i := 15) (fuel := 1) (listed' := #[true, true, true, true, true, true, true, true, true, true, true, true, true, true, true, true, false]) rfl rfl (by kernel_rfl) (by kernel_rfl) rfl (fun K hK => op_append (d := some 29) rfl rfl elByte hS11 (i := 2) rfl rfl rfl (news := [Value.int .u8 ((z + ((khash key [((k : Nat) : Int)]) % (256 : Int))) % (256 : Int))]) (hS11.rd (List.mem_of_getElem? (i := 0) rfl)) (all_one (by rfl)) (by omega) (by omega) (fun v14 w13 hS13 => hK _ _ (fun _ => hS13.drop.drop.drop) ?_))
    clear hK K
    obtain ⟨hlv14, Av14, cv14, hvv14, hnv14, hmv14⟩ := hS13.row_slice (List.mem_of_getElem? (i := 2) rfl)
    subst hvv14
    refine t_seg (S := (fun x_ => St w x_ [])) [(16, .no)] 0 #[true, true, true, true, true, true, true, true, true, true, true, true, true, true, true, true, true] [(5, Value.slice Av14 ((List.length (encK key zs k)) + 1) cv14)] True (by kernel_rfl) (Qpanic.block (Qpanic.then (Qpanic.then (Qpanic.block (Qpanic.then Qpanic.bp))))) rfl (by kernel_rfl) trivial (hS13.drop.drop.drop) ?_
    refine a_done (by kernel_rfl) ?_
    refine blk_n ?_
    refine then_n ?_
    refine c_reg ?_
    refine q_seg (S := (fun x_ => St w x_ [Res.row (Value.slice (some ⟨blk12, 0, none⟩) 1 1) 5 1 1 ([Value.int .u8 ((z + ((khash key [((k : Nat) : Int)]) % (256 : Int))) % (256 : Int))]), Res.row (Value.slice (some ⟨blk8, 0, none⟩) 1 1) 3 1 1 ([Value.int .i64 ((k : Nat) : Int)]), Res.row (Value.slice Av14 ((List.length (encK key zs k)) + 1) cv14) 5 1 ((List.length (encK key zs k)) + 1) (((encK key zs k).map (Value.int .u8)) ++ [Value.int .u8 ((z + ((khash key [((k : Nat) : Int)]) % (256 : Int))) % (256 : Int))])])) [(6, Value.int .i64 (((k : Nat) : Int) + (1 : Int))), (13, Value.int .i64 (((k : Nat) : Int) + (1 : Int))), (12, Value.int .i64 ((k : Nat) : Int))] [.no, .no, .no] ((InK .i64 (((k : Nat) : Int) + (1 : Int)))) (by kernel_rfl) (in64 (by omega) (by omega)) hS13 ?_
    refine l_nil rfl ?_
    refine then_n ?_
    have hS13s1 : St w w13 [Res.row (Value.slice Av14 ((List.length (encK key zs k)) + 1) cv14) 5 1 ((List.length (encK key zs k)) + 1) (((encK key zs k).map (Value.int .u8)) ++ [Value.int .u8 ((z + ((khash key [((k : Nat) : Int)]) % (256 : Int))) % (256 : Int))])] := (hS13.sub (List.Sublist.cons _ (List.Sublist.cons _ (List.Sublist.cons_cons _ List.Sublist.slnil))))
    refine round_end ((k + 1, Av14, cv14)) ?_ ?_ ?_
    · exact (agree_cons (by kernel_rfl) (agree_cons (by kernel_rfl) (agree_eq (v0 := Value.slice Av14 ((List.length (encK key zs k)) + 1) cv14) (by kernel_rfl) (congrArg (fun m => Value.slice Av14 m cv14) (by first | (rw [encK_s hzk]; simp; done) | (rw [encK_len, encK_len]))) (agree_cons (by kernel_rfl) agree_nil))))
    · exact ⟨(by omega), (hS13s1.eqv (by rw [encK_s hzk]; simp))⟩
    · exact (by first | omega | (dsimp only; omega))
  · skip
    have hb5p := of_decide_eq_false hb5
    refine c_false (b := (decide (((k : Nat) : Int) < ((n : Nat) : Int)))) (by kernel_rfl) hb5 ?_
    refine wp_exit ?_
    refine then_x ?_
    refine then_x ?_
    refine blk_hit ?_
    refine then_n ?_
    refine wp_seq ?_
    refine c_reg ?_
    refine q_seg (S := (fun x_ => St w x_ [Res.row (Value.slice A2 (List.length (encK key zs k)) c2) 5 1 (List.length (encK key zs k)) ((encK key zs k).map (Value.int .u8))])) [(4, Value.slice A2 (List.length (encK key zs k)) c2), (30, Value.slice A2 (List.length (encK key zs k)) c2)] [.no, .no] True (by kernel_rfl) trivial hS3 ?_
    refine l_nil rfl ?_
    refine then_n ?_
    refine wp_ret ?_
    have hkn2 : k = zs.length := by omega
    have hL : encL key zs = encK key zs k := by rw [hkn2]; rfl
    exact c_end (S := (fun x_ => St w x_ [Res.row (Value.slice A2 (List.length (encK key zs k)) c2) 5 1 (List.length (encK key zs k)) ((encK key zs k).map (Value.int .u8))])) (rs := [.tmp 4]) rfl [] (v := Value.slice A2 (List.length (encK key zs k)) c2) (C := True) (by kernel_rfl) trivial hS3 (by rw [hL]; exact hS3.rt ⟨A2, c2, rfl, rfl⟩)
theorem BytesToInts_s_c (A : Option Addr) (n c : Nat) (zs : List Int) (w : World) (hn : n ≤ 1000000000) (hz : okz .u8 zs) (hr : Rd w w.heap.size A n (zs.map (Value.int .u8))) : Calls Try.prog 115 #[.slice A n c] w (Ret w (fun v new => ∃ (A0_ : Option Addr) (c0_ : Nat), v = Value.slice A0_ (List.length ([((n : Nat) : Int)] ++ zs)) c0_ ∧ new = [Res.row (Value.slice A0_ (List.length ([((n : Nat) : Int)] ++ zs)) c0_) 3 1 (List.length ([((n : Nat) : Int)] ++ zs)) (([((n : Nat) : Int)] ++ zs).map (Value.int .i64))])) := by
  have hln := hr.len
  refine calls_FA Try.func115 rfl (n := 23) rfl (l := [(0, Value.slice A n c)]) rfl (by simp) (fun g => ?_)
  have hS := St.init w
  refine wp_seq ?_
  refine c_reg ?_
  refine q_seg (S := (fun x_ => St w x_ [])) [(2, Value.slice none 0 0)] [.no] True (by kernel_rfl) trivial hS ?_
  refine l_nil rfl ?_
  refine then_n ?_
  refine wp_seq ?_
  refine c_reg ?_
  refine q_seg (S := (fun x_ => St w x_ [])) [(6, Value.int .i64 ((n : Nat) : Int)), (5, Value.slice A n c)] [.no, .no] True (by kernel_rfl) trivial hS ?_
  refine l_op rfl rfl (fun K hK => op_buildSlice (d := some 7) rfl rfl (e := 3) (by kernel_rfl) 1 (by kernel_rfl) (by decide) (by decide) [Value.int .i64 ((n : Nat) : Int)] (by kernel_rfl) rfl hS (fun blk2 w1 hS1 => hK _ _ ?_))
  clear hK K
  refine q_seg (S := (fun x_ => St w x_ [Res.row (Value.slice (some ⟨blk2, 0, none⟩) 1 1) 3 1 1 ([Value.int .i64 ((n : Nat) : Int)])])) [(3, Value.slice (some ⟨blk2, 0, none⟩) 1 1)] [.no] True (by kernel_rfl) trivial hS1 ?_
  refine l_nil rfl ?_
  refine then_n ?_
  refine wp_seq ?_
  refine wp_seq ?_
  refine c_reg ?_
  refine q_seg (S := (fun x_ => St w x_ [Res.row (Value.slice (some ⟨blk2, 0, none⟩) 1 1) 3 1 1 ([Value.int .i64 ((n : Nat) : Int)])])) [(4, Value.int .i64 0)] [.no] True (by kernel_rfl) trivial hS1 ?_
  refine l_nil rfl ?_
  refine then_n ?_
  refine wp_block ?_
  refine c_loop (X := Nat × Option Addr × Nat) (fun (x_ : Nat × Option Addr × Nat) => match x_ with | (k, A2, c2) => [(0, Value.slice A n c), (3, Value.slice A2 (List.length ([((n : Nat) : Int)] ++ (zs.take k))) c2), (4, Value.int .i64 ((k : Nat) : Int))]) (fun (x_ : Nat × Option Addr × Nat) (wr : World) => match x_ with | (k, A2, c2) => (k ≤ n) ∧ St w wr [Res.row (Value.slice A2 (List.length ([((n : Nat) : Int)] ++ (zs.take k))) c2) 3 1 (List.length ([((n : Nat) : Int)] ++ (zs.take k))) (([((n : Nat) : Int)] ++ (zs.take k)).map (Value.int .i64))]) (fun (x_ : Nat × Option Addr × Nat) => match x_ with | (k, A2, c2) => n - k) ((0, (some ⟨blk2, 0, none⟩), 1)) ?_ ?_ ?_
  · exact (agree_cons (by kernel_rfl) (agree_eq (v0 := Value.slice (some ⟨blk2, 0, none⟩) 1 1) (by kernel_rfl) (by first | rfl | simp) (agree_cons (by kernel_rfl) agree_nil)))
  · exact ⟨Nat.zero_le _, (hS1.eqv (by first | rfl | (simp [zrow_one]; done) | simp))⟩
  rintro ⟨k, A2, c2⟩ g4 w3 ⟨hkn, hS3⟩
  have htl := List.length_take_le k zs
  have hel : (List.length ([((n : Nat) : Int)] ++ (zs.take k))) = List.length (zs.take k) + 1 := by simp
  refine wp_seq ?_
  refine wp_seq ?_
  refine c_reg ?_
  refine q_seg (S := (fun x_ => St w x_ [Res.row (Value.slice A2 (List.length ([((n : Nat) : Int)] ++ (zs.take k))) c2) 3 1 (List.length ([((n : Nat) : Int)] ++ (zs.take k))) (([((n : Nat) : Int)] ++ (zs.take k)).map (Value.int .i64))])) [(11, Value.bool (decide (((k : Nat) : Int) < ((n : Nat) : Int)))), (10, Value.int .i64 ((n : Nat) : Int)), (9, Value.slice A n c), (8, Value.int .i64 ((k : Nat) : Int))] [.no, .no, .no, .no] True (by kernel_rfl) trivial hS3 ?_
  refine l_nil rfl ?_
  refine then_n ?_
  rcases Bool.eq_false_or_eq_true (decide (((k : Nat) : Int) < ((n : Nat) : Int))) with hb5 | hb5
  · skip
    have hb5p := of_decide_eq_true hb5
    obtain ⟨b, off, rfl, hbB, hcl⟩ := hr.2 (by omega)
    obtain ⟨z, hzk, hzm⟩ := get_of_lt (l := zs) (k := k) (by have := hr.len; omega)
    obtain ⟨hz1, hz2⟩ := okz8 hz _ hzm
    refine c_true (b := (decide (((k : Nat) : Int) < ((n : Nat) : Int)))) (by kernel_rfl) hb5 ?_
    refine wp_skip ?_
    refine then_n ?_
    refine wp_seq ?_
    refine wp_block ?_
    refine c_reg ?_
    refine q_seg (S := (fun x_ => St w x_ [Res.row (Value.slice A2 (List.length ([((n : Nat) : Int)] ++ (zs.take k))) c2) 3 1 (List.length ([((n : Nat) : Int)] ++ (zs.take k))) (([((n : Nat) : Int)] ++ (zs.take k)).map (Value.int .i64))])) [(19, Value.int .i64 z), (18, Value.int .u8 z), (17, Value.pointer (some ⟨b, off + Int.toNat ((k : Nat) : Int) * 1, none⟩)), (16, Value.int .i64 ((k : Nat) : Int)), (15, Value.slice (some ⟨b, off, none⟩) n c), (14, Value.slice A2 (List.length ([((n : Nat) : Int)] ++ (zs.take k))) c2)] [.no, .no, .no, .no, .v (Value.int .u8 z), .no] (((0 : Int) ≤ ((k : Nat) : Int)) ∧ (((k : Nat) : Int) < ((n : Nat) : Int)) ∧ (LoadsAt Try.prog (fun x_ => St w x_ [Res.row (Value.slice A2 (List.length ([((n : Nat) : Int)] ++ (zs.take k))) c2) 3 1 (List.length ([((n : Nat) : Int)] ++ (zs.take k))) (([((n : Nat) : Int)] ++ (zs.take k)).map (Value.int .i64))]) 5 ⟨b, off + Int.toNat ((k : Nat) : Int) * 1, none⟩ (Value.int .u8 z)) ∧ (InK .i64 z)) (by kernel_rfl) ⟨(by omega), (by omega), (ld_low (hcl _ _ (by simp [hzk])) (by kernel_rfl)), (in64 (by omega) (by omega))⟩ hS3 ?_
    refine l_op rfl rfl (fun K hK => op_buildSlice (d := some 20) rfl rfl (e := 3) (by kernel_rfl) 1 (by kernel_rfl) (by decide) (by decide) [Value.int .i64 z] (by kernel_rfl) rfl hS3 (fun blk7 w6 hS6 => hK _ _ ?_))
    clear hK K
    refine l_op rfl rfl (fun K hK => op_append (d := some 21) rfl rfl elInt hS6 (i := 1) rfl rfl rfl (news := [Value.int .i64 z]) (hS6.rd (List.mem_of_getElem? (i := 0) rfl)) (all_one (by rfl)) (by omega) (by omega) (fun v9 w8 hS8 => hK _ _ ?_))
    clear hK K
    obtain ⟨hlv9, Av9, cv9, hvv9, hnv9, hmv9⟩ := hS8.row_slice (List.mem_of_getElem? (i := 1) rfl)
    subst hvv9
    refine q_seg (S := (fun x_ => St w x_ [Res.row (Value.slice (some ⟨blk7, 0, none⟩) 1 1) 3 1 1 ([Value.int .i64 z]), Res.row (Value.slice Av9 ((List.length ([((n : Nat) : Int)] ++ (zs.take k))) + 1) cv9) 3 1 ((List.length ([((n : Nat) : Int)] ++ (zs.take k))) + 1) ((([((n : Nat) : Int)] ++ (zs.take k)).map (Value.int .i64)) ++ [Value.int .i64 z])])) [(3, Value.slice Av9 ((List.length ([((n : Nat) : Int)] ++ (zs.take k))) + 1) cv9)] [.no] True (by kernel_rfl) trivial hS8 ?_
    refine l_nil rfl ?_
    refine blk_n ?_
    refine then_n ?_
    refine c_reg ?_
    refine q_seg (S := (fun x_ => St w x_ [Res.row (Value.slice (some ⟨blk7, 0, none⟩) 1 1) 3 1 1 ([Value.int .i64 z]), Res.row (Value.slice Av9 ((List.length ([((n : Nat) : Int)] ++ (zs.take k))) + 1) cv9) 3 1 ((List.length ([((n : Nat) : Int)] ++ (zs.take k))) + 1) ((([((n : Nat) : Int)] ++ (zs.take k)).map (Value.int .i64)) ++ [Value.int .i64 z])])) [(4, Value.int .i64 (((k : Nat) : Int) + (1 : Int))), (13, Value.int .i64 (((k : Nat) : Int) + (1 : Int))), (12, Value.int .i64 ((k : Nat) : Int))] [.no, .no, .no] ((InK .i64 (((k : Nat) : Int) + (1 : Int)))) (by kernel_rfl) (in64 (by omega) (by omega)) hS8 ?_
    refine l_nil rfl ?_
    refine then_n ?_
    have hS8s1 : St w w8 [Res.row (Value.slice Av9 ((List.length ([((n : Nat) : Int)] ++ (zs.take k))) + 1) cv9) 3 1 ((List.length ([((n : Nat) : Int)] ++ (zs.take k))) + 1) ((([((n : Nat) : Int)] ++ (zs.take k)).map (Value.int .i64)) ++ [Value.int .i64 z])] := (hS8.sub (List.Sublist.cons _ (List.Sublist.cons_cons _ List.Sublist.slnil)))
    refine round_end ((k + 1, Av9, cv9)) ?_ ?_ ?_
    · exact (agree_cons (by kernel_rfl) (agree_eq (v0 := Value.slice Av9 ((List.length ([((n : Nat) : Int)] ++ (zs.take k))) + 1) cv9) (by kernel_rfl) (congrArg (fun m => Value.slice Av9 m cv9) (by rw [take_get hzk]; simp)) (agree_cons (by kernel_rfl) agree_nil)))
    · exact ⟨(by omega), (hS8s1.eqv (by rw [take_get hzk]; simp))⟩
    · exact (by first | omega | (dsimp only; omega))
  · skip
    have hb5p := of_decide_eq_false hb5
    refine c_false (b := (decide (((k : Nat) : Int) < ((n : Nat) : Int)))) (by kernel_rfl) hb5 ?_
    refine wp_exit ?_
    refine then_x ?_
    refine then_x ?_
    refine blk_hit ?_
    refine then_n ?_
    refine wp_seq ?_
    refine c_reg ?_
    refine q_seg (S := (fun x_ => St w x_ [Res.row (Value.slice A2 (List.length ([((n : Nat) : Int)] ++ (zs.take k))) c2) 3 1 (List.length ([((n : Nat) : Int)] ++ (zs.take k))) (([((n : Nat) : Int)] ++ (zs.take k)).map (Value.int .i64))])) [(2, Value.slice A2 (List.length ([((n : Nat) : Int)] ++ (zs.take k))) c2), (22, Value.slice A2 (List.length ([((n : Nat) : Int)] ++ (zs.take k))) c2)] [.no, .no] True (by kernel_rfl) trivial hS3 ?_
    refine l_nil rfl ?_
    refine then_n ?_
    refine wp_ret ?_
    have hL : zs = zs.take k := (take_all (by omega)).symm
    exact c_end (S := (fun x_ => St w x_ [Res.row (Value.slice A2 (List.length ([((n : Nat) : Int)] ++ (zs.take k))) c2) 3 1 (List.length ([((n : Nat) : Int)] ++ (zs.take k))) (([((n : Nat) : Int)] ++ (zs.take k)).map (Value.int .i64))])) (rs := [.tmp 2]) rfl [] (v := Value.slice A2 (List.length ([((n : Nat) : Int)] ++ (zs.take k))) c2) (C := True) (by kernel_rfl) trivial hS3 (by rw [show ([((n : Nat) : Int)] ++ zs) = ([((n : Nat) : Int)] ++ (zs.take k)) by rw [← hL]]; exact hS3.rt ⟨A2, c2, rfl, rfl⟩)
theorem l8Mac_s_c (key d c : Int) (A : Option Addr) (n cp : Nat) (zs : List Int) (m : Int) (w : World) (hn : n ≤ 1000000000) (hd : I64 d) (hc : I64 c) (hk : I64 key) (hz : okz .u8 zs) (hr : Rd w w.heap.size A n (zs.map (Value.int .u8))) : Calls Try.prog 103 #[.int .i64 key, Value.agg #[Value.int .i64 d, Value.int .i64 c, Value.slice A n cp, Value.int .i64 m]] w (RetV w (.int .i64 (mac8 key d c zs))) := by
  obtain ⟨hd1, hd2⟩ := hd
  obtain ⟨hc1, hc2⟩ := hc
  obtain ⟨hk1, hk2⟩ := hk
  have hln := hr.len
  refine calls_FA Try.func103 rfl (n := 16) rfl (l := [(0, Value.int .i64 key), (1, Value.agg #[Value.int .i64 d, Value.int .i64 c, Value.slice A n cp, Value.int .i64 m])]) rfl (by simp) (fun g => ?_)
  have hS := St.init w
  refine wp_seq ?_
  refine c_reg ?_
  refine l_op rfl rfl (fun K hK => op_box (d := some 3) rfl rfl [Value.int .i64 d, Value.int .i64 c, Value.slice A n cp, Value.int .i64 m] (by kernel_rfl) hS (fun blk2 w1 hS1 => hK _ _ ?_))
  clear hK K
  refine q_seg (S := (fun x_ => St w x_ [Res.box blk2 [Value.int .i64 d, Value.int .i64 c, Value.slice A n cp, Value.int .i64 m] 32])) [(4, Value.int .i64 0)] [.no] True (by kernel_rfl) trivial hS1 ?_
  refine l_nil rfl ?_
  refine then_n ?_
  refine wp_seq ?_
  refine c_cut (fun a_ w_ => ∃ (g_ : Nat → Value), a_ = FA 16 [(4, Value.int .i64 (khash key ([d, c] ++ ([((n : Nat) : Int)] ++ zs))))] g_ ∧ St w w_ [Res.box blk2 [Value.int .i64 d, Value.int .i64 c, Value.slice A n cp, Value.int .i64 m] 32]) ?_ ?_
  · skip
    refine c_drawn [] (by kernel_rfl) hS1 (fun w3 hS3 => ?_)
    refine t_seg (S := (fun x_ => St w x_ [Res.box blk2 [Value.int .i64 d, Value.int .i64 c, Value.slice A n cp, Value.int .i64 m] 32])) [(0, .no), (1, .no), (3, .no), (6, .no), (2, .v (Value.int .i64 d)), (4, .v (Value.int .i64 c)), (7, .v (Value.slice A n cp))] 5 #[true, true, true, true, true, false, true, true, false, false, false, false] [(12, Value.slice A n cp), (9, Value.int .i64 c), (7, Value.int .i64 d), (11, Value.pointer (some ⟨blk2, 0 + 2, none⟩)), (8, Value.pointer (some ⟨blk2, 0 + 1, none⟩)), (6, Value.pointer (some ⟨blk2, 0 + 0, none⟩)), (5, Value.int .i64 key)] ((LoadsAt Try.prog (fun x_ => St w x_ [Res.box blk2 [Value.int .i64 d, Value.int .i64 c, Value.slice A n cp, Value.int .i64 m] 32]) 3 ⟨blk2, 0 + 0, none⟩ (Value.int .i64 d)) ∧ (LoadsAt Try.prog (fun x_ => St w x_ [Res.box blk2 [Value.int .i64 d, Value.int .i64 c, Value.slice A n cp, Value.int .i64 m] 32]) 3 ⟨blk2, 0 + 1, none⟩ (Value.int .i64 c)) ∧ (LoadsAt Try.prog (fun x_ => St w x_ [Res.box blk2 [Value.int .i64 d, Value.int .i64 c, Value.slice A n cp, Value.int .i64 m] 32]) 22 ⟨blk2, 0 + 2, none⟩ (Value.slice A n cp))) (by kernel_rfl) (Qpanic.then (Qpanic.then Qpanic.bp)) rfl (by kernel_rfl) ⟨(ld_box (i := 0) rfl rfl (by kernel_rfl)), (ld_box (i := 0) rfl rfl (by kernel_rfl)), (ld_box (i := 0) rfl rfl (by kernel_rfl))⟩ hS3 ?_
    refine a_op2 (i := 5) (j := 8) (fuel := 4) (li := #[true, true, true, true, true, true, true, true, false, false, false, false]) (lj := #[true, true, true, true, true, false, true, true, true, false, false, false]) rfl rfl rfl (by kernel_rfl) (by kernel_rfl) (by kernel_rfl) rfl rfl ?_ ?_
    · intro K hK
      refine op_buildSlice (d := some 10) rfl rfl (e := 3) (by kernel_rfl) 1 (by kernel_rfl) (by decide) (by decide) [Value.int .i64 d, Value.int .i64 c] (by kernel_rfl) rfl hS3 (fun blk5 w4 hS4 => (hK _ _ (fun _ => hS4.drop) ?_))
      clear hK K
      refine a_op (i := 8) (fuel := 3) (listed' := #[true, true, true, true, true, true, true, true, true, false, false, false]) rfl rfl (by kernel_rfl) (by kernel_rfl) rfl (fun K hK => op_call (d := some 13) rfl rfl ⟨_, Try.func115, by kernel_rfl, by kernel_rfl⟩ (vs := [Value.slice A n cp]) (by kernel_rfl) (BytesToInts_s_c A n cp zs w4 (by omega) hz (hS4.rdlow hr)) hS4 (fun v7 new8 w6 Rw6 hS6 => hK _ _ (fun _ => hS6.after.drop) ?_))
      clear hK K
      obtain ⟨Aq9, cq10, rfl, rfl⟩ := Rw6
      have hbl11 : (List.length ([((n : Nat) : Int)] ++ zs)) = (List.length zs) + 1 := by simp
      refine a_op (i := 9) (fuel := 2) (listed' := #[true, true, true, true, true, true, true, true, true, true, false, false]) rfl rfl (by kernel_rfl) (by kernel_rfl) rfl (fun K hK => op_append (d := some 14) rfl rfl elInt hS6 (i := 1) rfl rfl rfl (news := (([((n : Nat) : Int)] ++ zs).map (Value.int .i64))) (hS6.rd (List.mem_of_getElem? (i := 0) rfl)) (ints_one _ _) (by omega) (by omega) (fun v13 w12 hS12 => hK _ _ (fun _ => hS12.drop.drop) ?_))
      clear hK K
      obtain ⟨hlv13, Av13, cv13, hvv13, hnv13, hmv13⟩ := hS12.row_slice (List.mem_of_getElem? (i := 1) rfl)
      subst hvv13
      refine a_op (i := 10) (fuel := 1) (listed' := #[true, true, true, true, true, true, true, true, true, true, true, false]) rfl rfl (by kernel_rfl) (by kernel_rfl) rfl (fun K hK => op_callv (d := some 15) rfl rfl ⟨_, Try.func106, by kernel_rfl, by kernel_rfl⟩ (vs := [Value.int .i64 key, Value.slice Av13 (2 + (List.length ([((n : Nat) : Int)] ++ zs))) cv13]) (by kernel_rfl) (v := Value.int .i64 (khash key ([d, c] ++ ([((n : Nat) : Int)] ++ zs)))) (KeyedHashS_c key Av13 (2 + (List.length ([((n : Nat) : Int)] ++ zs))) cv13 ([d, c] ++ ([((n : Nat) : Int)] ++ zs)) w12 (i64 (by omega) (by omega)) (by have h_ := all64_mac (i64 hd1 hd2) (i64 hc1 hc2) hz (by omega); rw [hln] at h_; exact h_) (by omega) ((hS12.rd (List.mem_of_getElem? (i := 1) rfl)).eqn (by omega) (by simp))) hS12 (fun w14 hS14 => hK _ _ (fun _ => hS14.drop.drop) ?_))
      clear hK K
      refine t_seg (S := (fun x_ => St w x_ [Res.box blk2 [Value.int .i64 d, Value.int .i64 c, Value.slice A n cp, Value.int .i64 m] 32])) [(11, .no)] 0 #[true, true, true, true, true, true, true, true, true, true, true, true] [(4, Value.int .i64 (khash key ([d, c] ++ ([((n : Nat) : Int)] ++ zs))))] True (by kernel_rfl) (Qpanic.then (Qpanic.then Qpanic.bp)) rfl (by kernel_rfl) trivial (hS14.drop.drop) ?_
      refine a_done (by kernel_rfl) ?_
      refine then_n ?_
      have hS14s1 : St w w14 [Res.box blk2 [Value.int .i64 d, Value.int .i64 c, Value.slice A n cp, Value.int .i64 m] 32] := (hS14.sub (List.Sublist.cons _ (List.Sublist.cons _ (List.Sublist.cons_cons _ List.Sublist.slnil))))
      exact ⟨_, FA_reset _ (agree_cons (by kernel_rfl) agree_nil), hS14s1⟩
    · intro K hK
      refine op_call (d := some 13) rfl rfl ⟨_, Try.func115, by kernel_rfl, by kernel_rfl⟩ (vs := [Value.slice A n cp]) (by kernel_rfl) (BytesToInts_s_c A n cp zs w3 (by omega) hz (hS3.rdlow hr)) hS3 (fun v16 new17 w15 Rw15 hS15 => (hK _ _ (fun _ => hS15.after) ?_))
      clear hK K
      obtain ⟨Aq18, cq19, rfl, rfl⟩ := Rw15
      have hbl20 : (List.length ([((n : Nat) : Int)] ++ zs)) = (List.length zs) + 1 := by simp
      refine a_op (i := 5) (fuel := 3) (listed' := #[true, true, true, true, true, true, true, true, true, false, false, false]) rfl rfl (by kernel_rfl) (by kernel_rfl) rfl (fun K hK => op_buildSlice (d := some 10) rfl rfl (e := 3) (by kernel_rfl) 1 (by kernel_rfl) (by decide) (by decide) [Value.int .i64 d, Value.int .i64 c] (by kernel_rfl) rfl hS15 (fun blk22 w21 hS21 => hK _ _ (fun _ => hS21.drop.drop) ?_))
      clear hK K
      refine a_op (i := 9) (fuel := 2) (listed' := #[true, true, true, true, true, true, true, true, true, true, false, false]) rfl rfl (by kernel_rfl) (by kernel_rfl) rfl (fun K hK => op_append (d := some 14) rfl rfl elInt hS21 (i := 0) rfl rfl rfl (news := (([((n : Nat) : Int)] ++ zs).map (Value.int .i64))) (hS21.rd (List.mem_of_getElem? (i := 1) rfl)) (ints_one _ _) (by omega) (by omega) (fun v24 w23 hS23 => hK _ _ (fun _ => hS23.drop.drop) ?_))
      clear hK K
      obtain ⟨hlv24, Av24, cv24, hvv24, hnv24, hmv24⟩ := hS23.row_slice (List.mem_of_getElem? (i := 0) rfl)
      subst hvv24
      refine a_op (i := 10) (fuel := 1) (listed' := #[true, true, true, true, true, true, true, true, true, true, true, false]) rfl rfl (by kernel_rfl) (by kernel_rfl) rfl (fun K hK => op_callv (d := some 15) rfl rfl ⟨_, Try.func106, by kernel_rfl, by kernel_rfl⟩ (vs := [Value.int .i64 key, Value.slice Av24 (2 + (List.length ([((n : Nat) : Int)] ++ zs))) cv24]) (by kernel_rfl) (v := Value.int .i64 (khash key ([d, c] ++ ([((n : Nat) : Int)] ++ zs)))) (KeyedHashS_c key Av24 (2 + (List.length ([((n : Nat) : Int)] ++ zs))) cv24 ([d, c] ++ ([((n : Nat) : Int)] ++ zs)) w23 (i64 (by omega) (by omega)) (by have h_ := all64_mac (i64 hd1 hd2) (i64 hc1 hc2) hz (by omega); rw [hln] at h_; exact h_) (by omega) ((hS23.rd (List.mem_of_getElem? (i := 0) rfl)).eqn (by omega) (by simp))) hS23 (fun w25 hS25 => hK _ _ (fun _ => hS25.drop.drop) ?_))
      clear hK K
      refine t_seg (S := (fun x_ => St w x_ [Res.box blk2 [Value.int .i64 d, Value.int .i64 c, Value.slice A n cp, Value.int .i64 m] 32])) [(11, .no)] 0 #[true, true, true, true, true, true, true, true, true, true, true, true] [(4, Value.int .i64 (khash key ([d, c] ++ ([((n : Nat) : Int)] ++ zs))))] True (by kernel_rfl) (Qpanic.then (Qpanic.then Qpanic.bp)) rfl (by kernel_rfl) trivial (hS25.drop.drop) ?_
      refine a_done (by kernel_rfl) ?_
      refine then_n ?_
      have hS25s2 : St w w25 [Res.box blk2 [Value.int .i64 d, Value.int .i64 c, Value.slice A n cp, Value.int .i64 m] 32] := (hS25.sub (List.Sublist.cons _ (List.Sublist.cons _ (List.Sublist.cons_cons _ List.Sublist.slnil))))
      exact ⟨_, FA_reset _ (agree_cons (by kernel_rfl) agree_nil), hS25s2⟩
  · skip
    rintro _ w26 ⟨g27, rfl, hS26⟩
    have hbl11 : (List.length ([((n : Nat) : Int)] ++ zs)) = (List.length zs) + 1 := by simp
    refine then_n ?_
    refine wp_ret ?_
    exact c_end (S := (fun x_ => St w x_ [Res.box blk2 [Value.int .i64 d, Value.int .i64 c, Value.slice A n cp, Value.int .i64 m] 32])) (rs := [.tmp 4]) rfl [] (v := Value.int .i64 (khash key ([d, c] ++ ([((n : Nat) : Int)] ++ zs)))) (C := True) (by kernel_rfl) trivial hS26 ((hS26.rv (congrArg (Value.int .i64) (by unfold mac8; rw [hln]))))
theorem Protect_s_c (a0 : Int) (b0 : Int) (c0 : Int) (e0A : Option Addr) (e0n e0c : Nat) (e0z : List Int) (w : World) (a0h : I64 a0) (b0h : I64 b0) (c0h : I64 c0) (e0h : Rd w w.heap.size e0A e0n (e0z.map (Value.int .u8))) (e0w : e0n ≤ 99999999) (e0o : okz .u8 e0z) : Calls Try.prog 78 #[Value.int .i64 a0, Value.int .i64 b0, Value.int .i64 c0, Value.slice e0A e0n e0c] w (Ret w (fun v new => ∃ (A0_ : Option Addr) (c0_ : Nat), v = Value.agg #[Value.int .i64 b0, Value.int .i64 c0, Value.slice A0_ (List.length (encL (dkey a0 (w2 c0 b0)) e0z)) c0_, Value.int .i64 (mac8 a0 b0 c0 (encL (dkey a0 (w2 c0 b0)) e0z))] ∧ new = [Res.row (Value.slice A0_ (List.length (encL (dkey a0 (w2 c0 b0)) e0z)) c0_) 5 1 (List.length (encL (dkey a0 (w2 c0 b0)) e0z)) ((encL (dkey a0 (w2 c0 b0)) e0z).map (Value.int .u8))])) := by
  obtain ⟨a0h1, a0h2⟩ := a0h
  obtain ⟨b0h1, b0h2⟩ := b0h
  obtain ⟨c0h1, c0h2⟩ := c0h
  obtain rfl : e0n = e0z.length := e0h.len.symm
  refine calls_FA Try.func78 rfl (n := 26) rfl (l := [(0, Value.int .i64 a0), (1, Value.int .i64 b0), (2, Value.int .i64 c0), (3, Value.slice e0A e0z.length e0c)]) rfl (by simp) (fun g => ?_)
  have hS := St.init w
  refine wp_seq ?_
  refine c_reg ?_
  refine l_op rfl rfl (fun K hK => op_alloc (d := some 8) rfl rfl [Value.int .i64 0, Value.int .i64 0, Value.slice none 0 0, Value.int .i64 0] (by kernel_rfl) hS (fun blk2 w1 hS1 => hK _ _ ?_))
  clear hK K
  refine l_nil rfl ?_
  refine then_n ?_
  refine wp_seq ?_
  refine c_reg ?_
  have hwb3 := wrap_bd (IntKind.wrap .i64 (2 * c0) + b0)
  refine q_seg (S := (fun x_ => St w x_ [Res.box blk2 [Value.int .i64 0, Value.int .i64 0, Value.slice none 0 0, Value.int .i64 0] 32])) [(16, Value.int .i64 (IntKind.wrap .i64 ((IntKind.wrap .i64 ((2 : Int) * c0)) + b0))), (15, Value.int .i64 b0), (14, Value.int .i64 (IntKind.wrap .i64 ((2 : Int) * c0))), (13, Value.int .i64 c0), (12, Value.int .i64 a0), (11, Value.int .i64 c0), (10, Value.int .i64 b0)] [.no, .no, .no, .no, .v (.int .i64 (IntKind.wrap .i64 ((2 : Int) * c0))), .no, .v (.int .i64 (IntKind.wrap .i64 ((IntKind.wrap .i64 ((2 : Int) * c0)) + b0)))] ((IntKind.wrap .i64 ((2 : Int) * c0) = (IntKind.wrap .i64 ((2 : Int) * c0))) ∧ (IntKind.wrap .i64 ((IntKind.wrap .i64 ((2 : Int) * c0)) + b0) = (IntKind.wrap .i64 ((IntKind.wrap .i64 ((2 : Int) * c0)) + b0)))) (by kernel_rfl) ⟨rfl, rfl⟩ hS1 ?_
  refine l_op rfl rfl (fun K hK => op_callv (d := some 17) rfl rfl ⟨_, Try.func80, by kernel_rfl, by kernel_rfl⟩ (vs := [Value.int .i64 a0, Value.int .i64 (IntKind.wrap .i64 ((IntKind.wrap .i64 ((2 : Int) * c0)) + b0))]) (by kernel_rfl) (v := Value.int .i64 (dkey a0 (IntKind.wrap .i64 ((IntKind.wrap .i64 ((2 : Int) * c0)) + b0)))) (DeriveKeyS_c a0 (IntKind.wrap .i64 ((IntKind.wrap .i64 ((2 : Int) * c0)) + b0)) (i64 (by omega) (by omega)) (i64 (by omega) (by omega)) _) hS1 (fun w4 hS4 => hK _ _ ?_))
  clear hK K
  have hdq5 := dkey_bd a0 (IntKind.wrap .i64 ((IntKind.wrap .i64 ((2 : Int) * c0)) + b0))
  refine q_seg (S := (fun x_ => St w x_ [Res.box blk2 [Value.int .i64 0, Value.int .i64 0, Value.slice none 0 0, Value.int .i64 0] 32])) [(18, Value.slice e0A e0z.length e0c)] [.no] True (by kernel_rfl) trivial hS4 ?_
  refine l_op rfl rfl (fun K hK => op_call (d := some 19) rfl rfl ⟨_, Try.func104, by kernel_rfl, by kernel_rfl⟩ (vs := [Value.int .i64 (dkey a0 (IntKind.wrap .i64 ((IntKind.wrap .i64 ((2 : Int) * c0)) + b0))), Value.slice e0A e0z.length e0c]) (by kernel_rfl) (Encrypt_s_c (dkey a0 (IntKind.wrap .i64 ((IntKind.wrap .i64 ((2 : Int) * c0)) + b0))) e0A e0z.length e0c e0z w4 (by omega) (i64 (by omega) (by omega)) e0o (hS4.rdlow e0h)) hS4 (fun v7 new8 w6 Rw6 hS6 => hK _ _ ?_))
  clear hK K
  obtain ⟨Aq9, cq10, rfl, rfl⟩ := Rw6
  have hel11 := encL_len (dkey a0 (IntKind.wrap .i64 ((IntKind.wrap .i64 ((2 : Int) * c0)) + b0))) e0z
  refine q_seg (S := (fun x_ => St w x_ [Res.row (Value.slice Aq9 (List.length (encL (dkey a0 (IntKind.wrap .i64 ((IntKind.wrap .i64 ((2 : Int) * c0)) + b0))) e0z)) cq10) 5 1 (List.length (encL (dkey a0 (IntKind.wrap .i64 ((IntKind.wrap .i64 ((2 : Int) * c0)) + b0))) e0z)) ((encL (dkey a0 (IntKind.wrap .i64 ((IntKind.wrap .i64 ((2 : Int) * c0)) + b0))) e0z).map (Value.int .u8)), Res.box blk2 [Value.int .i64 0, Value.int .i64 0, Value.slice none 0 0, Value.int .i64 0] 32])) [(20, Value.agg #[Value.int .i64 b0, Value.int .i64 c0, Value.slice Aq9 (List.length (encL (dkey a0 (IntKind.wrap .i64 ((IntKind.wrap .i64 ((2 : Int) * c0)) + b0))) e0z)) cq10, Value.int .i64 0])] [.no] True (by kernel_rfl) trivial hS6 ?_
  refine l_op rfl rfl (fun K hK => op_alloc (d := some 9) rfl rfl [Value.int .i64 0, Value.int .i64 0, Value.slice none 0 0, Value.int .i64 0] (by kernel_rfl) hS6 (fun blk13 w12 hS12 => hK _ _ ?_))
  clear hK K
  refine l_op rfl rfl (fun K hK => op_store (d := none) rfl rfl (i := 0) (b := blk13) (off := 0) (cs := [Value.int .i64 0, Value.int .i64 0, Value.slice none 0 0, Value.int .i64 0]) (bt := 32) (by kernel_rfl) (by kernel_rfl) [Value.int .i64 b0, Value.int .i64 c0, Value.slice Aq9 (List.length (encL (dkey a0 (IntKind.wrap .i64 ((IntKind.wrap .i64 ((2 : Int) * c0)) + b0))) e0z)) cq10, Value.int .i64 0] (by kernel_rfl) (by kernel_rfl) (Nat.le_of_ble_eq_true (by kernel_rfl)) (by kernel_rfl) [Res.box blk13 [Value.int .i64 b0, Value.int .i64 c0, Value.slice Aq9 (List.length (encL (dkey a0 (IntKind.wrap .i64 ((IntKind.wrap .i64 ((2 : Int) * c0)) + b0))) e0z)) cq10, Value.int .i64 0] 32, Res.row (Value.slice Aq9 (List.length (encL (dkey a0 (IntKind.wrap .i64 ((IntKind.wrap .i64 ((2 : Int) * c0)) + b0))) e0z)) cq10) 5 1 (List.length (encL (dkey a0 (IntKind.wrap .i64 ((IntKind.wrap .i64 ((2 : Int) * c0)) + b0))) e0z)) ((encL (dkey a0 (IntKind.wrap .i64 ((IntKind.wrap .i64 ((2 : Int) * c0)) + b0))) e0z).map (Value.int .u8)), Res.box blk2 [Value.int .i64 0, Value.int .i64 0, Value.slice none 0 0, Value.int .i64 0] 32] (by kernel_rfl) hS12 (fun w14 hS14 => hK _ _ ?_))
  clear hK K
  refine l_nil rfl ?_
  refine then_n ?_
  refine wp_seq ?_
  refine c_reg ?_
  refine q_seg (S := (fun x_ => St w x_ [Res.box blk13 [Value.int .i64 b0, Value.int .i64 c0, Value.slice Aq9 (List.length (encL (dkey a0 (IntKind.wrap .i64 ((IntKind.wrap .i64 ((2 : Int) * c0)) + b0))) e0z)) cq10, Value.int .i64 0] 32, Res.row (Value.slice Aq9 (List.length (encL (dkey a0 (IntKind.wrap .i64 ((IntKind.wrap .i64 ((2 : Int) * c0)) + b0))) e0z)) cq10) 5 1 (List.length (encL (dkey a0 (IntKind.wrap .i64 ((IntKind.wrap .i64 ((2 : Int) * c0)) + b0))) e0z)) ((encL (dkey a0 (IntKind.wrap .i64 ((IntKind.wrap .i64 ((2 : Int) * c0)) + b0))) e0z).map (Value.int .u8)), Res.box blk2 [Value.int .i64 0, Value.int .i64 0, Value.slice none 0 0, Value.int .i64 0] 32])) [(22, Value.agg #[Value.int .i64 b0, Value.int .i64 c0, Value.slice Aq9 (List.length (encL (dkey a0 (IntKind.wrap .i64 ((IntKind.wrap .i64 ((2 : Int) * c0)) + b0))) e0z)) cq10, Value.int .i64 0]), (21, Value.int .i64 a0)] [.no, .v (Value.agg #[Value.int .i64 b0, Value.int .i64 c0, Value.slice Aq9 (List.length (encL (dkey a0 (IntKind.wrap .i64 ((IntKind.wrap .i64 ((2 : Int) * c0)) + b0))) e0z)) cq10, Value.int .i64 0])] ((LoadsAt Try.prog (fun x_ => St w x_ [Res.box blk13 [Value.int .i64 b0, Value.int .i64 c0, Value.slice Aq9 (List.length (encL (dkey a0 (IntKind.wrap .i64 ((IntKind.wrap .i64 ((2 : Int) * c0)) + b0))) e0z)) cq10, Value.int .i64 0] 32, Res.row (Value.slice Aq9 (List.length (encL (dkey a0 (IntKind.wrap .i64 ((IntKind.wrap .i64 ((2 : Int) * c0)) + b0))) e0z)) cq10) 5 1 (List.length (encL (dkey a0 (IntKind.wrap .i64 ((IntKind.wrap .i64 ((2 : Int) * c0)) + b0))) e0z)) ((encL (dkey a0 (IntKind.wrap .i64 ((IntKind.wrap .i64 ((2 : Int) * c0)) + b0))) e0z).map (Value.int .u8)), Res.box blk2 [Value.int .i64 0, Value.int .i64 0, Value.slice none 0 0, Value.int .i64 0] 32]) 32 ⟨blk13, 0, none⟩ (Value.agg #[Value.int .i64 b0, Value.int .i64 c0, Value.slice Aq9 (List.length (encL (dkey a0 (IntKind.wrap .i64 ((IntKind.wrap .i64 ((2 : Int) * c0)) + b0))) e0z)) cq10, Value.int .i64 0]))) (by kernel_rfl) (ld_boxN (i := 0) (k := 4) rfl rfl rfl (by kernel_rfl)) hS14 ?_
  refine l_op rfl rfl (fun K hK => op_callv (d := some 23) rfl rfl ⟨_, Try.func103, by kernel_rfl, by kernel_rfl⟩ (vs := [Value.int .i64 a0, Value.agg #[Value.int .i64 b0, Value.int .i64 c0, Value.slice Aq9 (List.length (encL (dkey a0 (IntKind.wrap .i64 ((IntKind.wrap .i64 ((2 : Int) * c0)) + b0))) e0z)) cq10, Value.int .i64 0]]) (by kernel_rfl) (v := Value.int .i64 (mac8 a0 b0 c0 (encL (dkey a0 (IntKind.wrap .i64 ((IntKind.wrap .i64 ((2 : Int) * c0)) + b0))) e0z))) (l8Mac_s_c a0 b0 c0 Aq9 (List.length (encL (dkey a0 (IntKind.wrap .i64 ((IntKind.wrap .i64 ((2 : Int) * c0)) + b0))) e0z)) cq10 (encL (dkey a0 (IntKind.wrap .i64 ((IntKind.wrap .i64 ((2 : Int) * c0)) + b0))) e0z) (0 : Int) w14 (by omega) (i64 (by omega) (by omega)) (i64 (by omega) (by omega)) (i64 (by omega) (by omega)) (encL_ok _ _) (hS14.rd (List.mem_of_getElem? (i := 1) rfl)).u1) hS14 (fun w15 hS15 => hK _ _ ?_))
  clear hK K
  have hmb16 := mac8_bd a0 b0 c0 (encL (dkey a0 (IntKind.wrap .i64 ((IntKind.wrap .i64 ((2 : Int) * c0)) + b0))) e0z)
  refine q_seg (S := (fun x_ => St w x_ [Res.box blk13 [Value.int .i64 b0, Value.int .i64 c0, Value.slice Aq9 (List.length (encL (dkey a0 (IntKind.wrap .i64 ((IntKind.wrap .i64 ((2 : Int) * c0)) + b0))) e0z)) cq10, Value.int .i64 0] 32, Res.row (Value.slice Aq9 (List.length (encL (dkey a0 (IntKind.wrap .i64 ((IntKind.wrap .i64 ((2 : Int) * c0)) + b0))) e0z)) cq10) 5 1 (List.length (encL (dkey a0 (IntKind.wrap .i64 ((IntKind.wrap .i64 ((2 : Int) * c0)) + b0))) e0z)) ((encL (dkey a0 (IntKind.wrap .i64 ((IntKind.wrap .i64 ((2 : Int) * c0)) + b0))) e0z).map (Value.int .u8)), Res.box blk2 [Value.int .i64 0, Value.int .i64 0, Value.slice none 0 0, Value.int .i64 0] 32])) [(24, Value.pointer (some ⟨blk13, 0 + 3, none⟩))] [.no] True (by kernel_rfl) trivial hS15 ?_
  refine l_op rfl rfl (fun K hK => op_store (d := none) rfl rfl (i := 0) (b := blk13) (off := 0 + 3) (cs := [Value.int .i64 b0, Value.int .i64 c0, Value.slice Aq9 (List.length (encL (dkey a0 (IntKind.wrap .i64 ((IntKind.wrap .i64 ((2 : Int) * c0)) + b0))) e0z)) cq10, Value.int .i64 0]) (bt := 32) (by kernel_rfl) (by kernel_rfl) [Value.int .i64 (mac8 a0 b0 c0 (encL (dkey a0 (IntKind.wrap .i64 ((IntKind.wrap .i64 ((2 : Int) * c0)) + b0))) e0z))] (by kernel_rfl) (by kernel_rfl) (Nat.le_of_ble_eq_true (by kernel_rfl)) (by kernel_rfl) [Res.box blk13 [Value.int .i64 b0, Value.int .i64 c0, Value.slice Aq9 (List.length (encL (dkey a0 (IntKind.wrap .i64 ((IntKind.wrap .i64 ((2 : Int) * c0)) + b0))) e0z)) cq10, Value.int .i64 (mac8 a0 b0 c0 (encL (dkey a0 (IntKind.wrap .i64 ((IntKind.wrap .i64 ((2 : Int) * c0)) + b0))) e0z))] 32, Res.row (Value.slice Aq9 (List.length (encL (dkey a0 (IntKind.wrap .i64 ((IntKind.wrap .i64 ((2 : Int) * c0)) + b0))) e0z)) cq10) 5 1 (List.length (encL (dkey a0 (IntKind.wrap .i64 ((IntKind.wrap .i64 ((2 : Int) * c0)) + b0))) e0z)) ((encL (dkey a0 (IntKind.wrap .i64 ((IntKind.wrap .i64 ((2 : Int) * c0)) + b0))) e0z).map (Value.int .u8)), Res.box blk2 [Value.int .i64 0, Value.int .i64 0, Value.slice none 0 0, Value.int .i64 0] 32] (by kernel_rfl) hS15 (fun w17 hS17 => hK _ _ ?_))
  clear hK K
  refine l_nil rfl ?_
  refine then_n ?_
  refine wp_seq ?_
  refine c_reg ?_
  refine q_seg (S := (fun x_ => St w x_ [Res.box blk13 [Value.int .i64 b0, Value.int .i64 c0, Value.slice Aq9 (List.length (encL (dkey a0 (IntKind.wrap .i64 ((IntKind.wrap .i64 ((2 : Int) * c0)) + b0))) e0z)) cq10, Value.int .i64 (mac8 a0 b0 c0 (encL (dkey a0 (IntKind.wrap .i64 ((IntKind.wrap .i64 ((2 : Int) * c0)) + b0))) e0z))] 32, Res.row (Value.slice Aq9 (List.length (encL (dkey a0 (IntKind.wrap .i64 ((IntKind.wrap .i64 ((2 : Int) * c0)) + b0))) e0z)) cq10) 5 1 (List.length (encL (dkey a0 (IntKind.wrap .i64 ((IntKind.wrap .i64 ((2 : Int) * c0)) + b0))) e0z)) ((encL (dkey a0 (IntKind.wrap .i64 ((IntKind.wrap .i64 ((2 : Int) * c0)) + b0))) e0z).map (Value.int .u8)), Res.box blk2 [Value.int .i64 0, Value.int .i64 0, Value.slice none 0 0, Value.int .i64 0] 32])) [(25, Value.agg #[Value.int .i64 b0, Value.int .i64 c0, Value.slice Aq9 (List.length (encL (dkey a0 (IntKind.wrap .i64 ((IntKind.wrap .i64 ((2 : Int) * c0)) + b0))) e0z)) cq10, Value.int .i64 (mac8 a0 b0 c0 (encL (dkey a0 (IntKind.wrap .i64 ((IntKind.wrap .i64 ((2 : Int) * c0)) + b0))) e0z))])] [.v (Value.agg #[Value.int .i64 b0, Value.int .i64 c0, Value.slice Aq9 (List.length (encL (dkey a0 (IntKind.wrap .i64 ((IntKind.wrap .i64 ((2 : Int) * c0)) + b0))) e0z)) cq10, Value.int .i64 (mac8 a0 b0 c0 (encL (dkey a0 (IntKind.wrap .i64 ((IntKind.wrap .i64 ((2 : Int) * c0)) + b0))) e0z))])] ((LoadsAt Try.prog (fun x_ => St w x_ [Res.box blk13 [Value.int .i64 b0, Value.int .i64 c0, Value.slice Aq9 (List.length (encL (dkey a0 (IntKind.wrap .i64 ((IntKind.wrap .i64 ((2 : Int) * c0)) + b0))) e0z)) cq10, Value.int .i64 (mac8 a0 b0 c0 (encL (dkey a0 (IntKind.wrap .i64 ((IntKind.wrap .i64 ((2 : Int) * c0)) + b0))) e0z))] 32, Res.row (Value.slice Aq9 (List.length (encL (dkey a0 (IntKind.wrap .i64 ((IntKind.wrap .i64 ((2 : Int) * c0)) + b0))) e0z)) cq10) 5 1 (List.length (encL (dkey a0 (IntKind.wrap .i64 ((IntKind.wrap .i64 ((2 : Int) * c0)) + b0))) e0z)) ((encL (dkey a0 (IntKind.wrap .i64 ((IntKind.wrap .i64 ((2 : Int) * c0)) + b0))) e0z).map (Value.int .u8)), Res.box blk2 [Value.int .i64 0, Value.int .i64 0, Value.slice none 0 0, Value.int .i64 0] 32]) 32 ⟨blk13, 0, none⟩ (Value.agg #[Value.int .i64 b0, Value.int .i64 c0, Value.slice Aq9 (List.length (encL (dkey a0 (IntKind.wrap .i64 ((IntKind.wrap .i64 ((2 : Int) * c0)) + b0))) e0z)) cq10, Value.int .i64 (mac8 a0 b0 c0 (encL (dkey a0 (IntKind.wrap .i64 ((IntKind.wrap .i64 ((2 : Int) * c0)) + b0))) e0z))]))) (by kernel_rfl) (ld_boxN (i := 0) (k := 4) rfl rfl rfl (by kernel_rfl)) hS17 ?_
  refine l_op rfl rfl (fun K hK => op_store (d := none) rfl rfl (i := 2) (b := blk2) (off := 0) (cs := [Value.int .i64 0, Value.int .i64 0, Value.slice none 0 0, Value.int .i64 0]) (bt := 32) (by kernel_rfl) (by kernel_rfl) [Value.int .i64 b0, Value.int .i64 c0, Value.slice Aq9 (List.length (encL (dkey a0 (IntKind.wrap .i64 ((IntKind.wrap .i64 ((2 : Int) * c0)) + b0))) e0z)) cq10, Value.int .i64 (mac8 a0 b0 c0 (encL (dkey a0 (IntKind.wrap .i64 ((IntKind.wrap .i64 ((2 : Int) * c0)) + b0))) e0z))] (by kernel_rfl) (by kernel_rfl) (Nat.le_of_ble_eq_true (by kernel_rfl)) (by kernel_rfl) [Res.box blk13 [Value.int .i64 b0, Value.int .i64 c0, Value.slice Aq9 (List.length (encL (dkey a0 (IntKind.wrap .i64 ((IntKind.wrap .i64 ((2 : Int) * c0)) + b0))) e0z)) cq10, Value.int .i64 (mac8 a0 b0 c0 (encL (dkey a0 (IntKind.wrap .i64 ((IntKind.wrap .i64 ((2 : Int) * c0)) + b0))) e0z))] 32, Res.row (Value.slice Aq9 (List.length (encL (dkey a0 (IntKind.wrap .i64 ((IntKind.wrap .i64 ((2 : Int) * c0)) + b0))) e0z)) cq10) 5 1 (List.length (encL (dkey a0 (IntKind.wrap .i64 ((IntKind.wrap .i64 ((2 : Int) * c0)) + b0))) e0z)) ((encL (dkey a0 (IntKind.wrap .i64 ((IntKind.wrap .i64 ((2 : Int) * c0)) + b0))) e0z).map (Value.int .u8)), Res.box blk2 [Value.int .i64 b0, Value.int .i64 c0, Value.slice Aq9 (List.length (encL (dkey a0 (IntKind.wrap .i64 ((IntKind.wrap .i64 ((2 : Int) * c0)) + b0))) e0z)) cq10, Value.int .i64 (mac8 a0 b0 c0 (encL (dkey a0 (IntKind.wrap .i64 ((IntKind.wrap .i64 ((2 : Int) * c0)) + b0))) e0z))] 32] (by kernel_rfl) hS17 (fun w18 hS18 => hK _ _ ?_))
  clear hK K
  refine l_nil rfl ?_
  refine then_n ?_
  refine wp_ret ?_
  have hS18s1 : St w w18 [Res.row (Value.slice Aq9 (List.length (encL (dkey a0 (IntKind.wrap .i64 ((IntKind.wrap .i64 ((2 : Int) * c0)) + b0))) e0z)) cq10) 5 1 (List.length (encL (dkey a0 (IntKind.wrap .i64 ((IntKind.wrap .i64 ((2 : Int) * c0)) + b0))) e0z)) ((encL (dkey a0 (IntKind.wrap .i64 ((IntKind.wrap .i64 ((2 : Int) * c0)) + b0))) e0z).map (Value.int .u8))] := (hS18.sub (List.Sublist.cons _ (List.Sublist.cons_cons _ (List.Sublist.cons _ List.Sublist.slnil))))
  exact c_end (S := (fun x_ => St w x_ [Res.box blk13 [Value.int .i64 b0, Value.int .i64 c0, Value.slice Aq9 (List.length (encL (dkey a0 (IntKind.wrap .i64 ((IntKind.wrap .i64 ((2 : Int) * c0)) + b0))) e0z)) cq10, Value.int .i64 (mac8 a0 b0 c0 (encL (dkey a0 (IntKind.wrap .i64 ((IntKind.wrap .i64 ((2 : Int) * c0)) + b0))) e0z))] 32, Res.row (Value.slice Aq9 (List.length (encL (dkey a0 (IntKind.wrap .i64 ((IntKind.wrap .i64 ((2 : Int) * c0)) + b0))) e0z)) cq10) 5 1 (List.length (encL (dkey a0 (IntKind.wrap .i64 ((IntKind.wrap .i64 ((2 : Int) * c0)) + b0))) e0z)) ((encL (dkey a0 (IntKind.wrap .i64 ((IntKind.wrap .i64 ((2 : Int) * c0)) + b0))) e0z).map (Value.int .u8)), Res.box blk2 [Value.int .i64 b0, Value.int .i64 c0, Value.slice Aq9 (List.length (encL (dkey a0 (IntKind.wrap .i64 ((IntKind.wrap .i64 ((2 : Int) * c0)) + b0))) e0z)) cq10, Value.int .i64 (mac8 a0 b0 c0 (encL (dkey a0 (IntKind.wrap .i64 ((IntKind.wrap .i64 ((2 : Int) * c0)) + b0))) e0z))] 32])) (rs := [.cell 8 32]) rfl [Value.agg #[Value.int .i64 b0, Value.int .i64 c0, Value.slice Aq9 (List.length (encL (dkey a0 (IntKind.wrap .i64 ((IntKind.wrap .i64 ((2 : Int) * c0)) + b0))) e0z)) cq10, Value.int .i64 (mac8 a0 b0 c0 (encL (dkey a0 (IntKind.wrap .i64 ((IntKind.wrap .i64 ((2 : Int) * c0)) + b0))) e0z))]] (v := Value.agg #[Value.int .i64 b0, Value.int .i64 c0, Value.slice Aq9 (List.length (encL (dkey a0 (IntKind.wrap .i64 ((IntKind.wrap .i64 ((2 : Int) * c0)) + b0))) e0z)) cq10, Value.int .i64 (mac8 a0 b0 c0 (encL (dkey a0 (IntKind.wrap .i64 ((IntKind.wrap .i64 ((2 : Int) * c0)) + b0))) e0z))]) (C := ((LoadsAt Try.prog (fun x_ => St w x_ [Res.box blk13 [Value.int .i64 b0, Value.int .i64 c0, Value.slice Aq9 (List.length (encL (dkey a0 (IntKind.wrap .i64 ((IntKind.wrap .i64 ((2 : Int) * c0)) + b0))) e0z)) cq10, Value.int .i64 (mac8 a0 b0 c0 (encL (dkey a0 (IntKind.wrap .i64 ((IntKind.wrap .i64 ((2 : Int) * c0)) + b0))) e0z))] 32, Res.row (Value.slice Aq9 (List.length (encL (dkey a0 (IntKind.wrap .i64 ((IntKind.wrap .i64 ((2 : Int) * c0)) + b0))) e0z)) cq10) 5 1 (List.length (encL (dkey a0 (IntKind.wrap .i64 ((IntKind.wrap .i64 ((2 : Int) * c0)) + b0))) e0z)) ((encL (dkey a0 (IntKind.wrap .i64 ((IntKind.wrap .i64 ((2 : Int) * c0)) + b0))) e0z).map (Value.int .u8)), Res.box blk2 [Value.int .i64 b0, Value.int .i64 c0, Value.slice Aq9 (List.length (encL (dkey a0 (IntKind.wrap .i64 ((IntKind.wrap .i64 ((2 : Int) * c0)) + b0))) e0z)) cq10, Value.int .i64 (mac8 a0 b0 c0 (encL (dkey a0 (IntKind.wrap .i64 ((IntKind.wrap .i64 ((2 : Int) * c0)) + b0))) e0z))] 32]) 32 ⟨blk2, 0, none⟩ (Value.agg #[Value.int .i64 b0, Value.int .i64 c0, Value.slice Aq9 (List.length (encL (dkey a0 (IntKind.wrap .i64 ((IntKind.wrap .i64 ((2 : Int) * c0)) + b0))) e0z)) cq10, Value.int .i64 (mac8 a0 b0 c0 (encL (dkey a0 (IntKind.wrap .i64 ((IntKind.wrap .i64 ((2 : Int) * c0)) + b0))) e0z))])))) (by kernel_rfl) (ld_boxN (i := 2) (k := 4) rfl rfl rfl (by kernel_rfl)) hS18 (by exact hS18s1.rt ⟨_, _, rfl, rfl⟩)
end Go.Proofs.Ytfkeiegajaofdaa
