/-
  Contracts of InRange, Mod, CeilDiv and the hash.
-/
import Derived.Test.YtihecjcbgnpakaaPlain2
namespace Go.Proofs.Ytihecjcbgnpakaa
open Go.RowKit
set_option maxRecDepth 100000

theorem InRange_c (n a b : Int) (w : World) : Calls Try.prog 33 #[.int .i64 n, .int .i64 a, .int .i64 b] w (RetV w (.bool (inR n a b))) := by
  refine calls_FA Try.func33 rfl (n := 15) rfl (l := [(0, Value.int .i64 n), (1, Value.int .i64 a), (2, Value.int .i64 b)]) rfl (by simp) (fun g => ?_)
  have hS := St.init w
  refine wp_seq ?_
  refine c_reg ?_
  refine q_seg (S := (fun x_ => St w x_ [])) [(6, Value.bool false)] [.no] True (by kernel_rfl) trivial hS ?_
  refine l_nil rfl ?_
  refine then_n ?_
  refine wp_seq ?_
  refine c_reg ?_
  refine q_seg (S := (fun x_ => St w x_ [])) [(10, Value.bool (decide (a ≤ n))), (9, Value.bool (decide (a ≤ n))), (8, Value.int .i64 n), (7, Value.int .i64 a)] [.no, .no, .no, .no] True (by kernel_rfl) trivial hS ?_
  rcases Bool.eq_false_or_eq_true (decide (a ≤ n)) with hb1 | hb1
  · skip
    have hb1p := of_decide_eq_true hb1
    refine q_seg (S := (fun x_ => St w x_ [])) [(6, Value.bool (decide (n ≤ b))), (14, Value.bool (decide (n ≤ b))), (13, Value.bool (decide (n ≤ b))), (12, Value.int .i64 b), (11, Value.int .i64 n)] [.no, .no, .no, .v (.bool true), .no] (((decide (a ≤ n)) = true) ∧ ((decide (a ≤ n)) = true) ∧ ((decide (a ≤ n)) = true) ∧ ((decide (a ≤ n)) = true)) (by kernel_rfl) ⟨hb1, hb1, hb1, hb1⟩ hS ?_
    refine l_nil rfl ?_
    refine then_n ?_
    refine wp_ret ?_
    exact c_end (S := (fun x_ => St w x_ [])) (rs := [.tmp 6]) rfl [] (v := Value.bool (decide (n ≤ b))) (C := True) (by kernel_rfl) trivial hS ((hS.rv (by simp [inR, *])))
  · skip
    have hb1p := of_decide_eq_false hb1
    refine q_seg (S := (fun x_ => St w x_ [])) [(6, Value.bool false), (14, Value.bool false), (13, undef), (12, undef), (11, undef)] [.skip, .skip, .skip, .v (.bool false), .no] (((decide (a ≤ n)) = !true) ∧ ((decide (a ≤ n)) = !true) ∧ ((decide (a ≤ n)) = !true) ∧ ((decide (a ≤ n)) = false)) (by kernel_rfl) ⟨hb1, hb1, hb1, hb1⟩ hS ?_
    refine l_nil rfl ?_
    refine then_n ?_
    refine wp_ret ?_
    exact c_end (S := (fun x_ => St w x_ [])) (rs := [.tmp 6]) rfl [] (v := Value.bool false) (C := True) (by kernel_rfl) trivial hS ((hS.rv (by simp [inR, *])))
theorem l1In_c (n a b : Int) (w : World) : Calls Try.prog 37 #[.int .i64 n, .int .i64 a, .int .i64 b] w (RetV w (.bool (inR n a b))) := by
  refine calls_FA Try.func37 rfl (n := 15) rfl (l := [(0, Value.int .i64 n), (1, Value.int .i64 a), (2, Value.int .i64 b)]) rfl (by simp) (fun g => ?_)
  have hS := St.init w
  refine wp_seq ?_
  refine c_reg ?_
  refine q_seg (S := (fun x_ => St w x_ [])) [(6, Value.bool false)] [.no] True (by kernel_rfl) trivial hS ?_
  refine l_nil rfl ?_
  refine then_n ?_
  refine wp_seq ?_
  refine c_reg ?_
  refine q_seg (S := (fun x_ => St w x_ [])) [(10, Value.bool (decide (a ≤ n))), (9, Value.bool (decide (a ≤ n))), (8, Value.int .i64 a), (7, Value.int .i64 n)] [.no, .no, .no, .no] True (by kernel_rfl) trivial hS ?_
  rcases Bool.eq_false_or_eq_true (decide (a ≤ n)) with hb1 | hb1
  · skip
    have hb1p := of_decide_eq_true hb1
    refine q_seg (S := (fun x_ => St w x_ [])) [(6, Value.bool (decide (n ≤ b))), (14, Value.bool (decide (n ≤ b))), (13, Value.bool (decide (n ≤ b))), (12, Value.int .i64 b), (11, Value.int .i64 n)] [.no, .no, .no, .v (.bool true), .no] (((decide (a ≤ n)) = true) ∧ ((decide (a ≤ n)) = true) ∧ ((decide (a ≤ n)) = true) ∧ ((decide (a ≤ n)) = true)) (by kernel_rfl) ⟨hb1, hb1, hb1, hb1⟩ hS ?_
    refine l_nil rfl ?_
    refine then_n ?_
    refine wp_ret ?_
    exact c_end (S := (fun x_ => St w x_ [])) (rs := [.tmp 6]) rfl [] (v := Value.bool (decide (n ≤ b))) (C := True) (by kernel_rfl) trivial hS ((hS.rv (by simp [inR, *])))
  · skip
    have hb1p := of_decide_eq_false hb1
    refine q_seg (S := (fun x_ => St w x_ [])) [(6, Value.bool false), (14, Value.bool false), (13, undef), (12, undef), (11, undef)] [.skip, .skip, .skip, .v (.bool false), .no] (((decide (a ≤ n)) = !true) ∧ ((decide (a ≤ n)) = !true) ∧ ((decide (a ≤ n)) = !true) ∧ ((decide (a ≤ n)) = false)) (by kernel_rfl) ⟨hb1, hb1, hb1, hb1⟩ hS ?_
    refine l_nil rfl ?_
    refine then_n ?_
    refine wp_ret ?_
    exact c_end (S := (fun x_ => St w x_ [])) (rs := [.tmp 6]) rfl [] (v := Value.bool false) (C := True) (by kernel_rfl) trivial hS ((hS.rv (by simp [inR, *])))
theorem ModS_c (p q : Int) (hp : I64 p) (hq : I64 q) (w : World) : Calls Try.prog 49 #[.int .i64 p, .int .i64 q] w (RetV w (.int .i64 (gmod p q))) := by
  obtain ⟨hp1, hp2⟩ := hp
  obtain ⟨hq1, hq2⟩ := hq
  refine calls_FA Try.func49 rfl (n := 15) rfl (l := [(0, Value.int .i64 p), (1, Value.int .i64 q)]) rfl (by simp) (fun g => ?_)
  have hS := St.init w
  refine wp_seq ?_
  refine c_reg ?_
  refine q_seg (S := (fun x_ => St w x_ [])) [(4, Value.int .i64 0)] [.no] True (by kernel_rfl) trivial hS ?_
  refine l_nil rfl ?_
  refine then_n ?_
  refine wp_seq ?_
  refine wp_seq ?_
  refine c_reg ?_
  refine q_seg (S := (fun x_ => St w x_ [])) [(5, Value.int .i64 q)] [.no] True (by kernel_rfl) trivial hS ?_
  refine l_op rfl rfl (fun K hK => op_callv (d := some 6) rfl rfl ⟨_, Try.func37, by kernel_rfl, by kernel_rfl⟩ (vs := [Value.int .i64 q, Value.int .i64 1, Value.int .i64 1000000000000]) (by kernel_rfl) (v := Value.bool (inR q 1 1000000000000)) (l1In_c q 1 1000000000000 _) hS (fun w1 hS1 => hK _ _ ?_))
  clear hK K
  refine q_seg (S := (fun x_ => St w x_ [])) [(7, Value.bool (!(inR q 1 1000000000000)))] [.no] True (by kernel_rfl) trivial hS1 ?_
  refine l_nil rfl ?_
  refine then_n ?_
  rcases Bool.eq_false_or_eq_true (inR q 1 1000000000000) with hb2 | hb2
  · skip
    obtain ⟨hb2p, hb2q⟩ := inR_iff.1 hb2
    obtain ⟨hq3, hq4⟩ := inR_iff.1 hb2
    have lo := tmod_lo (p := p) hq3
    have hi := tmod_hi (p := p) hq3
    have hg : gmod p q = p % q := if_pos ⟨hq3, hq4⟩
    refine c_false (b := (!(inR q 1 1000000000000))) (by kernel_rfl) (nb (v := true) hb2) ?_
    refine wp_skip ?_
    refine then_n ?_
    refine wp_seq ?_
    refine c_reg ?_
    refine q_seg (S := (fun x_ => St w x_ [])) [(4, Value.int .i64 (p % q)), (14, Value.int .i64 (p % q)), (13, Value.int .i64 q), (12, Value.int .i64 ((Int.tmod p q) + q)), (11, Value.int .i64 q), (10, Value.int .i64 (Int.tmod p q)), (9, Value.int .i64 q), (8, Value.int .i64 p)] [.no, .no, .v (.int .i64 (Int.tmod p q)), .no, .no, .no, .v (.int .i64 (p % q)), .no] ((q ≠ 0) ∧ (Int.tmod p q = (Int.tmod p q)) ∧ (InK .i64 ((Int.tmod p q) + q)) ∧ (q ≠ 0) ∧ (Int.tmod ((Int.tmod p q) + q) q = (p % q))) (by kernel_rfl) ⟨(by omega), rfl, (in64 (by omega) (by omega)), (by omega), (tmod_spec hq3)⟩ hS1 ?_
    refine l_nil rfl ?_
    refine then_n ?_
    refine wp_ret ?_
    exact c_end (S := (fun x_ => St w x_ [])) (rs := [.tmp 4]) rfl [] (v := Value.int .i64 (p % q)) (C := True) (by kernel_rfl) trivial hS1 ((hS1.rv (by first | (rw [hg]; done) | (simp [gmod]; intro h1 h2; have := inR_true h1 h2; simp_all))))
  · skip
    have hb2p := inR_neg hb2
    refine c_true (b := (!(inR q 1 1000000000000))) (by kernel_rfl) (nb (v := false) hb2) ?_
    refine wp_seq ?_
    refine c_reg ?_
    refine q_seg (S := (fun x_ => St w x_ [])) [(4, Value.int .i64 0)] [.no] True (by kernel_rfl) trivial hS1 ?_
    refine l_nil rfl ?_
    refine then_n ?_
    refine wp_ret ?_
    refine then_r ?_
    exact c_end (S := (fun x_ => St w x_ [])) (rs := [.tmp 4]) rfl [] (v := Value.int .i64 0) (C := True) (by kernel_rfl) trivial hS1 ((hS1.rv (by first | (rw [hg]; done) | (simp [gmod]; intro h1 h2; have := inR_true h1 h2; simp_all))))
theorem HashS_c (A : Option Addr) (n c : Nat) (zs : List Int) (w : World) (hz : ∀ z ∈ zs, I64 z) (hn : n ≤ 9223372036854775807) (hr : Rd w w.heap.size A n (zs.map (Value.int .i64))) : Calls Try.prog 51 #[.slice A n c] w (RetV w (.int .i64 (hfold zs 11))) := by
  refine calls_FA Try.func51 rfl (n := 22) rfl (l := [(0, Value.slice A n c)]) rfl (by simp) (fun g => ?_)
  have hS := St.init w
  refine wp_seq ?_
  refine c_reg ?_
  refine q_seg (S := (fun x_ => St w x_ [])) [(2, Value.int .i64 0)] [.no] True (by kernel_rfl) trivial hS ?_
  refine l_nil rfl ?_
  refine then_n ?_
  refine wp_seq ?_
  refine c_reg ?_
  refine q_seg (S := (fun x_ => St w x_ [])) [(3, Value.int .i64 11)] [.no] True (by kernel_rfl) trivial hS ?_
  refine l_nil rfl ?_
  refine then_n ?_
  refine wp_seq ?_
  refine wp_seq ?_
  refine c_reg ?_
  refine q_seg (S := (fun x_ => St w x_ [])) [(4, Value.int .i64 0)] [.no] True (by kernel_rfl) trivial hS ?_
  refine l_nil rfl ?_
  refine then_n ?_
  refine wp_block ?_
  refine c_loop (X := Nat) (fun (k : Nat) => [(0, Value.slice A n c), (4, Value.int .i64 ((k : Nat) : Int)), (3, Value.int .i64 (hfold (zs.take k) 11))]) (fun (k : Nat) (wr : World) => (k ≤ n) ∧ St w wr []) (fun (k : Nat) => n - k) 0 ?_ ?_ ?_
  · exact (agree_cons (by kernel_rfl) (agree_cons (by kernel_rfl) (agree_cons (by kernel_rfl) agree_nil)))
  · exact ⟨Nat.zero_le _, hS⟩
  rintro k g2 w1 ⟨hkn, hS1⟩
  have hb := hfold_bd (zs.take k) 11 (by decide) (by decide)
  refine wp_seq ?_
  refine wp_seq ?_
  refine c_reg ?_
  refine q_seg (S := (fun x_ => St w x_ [])) [(8, Value.bool (decide (((k : Nat) : Int) < ((n : Nat) : Int)))), (7, Value.int .i64 ((n : Nat) : Int)), (6, Value.slice A n c), (5, Value.int .i64 ((k : Nat) : Int))] [.no, .no, .no, .no] True (by kernel_rfl) trivial hS1 ?_
  refine l_nil rfl ?_
  refine then_n ?_
  rcases Bool.eq_false_or_eq_true (decide (((k : Nat) : Int) < ((n : Nat) : Int))) with hb3 | hb3
  · skip
    have hb3p := of_decide_eq_true hb3
    obtain ⟨b, off, rfl, hbB, hcl⟩ := hr.2 (by omega)
    obtain ⟨z, hzk, hzm⟩ := get_of_lt (l := zs) (k := k) (by have := hr.len; omega)
    obtain ⟨hz1, hz2⟩ := hz _ hzm
    have hg := gmod_bd z
    refine c_true (b := (decide (((k : Nat) : Int) < ((n : Nat) : Int)))) (by kernel_rfl) hb3 ?_
    refine wp_skip ?_
    refine then_n ?_
    refine wp_seq ?_
    refine wp_block ?_
    refine c_reg ?_
    refine q_seg (S := (fun x_ => St w x_ [])) [(16, Value.int .i64 z), (15, Value.pointer (some ⟨b, off + Int.toNat ((k : Nat) : Int) * 1, none⟩)), (14, Value.int .i64 ((k : Nat) : Int)), (13, Value.slice (some ⟨b, off, none⟩) n c), (12, Value.int .i64 ((hfold (zs.take k) 11) * (1000003 : Int))), (11, Value.int .i64 (hfold (zs.take k) 11))] [.no, .no, .no, .no, .no, .v (Value.int .i64 z)] ((InK .i64 ((hfold (zs.take k) 11) * (1000003 : Int))) ∧ ((0 : Int) ≤ ((k : Nat) : Int)) ∧ (((k : Nat) : Int) < ((n : Nat) : Int)) ∧ (LoadsAt Try.prog (fun x_ => St w x_ []) 3 ⟨b, off + Int.toNat ((k : Nat) : Int) * 1, none⟩ (Value.int .i64 z))) (by kernel_rfl) ⟨(in64 (by omega) (by omega)), (by omega), (by omega), (ld_low (hcl _ _ (by simp [hzk])) (by kernel_rfl))⟩ hS1 ?_
    refine l_op rfl rfl (fun K hK => op_callv (d := some 17) rfl rfl ⟨_, Try.func49, by kernel_rfl, by kernel_rfl⟩ (vs := [Value.int .i64 z, Value.int .i64 2147483647]) (by kernel_rfl) (v := Value.int .i64 (gmod z 2147483647)) (ModS_c z 2147483647 (i64 (by omega) (by omega)) (i64 (by omega) (by omega)) _) hS1 (fun w4 hS4 => hK _ _ ?_))
    clear hK K
    refine q_seg (S := (fun x_ => St w x_ [])) [(3, Value.int .i64 (((((hfold (zs.take k) 11) * (1000003 : Int)) + (gmod z 2147483647)) + (13 : Int)) % (2147483647 : Int))), (20, Value.int .i64 (((((hfold (zs.take k) 11) * (1000003 : Int)) + (gmod z 2147483647)) + (13 : Int)) % (2147483647 : Int))), (19, Value.int .i64 ((((hfold (zs.take k) 11) * (1000003 : Int)) + (gmod z 2147483647)) + (13 : Int))), (18, Value.int .i64 (((hfold (zs.take k) 11) * (1000003 : Int)) + (gmod z 2147483647)))] [.no, .no, .no, .no] ((InK .i64 (((hfold (zs.take k) 11) * (1000003 : Int)) + (gmod z 2147483647))) ∧ (InK .i64 ((((hfold (zs.take k) 11) * (1000003 : Int)) + (gmod z 2147483647)) + (13 : Int))) ∧ ((0 : Int) ≤ ((((hfold (zs.take k) 11) * (1000003 : Int)) + (gmod z 2147483647)) + (13 : Int))) ∧ ((0 : Int) < (2147483647 : Int))) (by kernel_rfl) ⟨(in64 (by omega) (by omega)), (in64 (by omega) (by omega)), (by omega), (by omega)⟩ hS4 ?_
    refine l_nil rfl ?_
    refine blk_n ?_
    refine then_n ?_
    refine c_reg ?_
    refine q_seg (S := (fun x_ => St w x_ [])) [(4, Value.int .i64 (((k : Nat) : Int) + (1 : Int))), (10, Value.int .i64 (((k : Nat) : Int) + (1 : Int))), (9, Value.int .i64 ((k : Nat) : Int))] [.no, .no, .no] ((InK .i64 (((k : Nat) : Int) + (1 : Int)))) (by kernel_rfl) (in64 (by omega) (by omega)) hS4 ?_
    refine l_nil rfl ?_
    refine then_n ?_
    refine round_end (k + 1) ?_ ?_ ?_
    · exact (agree_cons (by kernel_rfl) (agree_cons (by kernel_rfl) (agree_eq (v0 := Value.int .i64 (((((hfold (zs.take k) 11) * (1000003 : Int)) + (gmod z 2147483647)) + (13 : Int)) % (2147483647 : Int))) (by kernel_rfl) (congrArg (Value.int .i64) (by rw [hfold_get hzk, gmod_M]; rfl)) agree_nil)))
    · exact ⟨(by omega), hS4⟩
    · exact (by first | omega | (dsimp only; omega))
  · skip
    have hb3p := of_decide_eq_false hb3
    refine c_false (b := (decide (((k : Nat) : Int) < ((n : Nat) : Int)))) (by kernel_rfl) hb3 ?_
    refine wp_exit ?_
    refine then_x ?_
    refine then_x ?_
    refine blk_hit ?_
    refine then_n ?_
    refine wp_seq ?_
    refine c_reg ?_
    refine q_seg (S := (fun x_ => St w x_ [])) [(2, Value.int .i64 (hfold (zs.take k) 11)), (21, Value.int .i64 (hfold (zs.take k) 11))] [.no, .no] True (by kernel_rfl) trivial hS1 ?_
    refine l_nil rfl ?_
    refine then_n ?_
    refine wp_ret ?_
    exact c_end (S := (fun x_ => St w x_ [])) (rs := [.tmp 2]) rfl [] (v := Value.int .i64 (hfold (zs.take k) 11)) (C := True) (by kernel_rfl) trivial hS1 ((hS1.rv (by rw [take_all (by have := hr.len; omega)])))
theorem KeyedHashS_c (key : Int) (A : Option Addr) (n c : Nat) (zs : List Int) (w : World) (hk : I64 key) (hz : ∀ z ∈ zs, I64 z) (hn : n ≤ 1000000000000) (hr : Rd w w.heap.size A n (zs.map (Value.int .i64))) : Calls Try.prog 50 #[.int .i64 key, .slice A n c] w (RetV w (.int .i64 (khash key zs))) := by
  obtain ⟨hk1, hk2⟩ := hk
  have HZ : ∀ z ∈ [key] ++ zs ++ [key], I64 z := all64_snoc (i64 hk1 hk2) (all64_cons (i64 hk1 hk2) hz)
  refine calls_FA Try.func50 rfl (n := 13) rfl (l := [(0, Value.int .i64 key), (1, Value.slice A n c)]) rfl (by simp) (fun g => ?_)
  have hS := St.init w
  refine wp_seq ?_
  refine c_reg ?_
  refine q_seg (S := (fun x_ => St w x_ [])) [(4, Value.int .i64 0)] [.no] True (by kernel_rfl) trivial hS ?_
  refine l_nil rfl ?_
  refine then_n ?_
  refine wp_seq ?_
  refine c_reg ?_
  refine q_seg (S := (fun x_ => St w x_ [])) [(5, Value.int .i64 key)] [.no] True (by kernel_rfl) trivial hS ?_
  refine l_op rfl rfl (fun K hK => op_buildSlice (d := some 6) rfl rfl (e := 3) (by kernel_rfl) 1 (by kernel_rfl) (by decide) (by decide) [Value.int .i64 key] (by kernel_rfl) rfl hS (fun blk2 w1 hS1 => hK _ _ ?_))
  clear hK K
  refine q_seg (S := (fun x_ => St w x_ [Res.row (Value.slice (some ⟨blk2, 0, none⟩) 1 1) 3 1 1 ([Value.int .i64 key])])) [(7, Value.slice A n c)] [.no] True (by kernel_rfl) trivial hS1 ?_
  refine l_op rfl rfl (fun K hK => op_append (d := some 8) rfl rfl elInt hS1 (i := 0) rfl rfl rfl (news := (zs.map (Value.int .i64))) (hS1.rdlow hr).m1 (ints_one _ _) (by omega) (by omega) (fun v4 w3 hS3 => hK _ _ ?_))
  clear hK K
  obtain ⟨hlv4, Av4, cv4, hvv4, hnv4, hmv4⟩ := hS3.row_slice (List.mem_of_getElem? (i := 0) rfl)
  subst hvv4
  refine q_seg (S := (fun x_ => St w x_ [Res.row (Value.slice Av4 (1 + n) cv4) 3 1 (1 + n) ([Value.int .i64 key] ++ (zs.map (Value.int .i64)))])) [(9, Value.int .i64 key)] [.no] True (by kernel_rfl) trivial hS3 ?_
  refine l_op rfl rfl (fun K hK => op_buildSlice (d := some 10) rfl rfl (e := 3) (by kernel_rfl) 1 (by kernel_rfl) (by decide) (by decide) [Value.int .i64 key] (by kernel_rfl) rfl hS3 (fun blk6 w5 hS5 => hK _ _ ?_))
  clear hK K
  refine l_op rfl rfl (fun K hK => op_append (d := some 11) rfl rfl elInt hS5 (i := 1) rfl rfl rfl (news := [Value.int .i64 key]) (hS5.rd (List.mem_of_getElem? (i := 0) rfl)) (all_one (by rfl)) (by omega) (by omega) (fun v8 w7 hS7 => hK _ _ ?_))
  clear hK K
  obtain ⟨hlv8, Av8, cv8, hvv8, hnv8, hmv8⟩ := hS7.row_slice (List.mem_of_getElem? (i := 1) rfl)
  subst hvv8
  refine l_op rfl rfl (fun K hK => op_callv (d := some 12) rfl rfl ⟨_, Try.func51, by kernel_rfl, by kernel_rfl⟩ (vs := [Value.slice Av8 ((1 + n) + 1) cv8]) (by kernel_rfl) (v := Value.int .i64 (hfold ([key] ++ zs ++ [key]) 11)) (HashS_c _ _ _ ([key] ++ zs ++ [key]) w7 HZ (by omega) ((hS7.rd (List.mem_of_getElem? (i := 1) rfl)).eqn (by omega) (by simp))) hS7 (fun w9 hS9 => hK _ _ ?_))
  clear hK K
  refine q_seg (S := (fun x_ => St w x_ [Res.row (Value.slice (some ⟨blk6, 0, none⟩) 1 1) 3 1 1 ([Value.int .i64 key]), Res.row (Value.slice Av8 ((1 + n) + 1) cv8) 3 1 ((1 + n) + 1) (([Value.int .i64 key] ++ (zs.map (Value.int .i64))) ++ [Value.int .i64 key])])) [(4, Value.int .i64 (hfold ([key] ++ zs ++ [key]) 11))] [.no] True (by kernel_rfl) trivial hS9 ?_
  refine l_nil rfl ?_
  refine then_n ?_
  refine wp_ret ?_
  exact c_end (S := (fun x_ => St w x_ [Res.row (Value.slice (some ⟨blk6, 0, none⟩) 1 1) 3 1 1 ([Value.int .i64 key]), Res.row (Value.slice Av8 ((1 + n) + 1) cv8) 3 1 ((1 + n) + 1) (([Value.int .i64 key] ++ (zs.map (Value.int .i64))) ++ [Value.int .i64 key])])) (rs := [.tmp 4]) rfl [] (v := Value.int .i64 (hfold ([key] ++ zs ++ [key]) 11)) (C := True) (by kernel_rfl) trivial hS9 ((hS9.rv (by rw [← khash_eq])))
end Go.Proofs.Ytihecjcbgnpakaa
