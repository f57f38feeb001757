/-
  Draws of the server pool.
-/
import Derived.Test.YtidefcakodnffaaGPo
namespace Go.Proofs.Ytidefcakodnffaa
open Go.RowKit
set_option maxRecDepth 100000

theorem l22Draw_s_c (b : Nat) (A : Option Addr) (n c : Nat) (i h : Int)  (tl : List Res) (w0 w : World) (hS : St w0 w (Res.box b [Value.slice A n c, Value.int .i64 i, Value.int .i64 h] 56 :: tl)) (hC : CurI w0 A n i)  : Calls Try.prog 44 #[.pointer (some ⟨b, 0, none⟩)] w (fun e w' => ∃ v own', e = .returned v ∧ St w0 w' own' ∧ (∃ (i' h' : Int) (s_ : Int) (u_ : Int), v = Value.agg #[Value.int .i64 s_, Value.int .i64 u_] ∧ own' = (Res.box b [Value.slice A n c, Value.int .i64 i', Value.int .i64 h'] 56 :: tl) ∧ CurI w0 A n i' ∧ (1 ≤ s_) ∧ (s_ ≤ 6) ∧ (0 ≤ u_) ∧ (u_ ≤ 63) ∧ (vpool s_ u_ = true))) := by
  obtain ⟨hClo, hChi, hCn, _⟩ := id hC
  refine calls_FA Try.func44 rfl (n := 13) rfl (l := [(0, Value.pointer (some ⟨b, 0, none⟩))]) rfl (by simp) (fun g => ?_)
  refine wp_seq ?_
  refine c_reg ?_
  refine l_op rfl rfl (fun K hK => op_alloc (d := some 2) rfl rfl [Value.int .i64 0, Value.int .i64 0] (by kernel_rfl) hS (fun blk2 w1 hS1 => hK _ _ ?_))
  clear hK K
  refine l_nil rfl ?_
  refine then_n ?_
  refine wp_seq ?_
  refine c_reg ?_
  refine q_seg (S := (fun x_ => St w0 x_ (Res.box blk2 [Value.int .i64 0, Value.int .i64 0] 25 :: Res.box b [Value.slice A n c, Value.int .i64 i, Value.int .i64 h] 56 :: tl))) [(4, Value.pointer (some ⟨b, 0, none⟩))] [.no] True (by kernel_rfl) trivial hS1 ?_
  refine l_op rfl rfl (fun K hK => op_callm (d := some 5) rfl rfl ⟨_, Try.func48, by kernel_rfl, by kernel_rfl⟩ (vs := [Value.pointer (some ⟨b, 0, none⟩), Value.int .i64 6]) (by kernel_rfl) (l1Below_s_c b A n c i h (6 : Int) _ w0 w1 (hS1.front 1 rfl) hC (by omega)) (fun v4 new5 w3 Rw3 hS3 => ?_))
  obtain ⟨ix7, hx8, xd6, rfl, rfl, hC9, hf10, hf11⟩ := Rw3
  refine hK _ _ ?_
  clear hK K
  refine q_seg (S := (fun x_ => St w0 x_ (Res.box b [Value.slice A n c, Value.int .i64 ix7, Value.int .i64 hx8] 56 :: Res.box blk2 [Value.int .i64 0, Value.int .i64 0] 25 :: tl))) [(3, Value.int .i64 ((1 : Int) + xd6)), (6, Value.int .i64 ((1 : Int) + xd6))] [.no, .no] ((InK .i64 ((1 : Int) + xd6))) (by kernel_rfl) (in64 (by omega) (by omega)) hS3 ?_
  refine l_nil rfl ?_
  refine then_n ?_
  refine wp_seq ?_
  refine c_reg ?_
  obtain ⟨hpw12, hpw12a, hpw12b, _⟩ := pw_of (e := ((1 : Int) + xd6)) (by omega) (by omega)
  refine q_seg (S := (fun x_ => St w0 x_ (Res.box b [Value.slice A n c, Value.int .i64 ix7, Value.int .i64 hx8] 56 :: Res.box blk2 [Value.int .i64 0, Value.int .i64 0] 25 :: tl))) [(10, Value.int .i64 (pw ((1 : Int) + xd6))), (9, Value.int .i64 ((1 : Int) + xd6)), (8, Value.pointer (some ⟨b, 0, none⟩)), (7, Value.int .i64 ((1 : Int) + xd6))] [.no, .no, .no, .v (.int .i64 (pw ((1 : Int) + xd6)))] (((0 : Int) ≤ ((1 : Int) + xd6)) ∧ (IntKind.wrap .i64 ((1 : Int) * 2 ^ (min (Int.toNat ((1 : Int) + xd6)) (IntKind.bits .i64))) = (pw ((1 : Int) + xd6)))) (by kernel_rfl) ⟨(by omega), hpw12⟩ hS3 ?_
  refine l_op rfl rfl (fun K hK => op_callm (d := some 11) rfl rfl ⟨_, Try.func48, by kernel_rfl, by kernel_rfl⟩ (vs := [Value.pointer (some ⟨b, 0, none⟩), Value.int .i64 (pw ((1 : Int) + xd6))]) (by kernel_rfl) (l1Below_s_c b A n c ix7 hx8 (pw ((1 : Int) + xd6)) _ w0 w3 hS3 hC9 (by omega)) (fun v14 new15 w13 Rw13 hS13 => ?_))
  obtain ⟨ix17, hx18, xd16, rfl, rfl, hC19, hf20, hf21⟩ := Rw13
  refine hK _ _ ?_
  clear hK K
  refine q_seg (S := (fun x_ => St w0 x_ (Res.box b [Value.slice A n c, Value.int .i64 ix17, Value.int .i64 hx18] 56 :: Res.box blk2 [Value.int .i64 0, Value.int .i64 0] 25 :: tl))) [(12, Value.agg #[Value.int .i64 ((1 : Int) + xd6), Value.int .i64 xd16])] [.no] True (by kernel_rfl) trivial hS13 ?_
  refine l_op rfl rfl (fun K hK => op_store (d := none) rfl rfl (i := 1) (b := blk2) (off := 0) (cs := [Value.int .i64 0, Value.int .i64 0]) (bt := 25) (by kernel_rfl) (by kernel_rfl) [Value.int .i64 ((1 : Int) + xd6), Value.int .i64 xd16] (by kernel_rfl) (by kernel_rfl) (Nat.le_of_ble_eq_true (by kernel_rfl)) (by kernel_rfl) (Res.box b [Value.slice A n c, Value.int .i64 ix17, Value.int .i64 hx18] 56 :: Res.box blk2 [Value.int .i64 ((1 : Int) + xd6), Value.int .i64 xd16] 25 :: tl) (by kernel_rfl) hS13 (fun w22 hS22 => hK _ _ ?_))
  clear hK K
  refine l_nil rfl ?_
  refine then_n ?_
  refine wp_ret ?_
  have hS22s1 : St w0 w22 (Res.box b [Value.slice A n c, Value.int .i64 ix17, Value.int .i64 hx18] 56 :: tl) := (hS22.sub (List.Sublist.cons_cons _ (List.Sublist.cons _ (List.Sublist.refl _))))
  have hvp : vpool ((1 : Int) + xd6) xd16 = true := vpool_of (by omega) (by omega) (by omega) (by omega)
  have hvb := vpool_bd hvp
  exact c_end (S := (fun x_ => St w0 x_ (Res.box b [Value.slice A n c, Value.int .i64 ix17, Value.int .i64 hx18] 56 :: Res.box blk2 [Value.int .i64 ((1 : Int) + xd6), Value.int .i64 xd16] 25 :: tl))) (rs := [.cell 2 25]) rfl [Value.agg #[Value.int .i64 ((1 : Int) + xd6), Value.int .i64 xd16]] (v := Value.agg #[Value.int .i64 ((1 : Int) + xd6), Value.int .i64 xd16]) (C := ((LoadsAt Try.prog (fun x_ => St w0 x_ (Res.box b [Value.slice A n c, Value.int .i64 ix17, Value.int .i64 hx18] 56 :: Res.box blk2 [Value.int .i64 ((1 : Int) + xd6), Value.int .i64 xd16] 25 :: tl)) 25 ⟨blk2, 0, none⟩ (Value.agg #[Value.int .i64 ((1 : Int) + xd6), Value.int .i64 xd16])))) (by kernel_rfl) (ld_boxN (i := 1) (k := 2) rfl rfl rfl (by kernel_rfl)) hS22 (⟨_, _, rfl, hS22s1, ix17, hx18, ((1 : Int) + xd6), xd16, rfl, rfl, hC19, (by omega), (by omega), (by omega), hvb.2.2.2.1, hvp⟩)
theorem l22Keys_s_c (b : Nat) (A : Option Addr) (n c : Nat) (i h : Int)  (tl : List Res) (w0 w : World) (hS : St w0 w (Res.box b [Value.slice A n c, Value.int .i64 i, Value.int .i64 h] 56 :: tl)) (hC : CurI w0 A n i)  : Calls Try.prog 45 #[.pointer (some ⟨b, 0, none⟩)] w (fun e w' => ∃ v own', e = .returned v ∧ St w0 w' own' ∧ (∃ (i' h' : Int) (l_ : List Int) (l_A : Option Addr) (l_c : Nat), v = Value.slice l_A (List.length l_) l_c ∧ own' = (Res.row (Value.slice l_A (List.length l_) l_c) 3 1 (List.length l_) (l_.map (Value.int .i64)) :: Res.box b [Value.slice A n c, Value.int .i64 i', Value.int .i64 h'] 56 :: tl) ∧ CurI w0 A n i' ∧ (∀ z ∈ l_, 0 ≤ z ∧ z ≤ 199) ∧ (List.length l_ ≤ 7))) := by
  obtain ⟨hClo, hChi, hCn, _⟩ := id hC
  refine calls_FA Try.func45 rfl (n := 18) rfl (l := [(0, Value.pointer (some ⟨b, 0, none⟩))]) rfl (by simp) (fun g => ?_)
  refine wp_seq ?_
  refine c_reg ?_
  refine q_seg (S := (fun x_ => St w0 x_ (Res.box b [Value.slice A n c, Value.int .i64 i, Value.int .i64 h] 56 :: tl))) [(2, Value.slice none 0 0)] [.no] True (by kernel_rfl) trivial hS ?_
  refine l_nil rfl ?_
  refine then_n ?_
  refine wp_seq ?_
  refine c_reg ?_
  refine l_op rfl rfl (fun K hK => op_buildSlice (d := some 5) rfl rfl (e := 3) (by kernel_rfl) 1 (by kernel_rfl) (by decide) (by decide) [] (by kernel_rfl) rfl hS (fun blk2 w1 hS1 => hK _ _ ?_))
  clear hK K
  refine q_seg (S := (fun x_ => St w0 x_ (Res.row (Value.slice (some ⟨blk2, 0, none⟩) 0 0) 3 1 0 ([]) :: Res.box b [Value.slice A n c, Value.int .i64 i, Value.int .i64 h] 56 :: tl))) [(3, Value.slice (some ⟨blk2, 0, none⟩) 0 0)] [.no] True (by kernel_rfl) trivial hS1 ?_
  refine l_nil rfl ?_
  refine then_n ?_
  refine wp_seq ?_
  refine wp_seq ?_
  refine c_reg ?_
  refine q_seg (S := (fun x_ => St w0 x_ (Res.row (Value.slice (some ⟨blk2, 0, none⟩) 0 0) 3 1 0 ([]) :: Res.box b [Value.slice A n c, Value.int .i64 i, Value.int .i64 h] 56 :: tl))) [(6, Value.pointer (some ⟨b, 0, none⟩))] [.no] True (by kernel_rfl) trivial hS1 ?_
  refine l_op rfl rfl (fun K hK => op_callm (d := some 7) rfl rfl ⟨_, Try.func48, by kernel_rfl, by kernel_rfl⟩ (vs := [Value.pointer (some ⟨b, 0, none⟩), Value.int .i64 8]) (by kernel_rfl) (l1Below_s_c b A n c i h (8 : Int) _ w0 w1 (hS1.front 1 rfl) hC (by omega)) (fun v4 new5 w3 Rw3 hS3 => ?_))
  obtain ⟨ix7, hx8, xd6, rfl, rfl, hC9, hf10, hf11⟩ := Rw3
  refine hK _ _ ?_
  clear hK K
  refine q_seg (S := (fun x_ => St w0 x_ (Res.box b [Value.slice A n c, Value.int .i64 ix7, Value.int .i64 hx8] 56 :: Res.row (Value.slice (some ⟨blk2, 0, none⟩) 0 0) 3 1 0 ([]) :: tl))) [(4, Value.int .i64 xd6)] [.no] True (by kernel_rfl) trivial hS3 ?_
  refine l_nil rfl ?_
  refine then_n ?_
  refine wp_block ?_
  refine c_loop (X := Int × List Int × Option Addr × Nat × Int × Int) (fun (x_ : Int × List Int × Option Addr × Nat × Int × Int) => match x_ with | (j, zs, A2, c2, ic, hc) => [(0, Value.pointer (some ⟨b, 0, none⟩)), (3, Value.slice A2 (List.length zs) c2), (4, Value.int .i64 j)]) (fun (x_ : Int × List Int × Option Addr × Nat × Int × Int) (wr : World) => match x_ with | (j, zs, A2, c2, ic, hc) => (CurI w0 A n ic) ∧ (0 ≤ j) ∧ (j + ((zs.length : Nat) : Int) ≤ xd6) ∧ (∀ z ∈ zs, 0 ≤ z ∧ z ≤ 199) ∧ St w0 wr (Res.box b [Value.slice A n c, Value.int .i64 ic, Value.int .i64 hc] 56 :: Res.row (Value.slice A2 (List.length zs) c2) 3 1 (List.length zs) (zs.map (Value.int .i64)) :: tl)) (fun (x_ : Int × List Int × Option Addr × Nat × Int × Int) => match x_ with | (j, zs, A2, c2, ic, hc) => j.toNat) ((xd6, [], (some ⟨blk2, 0, none⟩), 0, ix7, hx8)) ?_ ?_ ?_
  · exact (agree_cons (by kernel_rfl) (agree_cons (by kernel_rfl) (agree_cons (by kernel_rfl) agree_nil)))
  · exact ⟨hC9, (by omega), (by simp), all_nil, hS3⟩
  rintro ⟨j, zs, A2, c2, ic, hc⟩ g13 w12 ⟨hCl, hj0, hjz, hzb, hS12⟩
  obtain ⟨hClo2, hChi2, hCn2, _⟩ := id hCl
  refine wp_seq ?_
  refine wp_seq ?_
  refine c_reg ?_
  refine q_seg (S := (fun x_ => St w0 x_ (Res.box b [Value.slice A n c, Value.int .i64 ic, Value.int .i64 hc] 56 :: Res.row (Value.slice A2 (List.length zs) c2) 3 1 (List.length zs) (zs.map (Value.int .i64)) :: tl))) [(9, Value.bool (decide ((0 : Int) < j))), (8, Value.int .i64 j)] [.no, .no] True (by kernel_rfl) trivial hS12 ?_
  refine l_nil rfl ?_
  refine then_n ?_
  rcases Bool.eq_false_or_eq_true (decide ((0 : Int) < j)) with hb14 | hb14
  · skip
    have hb14p := of_decide_eq_true hb14
    refine c_true (b := (decide ((0 : Int) < j))) (by kernel_rfl) hb14 ?_
    refine wp_skip ?_
    refine then_n ?_
    refine wp_seq ?_
    refine wp_block ?_
    refine c_reg ?_
    refine q_seg (S := (fun x_ => St w0 x_ (Res.box b [Value.slice A n c, Value.int .i64 ic, Value.int .i64 hc] 56 :: Res.row (Value.slice A2 (List.length zs) c2) 3 1 (List.length zs) (zs.map (Value.int .i64)) :: tl))) [(13, Value.pointer (some ⟨b, 0, none⟩)), (12, Value.slice A2 (List.length zs) c2)] [.no, .no] True (by kernel_rfl) trivial hS12 ?_
    refine l_op rfl rfl (fun K hK => op_callm (d := some 14) rfl rfl ⟨_, Try.func48, by kernel_rfl, by kernel_rfl⟩ (vs := [Value.pointer (some ⟨b, 0, none⟩), Value.int .i64 200]) (by kernel_rfl) (l1Below_s_c b A n c ic hc (200 : Int) _ w0 w12 hS12 hCl (by omega)) (fun v16 new17 w15 Rw15 hS15 => ?_))
    obtain ⟨ix19, hx20, xd18, rfl, rfl, hC21, hf22, hf23⟩ := Rw15
    refine hK _ _ ?_
    clear hK K
    refine l_op rfl rfl (fun K hK => op_buildSlice (d := some 15) rfl rfl (e := 3) (by kernel_rfl) 1 (by kernel_rfl) (by decide) (by decide) [Value.int .i64 xd18] (by kernel_rfl) rfl hS15 (fun blk25 w24 hS24 => hK _ _ ?_))
    clear hK K
    refine l_op rfl rfl (fun K hK => op_append (d := some 16) rfl rfl elInt hS24 (i := 2) rfl rfl rfl (news := [Value.int .i64 xd18]) (hS24.rd (List.mem_of_getElem? (i := 0) rfl)) (all_one (by rfl)) (by omega) (by omega) (fun v27 w26 hS26 => hK _ _ ?_))
    clear hK K
    obtain ⟨hlv27, Av27, cv27, hvv27, hnv27, hmv27⟩ := hS26.row_slice (List.mem_of_getElem? (i := 2) rfl)
    subst hvv27
    refine q_seg (S := (fun x_ => St w0 x_ (Res.row (Value.slice (some ⟨blk25, 0, none⟩) 1 1) 3 1 1 ([Value.int .i64 xd18]) :: Res.box b [Value.slice A n c, Value.int .i64 ix19, Value.int .i64 hx20] 56 :: Res.row (Value.slice Av27 ((List.length zs) + 1) cv27) 3 1 ((List.length zs) + 1) ((zs.map (Value.int .i64)) ++ [Value.int .i64 xd18]) :: tl))) [(3, Value.slice Av27 ((List.length zs) + 1) cv27)] [.no] True (by kernel_rfl) trivial hS26 ?_
    refine l_nil rfl ?_
    refine blk_n ?_
    refine then_n ?_
    refine c_reg ?_
    refine q_seg (S := (fun x_ => St w0 x_ (Res.row (Value.slice (some ⟨blk25, 0, none⟩) 1 1) 3 1 1 ([Value.int .i64 xd18]) :: Res.box b [Value.slice A n c, Value.int .i64 ix19, Value.int .i64 hx20] 56 :: Res.row (Value.slice Av27 ((List.length zs) + 1) cv27) 3 1 ((List.length zs) + 1) ((zs.map (Value.int .i64)) ++ [Value.int .i64 xd18]) :: tl))) [(4, Value.int .i64 (j - (1 : Int))), (11, Value.int .i64 (j - (1 : Int))), (10, Value.int .i64 j)] [.no, .no, .no] ((InK .i64 (j - (1 : Int)))) (by kernel_rfl) (in64 (by omega) (by omega)) hS26 ?_
    refine l_nil rfl ?_
    refine then_n ?_
    have hS26s1 : St w0 w26 (Res.box b [Value.slice A n c, Value.int .i64 ix19, Value.int .i64 hx20] 56 :: Res.row (Value.slice Av27 ((List.length zs) + 1) cv27) 3 1 ((List.length zs) + 1) ((zs.map (Value.int .i64)) ++ [Value.int .i64 xd18]) :: tl) := (hS26.sub (List.Sublist.cons _ (List.Sublist.cons_cons _ (List.Sublist.cons_cons _ (List.Sublist.refl _)))))
    refine round_end ((j - 1, zs ++ [xd18], Av27, cv27, ix19, hx20)) ?_ ?_ ?_
    · exact (agree_cons (by kernel_rfl) (agree_eq (v0 := Value.slice Av27 ((List.length zs) + 1) cv27) (by kernel_rfl) (congrArg (fun m => Value.slice Av27 m cv27) (by simp)) (agree_cons (by kernel_rfl) agree_nil)))
    · exact ⟨hC21, (by omega), (by simp; omega), (all_snoc hzb ⟨by omega, by omega⟩), (hS26s1.eqv (by simp))⟩
    · exact (by first | omega | (dsimp only; omega))
  · skip
    have hb14p := of_decide_eq_false hb14
    refine c_false (b := (decide ((0 : Int) < j))) (by kernel_rfl) hb14 ?_
    refine wp_exit ?_
    refine then_x ?_
    refine then_x ?_
    refine blk_hit ?_
    refine then_n ?_
    refine wp_seq ?_
    refine c_reg ?_
    refine q_seg (S := (fun x_ => St w0 x_ (Res.box b [Value.slice A n c, Value.int .i64 ic, Value.int .i64 hc] 56 :: Res.row (Value.slice A2 (List.length zs) c2) 3 1 (List.length zs) (zs.map (Value.int .i64)) :: tl))) [(2, Value.slice A2 (List.length zs) c2), (17, Value.slice A2 (List.length zs) c2)] [.no, .no] True (by kernel_rfl) trivial hS12 ?_
    refine l_nil rfl ?_
    refine then_n ?_
    refine wp_ret ?_
    have hS12s2 : St w0 w12 (Res.box b [Value.slice A n c, Value.int .i64 ic, Value.int .i64 hc] 56 :: Res.row (Value.slice A2 (List.length zs) c2) 3 1 (List.length zs) (zs.map (Value.int .i64)) :: tl) := hS12.front 0 rfl
    have hS12s2s3 : St w0 w12 (Res.row (Value.slice A2 (List.length zs) c2) 3 1 (List.length zs) (zs.map (Value.int .i64)) :: Res.box b [Value.slice A n c, Value.int .i64 ic, Value.int .i64 hc] 56 :: tl) := hS12s2.front 1 rfl
    exact c_end (S := (fun x_ => St w0 x_ (Res.box b [Value.slice A n c, Value.int .i64 ic, Value.int .i64 hc] 56 :: Res.row (Value.slice A2 (List.length zs) c2) 3 1 (List.length zs) (zs.map (Value.int .i64)) :: tl))) (rs := [.tmp 2]) rfl [] (v := Value.slice A2 (List.length zs) c2) (C := True) (by kernel_rfl) trivial hS12 (⟨_, _, rfl, hS12s2s3, ic, hc, zs, A2, c2, rfl, rfl, hCl, hzb, (by omega)⟩)
theorem DrawPool_s_c (A : Option Addr) (n c : Nat) (zs : List Int) (w : World) (hn : n ≤ 1048576) (hz : okz .u8 zs) (hr : Rd w w.heap.size A n (zs.map (Value.int .u8))) : Calls Try.prog 30 #[.slice A n c] w (Ret w (fun v new => ∃ (s_ : Int) (u_ : Int) (l_ : List Int) (l_A : Option Addr) (l_c : Nat), v = Value.tuple #[Value.agg #[Value.int .i64 s_, Value.int .i64 u_], Value.slice l_A (List.length l_) l_c] ∧ new = (Res.row (Value.slice l_A (List.length l_) l_c) 3 1 (List.length l_) (l_.map (Value.int .i64)) :: []) ∧ (1 ≤ s_) ∧ (s_ ≤ 6) ∧ (0 ≤ u_) ∧ (u_ ≤ 63) ∧ (vpool s_ u_ = true) ∧ (∀ z ∈ l_, 0 ≤ z ∧ z ≤ 199) ∧ (List.length l_ ≤ 7))) := by
  have hzl := hr.len
  refine calls_FA Try.func30 rfl (n := 13) rfl (l := [(0, Value.slice A n c)]) rfl (by simp) (fun g => ?_)
  have hS := St.init w
  refine wp_seq ?_
  refine c_reg ?_
  refine l_op rfl rfl (fun K hK => op_alloc (d := some 2) rfl rfl [Value.int .i64 0, Value.int .i64 0] (by kernel_rfl) hS (fun blk2 w1 hS1 => hK _ _ ?_))
  clear hK K
  refine q_seg (S := (fun x_ => St w x_ [Res.box blk2 [Value.int .i64 0, Value.int .i64 0] 25])) [(3, Value.slice none 0 0)] [.no] True (by kernel_rfl) trivial hS1 ?_
  refine l_nil rfl ?_
  refine then_n ?_
  refine wp_seq ?_
  refine c_reg ?_
  refine q_seg (S := (fun x_ => St w x_ [Res.box blk2 [Value.int .i64 0, Value.int .i64 0] 25])) [(6, Value.slice A n c)] [.no] True (by kernel_rfl) trivial hS1 ?_
  refine l_op rfl rfl (fun K hK => op_call (d := some 7) rfl rfl ⟨_, Try.func43, by kernel_rfl, by kernel_rfl⟩ (vs := [Value.slice A n c]) (by kernel_rfl) (l1New_c A n c zs w1 (by omega) hz (hS1.rdlow hr)) hS1 (fun v4 new5 w3 Rw3 hS3 => hK _ _ ?_))
  clear hK K
  obtain ⟨blk6, hx7, rfl, rfl⟩ := Rw3
  have hC8 : CurI w A n 0 := CurI.zero (by omega) hz hr
  refine q_seg (S := (fun x_ => St w x_ [Res.box blk6 [Value.slice A n c, Value.int .i64 0, Value.int .i64 hx7] 56, Res.box blk2 [Value.int .i64 0, Value.int .i64 0] 25])) [(4, Value.pointer (some ⟨blk6, 0, none⟩))] [.no] True (by kernel_rfl) trivial hS3 ?_
  refine l_nil rfl ?_
  refine then_n ?_
  refine wp_seq ?_
  refine c_reg ?_
  refine q_seg (S := (fun x_ => St w x_ [Res.box blk6 [Value.slice A n c, Value.int .i64 0, Value.int .i64 hx7] 56, Res.box blk2 [Value.int .i64 0, Value.int .i64 0] 25])) [(8, Value.pointer (some ⟨blk6, 0, none⟩))] [.no] True (by kernel_rfl) trivial hS3 ?_
  refine l_op rfl rfl (fun K hK => op_callm (d := some 9) rfl rfl ⟨_, Try.func44, by kernel_rfl, by kernel_rfl⟩ (vs := [Value.pointer (some ⟨blk6, 0, none⟩)]) (by kernel_rfl) (l22Draw_s_c blk6 A n c 0 hx7  _ w w3 hS3 hC8 ) (fun v10 new11 w9 Rw9 hS9 => ?_))
  obtain ⟨ix14, hx15, sd12, ud13, rfl, rfl, hC16, hf17, hf18, hf19, hf20, hf21⟩ := Rw9
  refine hK _ _ ?_
  clear hK K
  refine l_op rfl rfl (fun K hK => op_alloc (d := some 5) rfl rfl [Value.int .i64 0, Value.int .i64 0] (by kernel_rfl) hS9 (fun blk23 w22 hS22 => hK _ _ ?_))
  clear hK K
  refine l_op rfl rfl (fun K hK => op_store (d := none) rfl rfl (i := 0) (b := blk23) (off := 0) (cs := [Value.int .i64 0, Value.int .i64 0]) (bt := 25) (by kernel_rfl) (by kernel_rfl) [Value.int .i64 sd12, Value.int .i64 ud13] (by kernel_rfl) (by kernel_rfl) (Nat.le_of_ble_eq_true (by kernel_rfl)) (by kernel_rfl) [Res.box blk23 [Value.int .i64 sd12, Value.int .i64 ud13] 25, Res.box blk6 [Value.slice A n c, Value.int .i64 ix14, Value.int .i64 hx15] 56, Res.box blk2 [Value.int .i64 0, Value.int .i64 0] 25] (by kernel_rfl) hS22 (fun w24 hS24 => hK _ _ ?_))
  clear hK K
  refine l_nil rfl ?_
  refine then_n ?_
  refine wp_seq ?_
  refine c_drawnS (S := (fun x_ => St w x_ [Res.box blk23 [Value.int .i64 sd12, Value.int .i64 ud13] 25])) [] (by kernel_rfl) hS24 (fun w25 hS25 => ?_)
  refine t_seg (S := (fun x_ => St w x_ [Res.box blk23 [Value.int .i64 sd12, Value.int .i64 ud13] 25])) [(0, .v (Value.agg #[Value.int .i64 sd12, Value.int .i64 ud13])), (1, .no)] 3 #[true, true, false, false, false] [(11, Value.pointer (some ⟨blk6, 0, none⟩)), (10, Value.agg #[Value.int .i64 sd12, Value.int .i64 ud13])] ((LoadsAt Try.prog (fun x_ => St w x_ [Res.box blk23 [Value.int .i64 sd12, Value.int .i64 ud13] 25]) 25 ⟨blk23, 0, none⟩ (Value.agg #[Value.int .i64 sd12, Value.int .i64 ud13]))) (by kernel_rfl) (Qpanic.then Qpanic.bp) rfl (by kernel_rfl) (ld_boxN (i := 0) (k := 2) rfl rfl rfl (by kernel_rfl)) (hS25.sub (List.Sublist.cons_cons _ (List.Sublist.cons _ (List.Sublist.cons _ List.Sublist.slnil)))) ?_
  refine a_op (i := 2) (fuel := 2) (listed' := #[true, true, true, false, false]) rfl rfl (by kernel_rfl) (by kernel_rfl) rfl (fun K hK => op_callm (d := some 12) rfl rfl ⟨_, Try.func45, by kernel_rfl, by kernel_rfl⟩ (vs := [Value.pointer (some ⟨blk6, 0, none⟩)]) (by kernel_rfl) (l22Keys_s_c blk6 A n c ix14 hx15  _ w w25 (hS25.front 1 rfl) hC16 ) (fun v27 new28 w26 Rw26 hS26 => ?_))
  obtain ⟨ix30, hx31, zd29, zd29A, zd29c, rfl, rfl, hC32, hf33, hf34⟩ := Rw26
  refine hK _ _ (fun _ => (hS26.sub (List.Sublist.cons _ (List.Sublist.cons _ (List.Sublist.cons_cons _ (List.Sublist.cons _ List.Sublist.slnil)))))) ?_
  clear hK K
  refine a_op (i := 3) (fuel := 1) (listed' := #[true, true, true, true, false]) rfl rfl (by kernel_rfl) (by kernel_rfl) rfl (fun K hK => op_store (d := none) rfl rfl (i := 3) (b := blk2) (off := 0) (cs := [Value.int .i64 0, Value.int .i64 0]) (bt := 25) (by kernel_rfl) (by kernel_rfl) [Value.int .i64 sd12, Value.int .i64 ud13] (by kernel_rfl) (by kernel_rfl) (Nat.le_of_ble_eq_true (by kernel_rfl)) (by kernel_rfl) [Res.row (Value.slice zd29A (List.length zd29) zd29c) 3 1 (List.length zd29) (zd29.map (Value.int .i64)), Res.box blk6 [Value.slice A n c, Value.int .i64 ix30, Value.int .i64 hx31] 56, Res.box blk23 [Value.int .i64 sd12, Value.int .i64 ud13] 25, Res.box blk2 [Value.int .i64 sd12, Value.int .i64 ud13] 25] (by kernel_rfl) hS26 (fun w35 hS35 => hK _ _ (fun _ => (hS35.sub (List.Sublist.cons _ (List.Sublist.cons _ (List.Sublist.cons_cons _ (List.Sublist.cons _ List.Sublist.slnil)))))) ?_))
  clear hK K
  refine t_seg (S := (fun x_ => St w x_ [Res.box blk23 [Value.int .i64 sd12, Value.int .i64 ud13] 25])) [(4, .no)] 0 #[true, true, true, true, true] [(3, Value.slice zd29A (List.length zd29) zd29c)] True (by kernel_rfl) (Qpanic.then Qpanic.bp) rfl (by kernel_rfl) trivial (hS35.sub (List.Sublist.cons _ (List.Sublist.cons _ (List.Sublist.cons_cons _ (List.Sublist.cons _ List.Sublist.slnil))))) ?_
  refine a_done (by kernel_rfl) ?_
  refine then_n ?_
  refine wp_ret ?_
  have hS35s1 : St w w35 [Res.row (Value.slice zd29A (List.length zd29) zd29c) 3 1 (List.length zd29) (zd29.map (Value.int .i64))] := (hS35.sub (List.Sublist.cons_cons _ (List.Sublist.cons _ (List.Sublist.cons _ (List.Sublist.cons _ List.Sublist.slnil)))))
  exact c_end (S := (fun x_ => St w x_ [Res.row (Value.slice zd29A (List.length zd29) zd29c) 3 1 (List.length zd29) (zd29.map (Value.int .i64)), Res.box blk6 [Value.slice A n c, Value.int .i64 ix30, Value.int .i64 hx31] 56, Res.box blk23 [Value.int .i64 sd12, Value.int .i64 ud13] 25, Res.box blk2 [Value.int .i64 sd12, Value.int .i64 ud13] 25])) (rs := [.cell 2 25, .tmp 3]) rfl [Value.agg #[Value.int .i64 sd12, Value.int .i64 ud13]] (v := Value.tuple #[Value.agg #[Value.int .i64 sd12, Value.int .i64 ud13], Value.slice zd29A (List.length zd29) zd29c]) (C := ((LoadsAt Try.prog (fun x_ => St w x_ [Res.row (Value.slice zd29A (List.length zd29) zd29c) 3 1 (List.length zd29) (zd29.map (Value.int .i64)), Res.box blk6 [Value.slice A n c, Value.int .i64 ix30, Value.int .i64 hx31] 56, Res.box blk23 [Value.int .i64 sd12, Value.int .i64 ud13] 25, Res.box blk2 [Value.int .i64 sd12, Value.int .i64 ud13] 25]) 25 ⟨blk2, 0, none⟩ (Value.agg #[Value.int .i64 sd12, Value.int .i64 ud13])))) (by kernel_rfl) (ld_boxN (i := 3) (k := 2) rfl rfl rfl (by kernel_rfl)) hS35 (hS35s1.rt ⟨sd12, ud13, zd29, zd29A, zd29c, rfl, rfl, (by omega), (by omega), (by omega), (by omega), hf21, hf33, (by omega)⟩)
theorem sameInts_c (A B : Option Addr) (n c m d : Nat) (xs ys : List Int) (w : World) (hn : n ≤ 9223372036854775807) (hm : m ≤ 9223372036854775807) (hr : Rd w w.heap.size A n (xs.map (Value.int .i64))) (hr2 : Rd w w.heap.size B m (ys.map (Value.int .i64))) : Calls Try.prog 38 #[.slice A n c, .slice B m d] w (RetV w (.bool (decide (xs = ys)))) := by
  refine calls_FA Try.func38 rfl (n := 26) rfl (l := [(0, Value.slice A n c), (1, Value.slice B m d)]) rfl (by simp) (fun g => ?_)
  have hS := St.init w
  refine wp_seq ?_
  refine c_reg ?_
  refine q_seg (S := (fun x_ => St w x_ [])) [(4, Value.bool false)] [.no] True (by kernel_rfl) trivial hS ?_
  refine l_nil rfl ?_
  refine then_n ?_
  refine wp_seq ?_
  refine wp_seq ?_
  refine c_reg ?_
  refine q_seg (S := (fun x_ => St w x_ [])) [(10, Value.bool (!(decide (((n : Nat) : Int) = ((m : Nat) : Int))))), (9, Value.int .i64 ((m : Nat) : Int)), (8, Value.slice B m d), (7, Value.int .i64 ((n : Nat) : Int)), (6, Value.slice A n c)] [.no, .no, .no, .no, .no] True (by kernel_rfl) trivial hS ?_
  refine l_nil rfl ?_
  refine then_n ?_
  rcases Bool.eq_false_or_eq_true (decide (((n : Nat) : Int) = ((m : Nat) : Int))) with hb1 | hb1
  · skip
    have hb1p := of_decide_eq_true hb1
    refine c_false (b := (!(decide (((n : Nat) : Int) = ((m : Nat) : Int))))) (by kernel_rfl) (nb (v := true) hb1) ?_
    refine wp_skip ?_
    refine then_n ?_
    refine wp_seq ?_
    refine wp_seq ?_
    refine c_reg ?_
    refine q_seg (S := (fun x_ => St w x_ [])) [(5, Value.int .i64 0)] [.no] True (by kernel_rfl) trivial hS ?_
    refine l_nil rfl ?_
    refine then_n ?_
    refine wp_block ?_
    refine c_loop (X := Nat) (fun (k : Nat) => [(0, Value.slice A n c), (1, Value.slice B m d), (5, Value.int .i64 ((k : Nat) : Int))]) (fun (k : Nat) (wr : World) => (k ≤ n) ∧ (xs.take k = ys.take k) ∧ St w wr []) (fun (k : Nat) => n - k) 0 ?_ ?_ ?_
    · exact (agree_cons (by kernel_rfl) (agree_cons (by kernel_rfl) (agree_cons (by kernel_rfl) agree_nil)))
    · exact ⟨Nat.zero_le _, rfl, hS⟩
    rintro k g3 w2 ⟨hkn, htk, hS2⟩
    refine wp_seq ?_
    refine wp_seq ?_
    refine c_reg ?_
    refine q_seg (S := (fun x_ => St w x_ [])) [(14, Value.bool (decide (((k : Nat) : Int) < ((n : Nat) : Int)))), (13, Value.int .i64 ((n : Nat) : Int)), (12, Value.slice A n c), (11, Value.int .i64 ((k : Nat) : Int))] [.no, .no, .no, .no] True (by kernel_rfl) trivial hS2 ?_
    refine l_nil rfl ?_
    refine then_n ?_
    rcases Bool.eq_false_or_eq_true (decide (((k : Nat) : Int) < ((n : Nat) : Int))) with hb4 | hb4
    · skip
      have hb4p := of_decide_eq_true hb4
      obtain ⟨b, off, rfl, hbB, hcl⟩ := hr.2 (by omega)
      obtain ⟨b2, off2, rfl, hbB2, hcl2⟩ := hr2.2 (by omega)
      obtain ⟨z, hzk, hzm⟩ := get_of_lt (l := xs) (k := k) (by have := hr.len; omega)
      obtain ⟨y, hyk, hym⟩ := get_of_lt (l := ys) (k := k) (by have := hr2.len; omega)
      refine c_true (b := (decide (((k : Nat) : Int) < ((n : Nat) : Int)))) (by kernel_rfl) hb4 ?_
      refine wp_skip ?_
      refine then_n ?_
      refine wp_seq ?_
      refine wp_block ?_
      refine wp_seq ?_
      refine c_drawn [] (by kernel_rfl) hS2 (fun w5 hS5 => ?_)
      refine t_seg (S := (fun x_ => St w x_ [])) [(0, .no), (1, .no), (4, .no), (5, .no), (2, .no), (6, .no), (3, .v (Value.int .i64 z)), (7, .v (Value.int .i64 y)), (8, .no)] 0 #[true, true, true, true, true, true, true, true, true] [(25, Value.bool (!(decide (z = y)))), (24, Value.int .i64 y), (20, Value.int .i64 z), (23, Value.pointer (some ⟨b2, off2 + Int.toNat ((k : Nat) : Int) * 1, none⟩)), (19, Value.pointer (some ⟨b, off + Int.toNat ((k : Nat) : Int) * 1, none⟩)), (22, Value.int .i64 ((k : Nat) : Int)), (21, Value.slice (some ⟨b2, off2, none⟩) m d), (18, Value.int .i64 ((k : Nat) : Int)), (17, Value.slice (some ⟨b, off, none⟩) n c)] (((0 : Int) ≤ ((k : Nat) : Int)) ∧ (((k : Nat) : Int) < ((n : Nat) : Int)) ∧ ((0 : Int) ≤ ((k : Nat) : Int)) ∧ (((k : Nat) : Int) < ((m : Nat) : Int)) ∧ (LoadsAt Try.prog (fun x_ => St w x_ []) 3 ⟨b, off + Int.toNat ((k : Nat) : Int) * 1, none⟩ (Value.int .i64 z)) ∧ (LoadsAt Try.prog (fun x_ => St w x_ []) 3 ⟨b2, off2 + Int.toNat ((k : Nat) : Int) * 1, none⟩ (Value.int .i64 y))) (by kernel_rfl) (Qpanic.then (Qpanic.block (Qpanic.then (Qpanic.then (Qpanic.block (Qpanic.then Qpanic.bp)))))) rfl (by kernel_rfl) ⟨(by omega), (by omega), (by omega), (by omega), (ld_low (hcl _ _ (by simp [hzk])) (by kernel_rfl)), (ld_low (hcl2 _ _ (by simp [hyk])) (by kernel_rfl))⟩ hS5 ?_
      refine a_done (by kernel_rfl) ?_
      refine then_n ?_
      rcases Bool.eq_false_or_eq_true (decide (z = y)) with hb6 | hb6
      · skip
        have hb6p := of_decide_eq_true hb6
        refine c_false (b := (!(decide (z = y)))) (by kernel_rfl) (nb (v := true) hb6) ?_
        refine wp_skip ?_
        refine blk_n ?_
        refine then_n ?_
        refine c_reg ?_
        refine q_seg (S := (fun x_ => St w x_ [])) [(5, Value.int .i64 (((k : Nat) : Int) + (1 : Int))), (16, Value.int .i64 (((k : Nat) : Int) + (1 : Int))), (15, Value.int .i64 ((k : Nat) : Int))] [.no, .no, .no] ((InK .i64 (((k : Nat) : Int) + (1 : Int)))) (by kernel_rfl) (in64 (by omega) (by omega)) hS5 ?_
        refine l_nil rfl ?_
        refine then_n ?_
        refine round_end (k + 1) ?_ ?_ ?_
        · exact (agree_cons (by kernel_rfl) (agree_cons (by kernel_rfl) (agree_cons (by kernel_rfl) agree_nil)))
        · exact ⟨(by omega), (tk_step htk hzk hyk hb6p), hS5⟩
        · exact (by first | omega | (dsimp only; omega))
      · skip
        have hb6p := of_decide_eq_false hb6
        refine c_true (b := (!(decide (z = y)))) (by kernel_rfl) (nb (v := false) hb6) ?_
        refine wp_seq ?_
        refine c_reg ?_
        refine q_seg (S := (fun x_ => St w x_ [])) [(4, Value.bool false)] [.no] True (by kernel_rfl) trivial hS5 ?_
        refine l_nil rfl ?_
        refine then_n ?_
        refine wp_ret ?_
        refine blk_r ?_
        refine then_r ?_
        refine then_r ?_
        refine blk_r ?_
        refine then_r ?_
        exact c_end (S := (fun x_ => St w x_ [])) (rs := [.tmp 4]) rfl [] (v := Value.bool false) (C := True) (by kernel_rfl) trivial hS5 ((hS5.rv (congrArg Value.bool (decide_eq_false (fun e_ => hb6p (Option.some.inj (hzk.symm.trans ((congrArg (fun l => l[k]?) e_).trans hyk))))).symm)))
    · skip
      have hb4p := of_decide_eq_false hb4
      refine c_false (b := (decide (((k : Nat) : Int) < ((n : Nat) : Int)))) (by kernel_rfl) hb4 ?_
      refine wp_exit ?_
      refine then_x ?_
      refine then_x ?_
      refine blk_hit ?_
      refine then_n ?_
      refine wp_seq ?_
      refine c_reg ?_
      refine q_seg (S := (fun x_ => St w x_ [])) [(4, Value.bool true)] [.no] True (by kernel_rfl) trivial hS2 ?_
      refine l_nil rfl ?_
      refine then_n ?_
      refine wp_ret ?_
      exact c_end (S := (fun x_ => St w x_ [])) (rs := [.tmp 4]) rfl [] (v := Value.bool true) (C := True) (by kernel_rfl) trivial hS2 ((hS2.rv (congrArg Value.bool (decide_eq_true (by rw [take_all (by have := hr.len; omega), take_all (by have := hr2.len; omega)] at htk; exact htk)).symm)))
  · skip
    have hb1p := of_decide_eq_false hb1
    refine c_true (b := (!(decide (((n : Nat) : Int) = ((m : Nat) : Int))))) (by kernel_rfl) (nb (v := false) hb1) ?_
    refine wp_seq ?_
    refine c_reg ?_
    refine q_seg (S := (fun x_ => St w x_ [])) [(4, Value.bool false)] [.no] True (by kernel_rfl) trivial hS ?_
    refine l_nil rfl ?_
    refine then_n ?_
    refine wp_ret ?_
    refine then_r ?_
    exact c_end (S := (fun x_ => St w x_ [])) (rs := [.tmp 4]) rfl [] (v := Value.bool false) (C := True) (by kernel_rfl) trivial hS ((hS.rv (congrArg Value.bool (decide_eq_false (fun e_ => by have h1_ := hr.len; have h2_ := hr2.len; rw [e_] at h1_; omega)).symm)))
end Go.Proofs.Ytidefcakodnffaa
