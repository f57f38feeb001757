/-
  Draws of bent bytes; the comparison of radio packets.
-/
import Derived.Test.YtfkeiegajaofdaaGRe
import Derived.Test.YtfkeiegajaofdaaBent
import Derived.Test.YtfkeiegajaofdaaRadL
namespace Go.Proofs.Ytfkeiegajaofdaa
open Go.RowKit
set_option maxRecDepth 100000

theorem l1Bent_s_c (b : Nat) (A : Option Addr) (n c : Nat) (i h : Int) (bsA : Option Addr) (bsc : Nat) (bs : List Int) (tl : List Res) (w0 w : World) (hS : St w0 w (Res.box b [Value.slice A n c, Value.int .i64 i, Value.int .i64 h] 95 :: Res.row (Value.slice bsA (List.length bs) bsc) 5 1 (List.length bs) (bs.map (Value.int .u8)) :: tl)) (hC : CurI w0 A n i) (hbs0 : okz .u8 bs) (hbs1 : List.length bs ≤ 1000) : Calls Try.prog 57 #[.pointer (some ⟨b, 0, none⟩), Value.slice bsA (List.length bs) bsc] w (fun e w' => ∃ v own', e = .returned v ∧ St w0 w' own' ∧ (∃ (i' h' : Int) (z_ : List Int) (z_A : Option Addr) (z_c : Nat), v = Value.slice z_A (List.length z_) z_c ∧ own' = (Res.row (Value.slice z_A (List.length z_) z_c) 5 1 (List.length z_) (z_.map (Value.int .u8)) :: Res.box b [Value.slice A n c, Value.int .i64 i', Value.int .i64 h'] 95 :: Res.row (Value.slice bsA (List.length bs) bsc) 5 1 (List.length bs) (bs.map (Value.int .u8)) :: tl) ∧ CurI w0 A n i' ∧ (okz .u8 z_) ∧ (List.length z_ ≤ 2000))) := by
  obtain ⟨hClo, hChi, hCn, _⟩ := id hC
  refine calls_FA Try.func57 rfl (n := 44) rfl (l := [(0, Value.pointer (some ⟨b, 0, none⟩)), (1, Value.slice bsA (List.length bs) bsc)]) rfl (by simp) (fun g => ?_)
  refine wp_seq ?_
  refine c_reg ?_
  refine q_seg (S := (fun x_ => St w0 x_ (Res.box b [Value.slice A n c, Value.int .i64 i, Value.int .i64 h] 95 :: Res.row (Value.slice bsA (List.length bs) bsc) 5 1 (List.length bs) (bs.map (Value.int .u8)) :: tl))) [(4, Value.slice none 0 0)] [.no] True (by kernel_rfl) trivial hS ?_
  refine l_nil rfl ?_
  refine then_n ?_
  refine wp_seq ?_
  refine c_reg ?_
  refine l_op rfl rfl (fun K hK => op_buildSlice (d := some 6) rfl rfl (e := 5) (by kernel_rfl) 1 (by kernel_rfl) (by decide) (by decide) [] (by kernel_rfl) rfl hS (fun blk2 w1 hS1 => hK _ _ ?_))
  clear hK K
  refine q_seg (S := (fun x_ => St w0 x_ (Res.row (Value.slice (some ⟨blk2, 0, none⟩) 0 0) 5 1 0 ([]) :: Res.box b [Value.slice A n c, Value.int .i64 i, Value.int .i64 h] 95 :: Res.row (Value.slice bsA (List.length bs) bsc) 5 1 (List.length bs) (bs.map (Value.int .u8)) :: tl))) [(7, Value.slice bsA (List.length bs) bsc)] [.no] True (by kernel_rfl) trivial hS1 ?_
  refine l_op rfl rfl (fun K hK => op_append_nil (d := some 8) rfl rfl elByte hS1 (i := 0) rfl rfl rfl (news := (bs.map (Value.int .u8))) (hS1.rd (List.mem_of_getElem? (i := 2) rfl)) (ints_one _ _) (by omega) (by omega) (fun v4 w3 hS3 => hK _ _ ?_))
  clear hK K
  obtain ⟨hlv4, Av4, cv4, hvv4, hnv4, hmv4⟩ := hS3.row_slice (List.mem_of_getElem? (i := 0) rfl)
  subst hvv4
  refine q_seg (S := (fun x_ => St w0 x_ (Res.row (Value.slice Av4 (List.length bs) cv4) 5 1 (List.length bs) (bs.map (Value.int .u8)) :: Res.box b [Value.slice A n c, Value.int .i64 i, Value.int .i64 h] 95 :: Res.row (Value.slice bsA (List.length bs) bsc) 5 1 (List.length bs) (bs.map (Value.int .u8)) :: tl))) [(5, Value.slice Av4 (List.length bs) cv4)] [.no] True (by kernel_rfl) trivial hS3 ?_
  refine l_nil rfl ?_
  refine then_n ?_
  refine wp_seq ?_
  refine wp_seq ?_
  refine c_reg ?_
  refine q_seg (S := (fun x_ => St w0 x_ (Res.row (Value.slice Av4 (List.length bs) cv4) 5 1 (List.length bs) (bs.map (Value.int .u8)) :: Res.box b [Value.slice A n c, Value.int .i64 i, Value.int .i64 h] 95 :: Res.row (Value.slice bsA (List.length bs) bsc) 5 1 (List.length bs) (bs.map (Value.int .u8)) :: tl))) [(9, Value.pointer (some ⟨b, 0, none⟩))] [.no] True (by kernel_rfl) trivial hS3 ?_
  refine l_op rfl rfl (fun K hK => op_callm (d := some 10) rfl rfl ⟨_, Try.func69, by kernel_rfl, by kernel_rfl⟩ (vs := [Value.pointer (some ⟨b, 0, none⟩), Value.int .i64 6]) (by kernel_rfl) (l1Below_s_c b A n c i h (6 : Int) _ w0 w3 (hS3.front 1 rfl) hC (by omega)) (fun v6 new7 w5 Rw5 hS5 => ?_))
  obtain ⟨ix9, hx10, xd8, rfl, rfl, hC11, hf12, hf13⟩ := Rw5
  refine hK _ _ ?_
  clear hK K
  refine l_nil rfl ?_
  refine then_n ?_
  refine wp_block ?_
  refine wp_seq ?_
  refine c_reg ?_
  refine q_seg (S := (fun x_ => St w0 x_ (Res.box b [Value.slice A n c, Value.int .i64 ix9, Value.int .i64 hx10] 95 :: Res.row (Value.slice Av4 (List.length bs) cv4) 5 1 (List.length bs) (bs.map (Value.int .u8)) :: Res.row (Value.slice bsA (List.length bs) bsc) 5 1 (List.length bs) (bs.map (Value.int .u8)) :: tl))) [(11, Value.bool (decide (xd8 = (0 : Int)))), (12, Value.bool (decide (xd8 = (0 : Int))))] [.no, .no] True (by kernel_rfl) trivial hS5 ?_
  refine l_nil rfl ?_
  refine then_n ?_
  rcases Bool.eq_false_or_eq_true (decide (xd8 = (0 : Int))) with hb14 | hb14
  · skip
    have hb14p := of_decide_eq_true hb14
    refine c_true (b := (decide (xd8 = (0 : Int)))) (by kernel_rfl) hb14 ?_
    refine wp_seq ?_
    refine c_reg ?_
    refine q_seg (S := (fun x_ => St w0 x_ (Res.box b [Value.slice A n c, Value.int .i64 ix9, Value.int .i64 hx10] 95 :: Res.row (Value.slice Av4 (List.length bs) cv4) 5 1 (List.length bs) (bs.map (Value.int .u8)) :: Res.row (Value.slice bsA (List.length bs) bsc) 5 1 (List.length bs) (bs.map (Value.int .u8)) :: tl))) [(15, Value.bool (decide ((0 : Int) < (((List.length bs) : Nat) : Int)))), (14, Value.int .i64 (((List.length bs) : Nat) : Int)), (13, Value.slice Av4 (List.length bs) cv4)] [.no, .no, .no] True (by kernel_rfl) trivial hS5 ?_
    refine l_nil rfl ?_
    refine then_n ?_
    rcases Bool.eq_false_or_eq_true (decide ((0 : Int) < (((List.length bs) : Nat) : Int))) with hb15 | hb15
    · skip
      have hb15p := of_decide_eq_true hb15
      obtain ⟨blk16, rfl⟩ := hS5.row_at (List.mem_of_getElem? (i := 1) rfl) (by omega)
      refine c_true (b := (decide ((0 : Int) < (((List.length bs) : Nat) : Int)))) (by kernel_rfl) hb15 ?_
      refine c_reg ?_
      refine q_seg (S := (fun x_ => St w0 x_ (Res.box b [Value.slice A n c, Value.int .i64 ix9, Value.int .i64 hx10] 95 :: Res.row (Value.slice (some ⟨blk16, 0, none⟩) (List.length bs) cv4) 5 1 (List.length bs) (bs.map (Value.int .u8)) :: Res.row (Value.slice bsA (List.length bs) bsc) 5 1 (List.length bs) (bs.map (Value.int .u8)) :: tl))) [(19, Value.int .i64 (((List.length bs) : Nat) : Int)), (18, Value.slice (some ⟨blk16, 0, none⟩) (List.length bs) cv4), (17, Value.pointer (some ⟨b, 0, none⟩)), (16, Value.slice (some ⟨blk16, 0, none⟩) (List.length bs) cv4)] [.no, .no, .no, .no] True (by kernel_rfl) trivial hS5 ?_
      refine l_op rfl rfl (fun K hK => op_callm (d := some 20) rfl rfl ⟨_, Try.func69, by kernel_rfl, by kernel_rfl⟩ (vs := [Value.pointer (some ⟨b, 0, none⟩), Value.int .i64 (((List.length bs) : Nat) : Int)]) (by kernel_rfl) (l1Below_s_c b A n c ix9 hx10 (((List.length bs) : Nat) : Int) _ w0 w5 hS5 hC11 (by omega)) (fun v18 new19 w17 Rw17 hS17 => ?_))
      obtain ⟨ix21, hx22, xd20, rfl, rfl, hC23, hf24, hf25⟩ := Rw17
      refine hK _ _ ?_
      clear hK K
      refine q_seg (S := (fun x_ => St w0 x_ (Res.box b [Value.slice A n c, Value.int .i64 ix21, Value.int .i64 hx22] 95 :: Res.row (Value.slice (some ⟨blk16, 0, none⟩) (List.length bs) cv4) 5 1 (List.length bs) (bs.map (Value.int .u8)) :: Res.row (Value.slice bsA (List.length bs) bsc) 5 1 (List.length bs) (bs.map (Value.int .u8)) :: tl))) [(21, Value.pointer (some ⟨b, 0, none⟩))] [.no] True (by kernel_rfl) trivial hS17 ?_
      refine l_op rfl rfl (fun K hK => op_callm (d := some 22) rfl rfl ⟨_, Try.func69, by kernel_rfl, by kernel_rfl⟩ (vs := [Value.pointer (some ⟨b, 0, none⟩), Value.int .i64 256]) (by kernel_rfl) (l1Below_s_c b A n c ix21 hx22 (256 : Int) _ w0 w17 hS17 hC23 (by omega)) (fun v27 new28 w26 Rw26 hS26 => ?_))
      obtain ⟨ix30, hx31, xd29, rfl, rfl, hC32, hf33, hf34⟩ := Rw26
      refine hK _ _ ?_
      clear hK K
      refine q_seg (S := (fun x_ => St w0 x_ (Res.box b [Value.slice A n c, Value.int .i64 ix30, Value.int .i64 hx31] 95 :: Res.row (Value.slice (some ⟨blk16, 0, none⟩) (List.length bs) cv4) 5 1 (List.length bs) (bs.map (Value.int .u8)) :: Res.row (Value.slice bsA (List.length bs) bsc) 5 1 (List.length bs) (bs.map (Value.int .u8)) :: tl))) [(24, Value.pointer (some ⟨blk16, 0 + Int.toNat xd20 * 1, none⟩)), (23, Value.int .u8 xd29)] [.no, .no] ((InK .u8 xd29) ∧ ((0 : Int) ≤ xd20) ∧ (xd20 < (((List.length bs) : Nat) : Int))) (by kernel_rfl) ⟨(in8 (by omega) (by omega)), (by omega), (by omega)⟩ hS26 ?_
      have hlnw35 := hS26.row_len (List.mem_of_getElem? (i := 1) rfl)
      refine l_op rfl rfl (fun K hK => op_storeRow (d := none) rfl rfl (i := 1) (b := blk16) (off := 0 + Int.toNat xd20 * 1) (m := (List.length bs)) (cap := cv4) (e := 5) (sz := 1) (xs := (bs.map (Value.int .u8))) (by kernel_rfl) (by kernel_rfl) [Value.int .u8 xd29] (by kernel_rfl) (by kernel_rfl) (by rw [hlnw35]; simp only [List.length_cons, List.length_nil]; omega) (by rfl) (Res.box b [Value.slice A n c, Value.int .i64 ix30, Value.int .i64 hx31] 95 :: Res.row (Value.slice (some ⟨blk16, 0, none⟩) (List.length bs) cv4) 5 1 (List.length bs) (List.take (0 + Int.toNat xd20 * 1) (bs.map (Value.int .u8)) ++ [Value.int .u8 xd29] ++ List.drop (0 + Int.toNat xd20 * 1 + List.length [Value.int .u8 xd29]) (bs.map (Value.int .u8))) :: Res.row (Value.slice bsA (List.length bs) bsc) 5 1 (List.length bs) (bs.map (Value.int .u8)) :: tl) (by kernel_rfl) hS26 (fun w35 hS35 => hK _ _ ?_))
      clear hK K
      replace hS35 := hS35.eqv (own' := (Res.box b [Value.slice A n c, Value.int .i64 ix30, Value.int .i64 hx31] 95 :: Res.row (Value.slice (some ⟨blk16, 0, none⟩) (List.length bs) cv4) 5 1 (List.length bs) ((List.set bs (Int.toNat xd20) xd29).map (Value.int .u8)) :: Res.row (Value.slice bsA (List.length bs) bsc) 5 1 (List.length bs) (bs.map (Value.int .u8)) :: tl)) (by rw [set_row (f := Value.int .u8) (xs := bs) (k := (Int.toNat xd20)) (v := xd29) (by omega) (0 + Int.toNat xd20 * 1) (by omega)])
      refine l_nil rfl ?_
      refine blk_n ?_
      refine then_n ?_
      refine wp_seq ?_
      refine c_reg ?_
      refine q_seg (S := (fun x_ => St w0 x_ (Res.box b [Value.slice A n c, Value.int .i64 ix30, Value.int .i64 hx31] 95 :: Res.row (Value.slice (some ⟨blk16, 0, none⟩) (List.length bs) cv4) 5 1 (List.length bs) ((List.set bs (Int.toNat xd20) xd29).map (Value.int .u8)) :: Res.row (Value.slice bsA (List.length bs) bsc) 5 1 (List.length bs) (bs.map (Value.int .u8)) :: tl))) [(4, Value.slice (some ⟨blk16, 0, none⟩) (List.length bs) cv4), (43, Value.slice (some ⟨blk16, 0, none⟩) (List.length bs) cv4)] [.no, .no] True (by kernel_rfl) trivial hS35 ?_
      refine l_nil rfl ?_
      refine then_n ?_
      refine wp_ret ?_
      have hS35s1 : St w0 w35 (Res.row (Value.slice bsA (List.length bs) bsc) 5 1 (List.length bs) (bs.map (Value.int .u8)) :: Res.box b [Value.slice A n c, Value.int .i64 ix30, Value.int .i64 hx31] 95 :: Res.row (Value.slice (some ⟨blk16, 0, none⟩) (List.length bs) cv4) 5 1 (List.length bs) ((List.set bs (Int.toNat xd20) xd29).map (Value.int .u8)) :: tl) := hS35.front 2 rfl
      have hS35s1s2 : St w0 w35 (Res.box b [Value.slice A n c, Value.int .i64 ix30, Value.int .i64 hx31] 95 :: Res.row (Value.slice bsA (List.length bs) bsc) 5 1 (List.length bs) (bs.map (Value.int .u8)) :: Res.row (Value.slice (some ⟨blk16, 0, none⟩) (List.length bs) cv4) 5 1 (List.length bs) ((List.set bs (Int.toNat xd20) xd29).map (Value.int .u8)) :: tl) := hS35s1.front 1 rfl
      have hS35s1s2s3 : St w0 w35 (Res.row (Value.slice (some ⟨blk16, 0, none⟩) (List.length bs) cv4) 5 1 (List.length bs) ((List.set bs (Int.toNat xd20) xd29).map (Value.int .u8)) :: Res.box b [Value.slice A n c, Value.int .i64 ix30, Value.int .i64 hx31] 95 :: Res.row (Value.slice bsA (List.length bs) bsc) 5 1 (List.length bs) (bs.map (Value.int .u8)) :: tl) := hS35s1s2.front 2 rfl
      exact c_end (S := (fun x_ => St w0 x_ (Res.box b [Value.slice A n c, Value.int .i64 ix30, Value.int .i64 hx31] 95 :: Res.row (Value.slice (some ⟨blk16, 0, none⟩) (List.length bs) cv4) 5 1 (List.length bs) ((List.set bs (Int.toNat xd20) xd29).map (Value.int .u8)) :: Res.row (Value.slice bsA (List.length bs) bsc) 5 1 (List.length bs) (bs.map (Value.int .u8)) :: tl))) (rs := [.tmp 4]) rfl [] (v := Value.slice (some ⟨blk16, 0, none⟩) (List.length bs) cv4) (C := True) (by kernel_rfl) trivial hS35 (⟨_, _, rfl, hS35s1s2s3, ix30, hx31, (List.set bs (Int.toNat xd20) xd29), (some ⟨blk16, 0, none⟩), cv4, (by simp [zrow_one]), (by simp [zrow_one]), hC32, (okz_set hbs0 (wf_u8 (by omega) (by omega))), (by rw [List.length_set]; omega)⟩)
    · skip
      have hb15p := of_decide_eq_false hb15
      refine c_false (b := (decide ((0 : Int) < (((List.length bs) : Nat) : Int)))) (by kernel_rfl) hb15 ?_
      refine wp_skip ?_
      refine blk_n ?_
      refine then_n ?_
      refine wp_seq ?_
      refine c_reg ?_
      refine q_seg (S := (fun x_ => St w0 x_ (Res.box b [Value.slice A n c, Value.int .i64 ix9, Value.int .i64 hx10] 95 :: Res.row (Value.slice Av4 (List.length bs) cv4) 5 1 (List.length bs) (bs.map (Value.int .u8)) :: Res.row (Value.slice bsA (List.length bs) bsc) 5 1 (List.length bs) (bs.map (Value.int .u8)) :: tl))) [(4, Value.slice Av4 (List.length bs) cv4), (43, Value.slice Av4 (List.length bs) cv4)] [.no, .no] True (by kernel_rfl) trivial hS5 ?_
      refine l_nil rfl ?_
      refine then_n ?_
      refine wp_ret ?_
      have hS5s4 : St w0 w5 (Res.row (Value.slice bsA (List.length bs) bsc) 5 1 (List.length bs) (bs.map (Value.int .u8)) :: Res.box b [Value.slice A n c, Value.int .i64 ix9, Value.int .i64 hx10] 95 :: Res.row (Value.slice Av4 (List.length bs) cv4) 5 1 (List.length bs) (bs.map (Value.int .u8)) :: tl) := hS5.front 2 rfl
      have hS5s4s5 : St w0 w5 (Res.box b [Value.slice A n c, Value.int .i64 ix9, Value.int .i64 hx10] 95 :: Res.row (Value.slice bsA (List.length bs) bsc) 5 1 (List.length bs) (bs.map (Value.int .u8)) :: Res.row (Value.slice Av4 (List.length bs) cv4) 5 1 (List.length bs) (bs.map (Value.int .u8)) :: tl) := hS5s4.front 1 rfl
      have hS5s4s5s6 : St w0 w5 (Res.row (Value.slice Av4 (List.length bs) cv4) 5 1 (List.length bs) (bs.map (Value.int .u8)) :: Res.box b [Value.slice A n c, Value.int .i64 ix9, Value.int .i64 hx10] 95 :: Res.row (Value.slice bsA (List.length bs) bsc) 5 1 (List.length bs) (bs.map (Value.int .u8)) :: tl) := hS5s4s5.front 2 rfl
      exact c_end (S := (fun x_ => St w0 x_ (Res.box b [Value.slice A n c, Value.int .i64 ix9, Value.int .i64 hx10] 95 :: Res.row (Value.slice Av4 (List.length bs) cv4) 5 1 (List.length bs) (bs.map (Value.int .u8)) :: Res.row (Value.slice bsA (List.length bs) bsc) 5 1 (List.length bs) (bs.map (Value.int .u8)) :: tl))) (rs := [.tmp 4]) rfl [] (v := Value.slice Av4 (List.length bs) cv4) (C := True) (by kernel_rfl) trivial hS5 (⟨_, _, rfl, hS5s4s5s6, ix9, hx10, bs, Av4, cv4, rfl, rfl, hC11, hbs0, (by omega)⟩)
  · skip
    have hb14p := of_decide_eq_false hb14
    refine c_false (b := (decide (xd8 = (0 : Int)))) (by kernel_rfl) hb14 ?_
    refine wp_seq ?_
    refine c_reg ?_
    refine q_seg (S := (fun x_ => St w0 x_ (Res.box b [Value.slice A n c, Value.int .i64 ix9, Value.int .i64 hx10] 95 :: Res.row (Value.slice Av4 (List.length bs) cv4) 5 1 (List.length bs) (bs.map (Value.int .u8)) :: Res.row (Value.slice bsA (List.length bs) bsc) 5 1 (List.length bs) (bs.map (Value.int .u8)) :: tl))) [(25, Value.bool (decide (xd8 = (1 : Int)))), (26, Value.bool (decide (xd8 = (1 : Int))))] [.no, .no] True (by kernel_rfl) trivial hS5 ?_
    refine l_nil rfl ?_
    refine then_n ?_
    rcases Bool.eq_false_or_eq_true (decide (xd8 = (1 : Int))) with hb36 | hb36
    · skip
      have hb36p := of_decide_eq_true hb36
      refine c_true (b := (decide (xd8 = (1 : Int)))) (by kernel_rfl) hb36 ?_
      refine c_reg ?_
      refine q_seg (S := (fun x_ => St w0 x_ (Res.box b [Value.slice A n c, Value.int .i64 ix9, Value.int .i64 hx10] 95 :: Res.row (Value.slice Av4 (List.length bs) cv4) 5 1 (List.length bs) (bs.map (Value.int .u8)) :: Res.row (Value.slice bsA (List.length bs) bsc) 5 1 (List.length bs) (bs.map (Value.int .u8)) :: tl))) [(31, Value.int .i64 ((((List.length bs) : Nat) : Int) + (1 : Int))), (30, Value.int .i64 (((List.length bs) : Nat) : Int)), (29, Value.slice Av4 (List.length bs) cv4), (28, Value.pointer (some ⟨b, 0, none⟩)), (27, Value.slice Av4 (List.length bs) cv4)] [.no, .no, .no, .no, .no] ((InK .i64 ((((List.length bs) : Nat) : Int) + (1 : Int)))) (by kernel_rfl) (in64 (by omega) (by omega)) hS5 ?_
      refine l_op rfl rfl (fun K hK => op_callm (d := some 32) rfl rfl ⟨_, Try.func69, by kernel_rfl, by kernel_rfl⟩ (vs := [Value.pointer (some ⟨b, 0, none⟩), Value.int .i64 ((((List.length bs) : Nat) : Int) + (1 : Int))]) (by kernel_rfl) (l1Below_s_c b A n c ix9 hx10 ((((List.length bs) : Nat) : Int) + (1 : Int)) _ w0 w5 hS5 hC11 (by omega)) (fun v38 new39 w37 Rw37 hS37 => ?_))
      obtain ⟨ix41, hx42, xd40, rfl, rfl, hC43, hf44, hf45⟩ := Rw37
      refine hK _ _ ?_
      clear hK K
      refine q_seg (S := (fun x_ => St w0 x_ (Res.box b [Value.slice A n c, Value.int .i64 ix41, Value.int .i64 hx42] 95 :: Res.row (Value.slice Av4 (List.length bs) cv4) 5 1 (List.length bs) (bs.map (Value.int .u8)) :: Res.row (Value.slice bsA (List.length bs) bsc) 5 1 (List.length bs) (bs.map (Value.int .u8)) :: tl))) [(5, Value.slice (cutA Av4 cv4 0 1) ((Int.toNat xd40) - 0) (cv4 - 0)), (33, Value.slice (cutA Av4 cv4 0 1) ((Int.toNat xd40) - 0) (cv4 - 0))] [.no, .no] (((0 : Int) ≤ (0 : Int)) ∧ ((0 : Int) ≤ xd40) ∧ (xd40 ≤ ((cv4 : Nat) : Int)) ∧ ((List.length bs) ≤ cv4)) (by kernel_rfl) ⟨(by omega), (by omega), (by omega), (by omega)⟩ hS37 ?_
      refine l_nil rfl ?_
      refine blk_n ?_
      refine then_n ?_
      refine wp_seq ?_
      refine c_reg ?_
      refine q_seg (S := (fun x_ => St w0 x_ (Res.box b [Value.slice A n c, Value.int .i64 ix41, Value.int .i64 hx42] 95 :: Res.row (Value.slice Av4 (List.length bs) cv4) 5 1 (List.length bs) (bs.map (Value.int .u8)) :: Res.row (Value.slice bsA (List.length bs) bsc) 5 1 (List.length bs) (bs.map (Value.int .u8)) :: tl))) [(4, Value.slice (cutA Av4 cv4 0 1) ((Int.toNat xd40) - 0) (cv4 - 0)), (43, Value.slice (cutA Av4 cv4 0 1) ((Int.toNat xd40) - 0) (cv4 - 0))] [.no, .no] True (by kernel_rfl) trivial hS37 ?_
      refine l_nil rfl ?_
      refine then_n ?_
      refine wp_ret ?_
      have hS37s7 : St w0 w37 (Res.box b [Value.slice A n c, Value.int .i64 ix41, Value.int .i64 hx42] 95 :: Res.row (Value.slice (cutA Av4 cv4 0 1) ((Int.toNat xd40) - 0) (cv4 - 0)) 5 1 ((Int.toNat xd40) - 0) ((List.take (Int.toNat xd40) bs).map (Value.int .u8)) :: Res.row (Value.slice bsA (List.length bs) bsc) 5 1 (List.length bs) (bs.map (Value.int .u8)) :: tl) := (hS37.cutRow (i := 1) rfl (Int.toNat xd40) (by omega)).eqv (by first | (rw [← List.map_take]; done) | (rw [← List.map_take]; rfl))
      have hmin : List.length (List.take (Int.toNat xd40) bs) = (Int.toNat xd40) - 0 := by rw [List.length_take]; omega
      have hS37s7s8 : St w0 w37 (Res.row (Value.slice bsA (List.length bs) bsc) 5 1 (List.length bs) (bs.map (Value.int .u8)) :: Res.box b [Value.slice A n c, Value.int .i64 ix41, Value.int .i64 hx42] 95 :: Res.row (Value.slice (cutA Av4 cv4 0 1) ((Int.toNat xd40) - 0) (cv4 - 0)) 5 1 ((Int.toNat xd40) - 0) ((List.take (Int.toNat xd40) bs).map (Value.int .u8)) :: tl) := hS37s7.front 2 rfl
      have hS37s7s8s9 : St w0 w37 (Res.box b [Value.slice A n c, Value.int .i64 ix41, Value.int .i64 hx42] 95 :: Res.row (Value.slice bsA (List.length bs) bsc) 5 1 (List.length bs) (bs.map (Value.int .u8)) :: Res.row (Value.slice (cutA Av4 cv4 0 1) ((Int.toNat xd40) - 0) (cv4 - 0)) 5 1 ((Int.toNat xd40) - 0) ((List.take (Int.toNat xd40) bs).map (Value.int .u8)) :: tl) := hS37s7s8.front 1 rfl
      have hS37s7s8s9s10 : St w0 w37 (Res.row (Value.slice (cutA Av4 cv4 0 1) ((Int.toNat xd40) - 0) (cv4 - 0)) 5 1 ((Int.toNat xd40) - 0) ((List.take (Int.toNat xd40) bs).map (Value.int .u8)) :: Res.box b [Value.slice A n c, Value.int .i64 ix41, Value.int .i64 hx42] 95 :: Res.row (Value.slice bsA (List.length bs) bsc) 5 1 (List.length bs) (bs.map (Value.int .u8)) :: tl) := hS37s7s8s9.front 2 rfl
      exact c_end (S := (fun x_ => St w0 x_ (Res.box b [Value.slice A n c, Value.int .i64 ix41, Value.int .i64 hx42] 95 :: Res.row (Value.slice (cutA Av4 cv4 0 1) ((Int.toNat xd40) - 0) (cv4 - 0)) 5 1 ((Int.toNat xd40) - 0) ((List.take (Int.toNat xd40) bs).map (Value.int .u8)) :: Res.row (Value.slice bsA (List.length bs) bsc) 5 1 (List.length bs) (bs.map (Value.int .u8)) :: tl))) (rs := [.tmp 4]) rfl [] (v := Value.slice (cutA Av4 cv4 0 1) ((Int.toNat xd40) - 0) (cv4 - 0)) (C := True) (by kernel_rfl) trivial hS37s7 (⟨_, _, rfl, hS37s7s8s9s10, ix41, hx42, (List.take (Int.toNat xd40) bs), (cutA Av4 cv4 0 1), (cv4 - 0), (by rw [hmin]), (by rw [hmin]), hC43, (okz_take hbs0 _), (by omega)⟩)
    · skip
      have hb36p := of_decide_eq_false hb36
      refine c_false (b := (decide (xd8 = (1 : Int)))) (by kernel_rfl) hb36 ?_
      refine wp_seq ?_
      refine c_reg ?_
      refine q_seg (S := (fun x_ => St w0 x_ (Res.box b [Value.slice A n c, Value.int .i64 ix9, Value.int .i64 hx10] 95 :: Res.row (Value.slice Av4 (List.length bs) cv4) 5 1 (List.length bs) (bs.map (Value.int .u8)) :: Res.row (Value.slice bsA (List.length bs) bsc) 5 1 (List.length bs) (bs.map (Value.int .u8)) :: tl))) [(34, Value.bool (decide (xd8 = (2 : Int)))), (35, Value.bool (decide (xd8 = (2 : Int))))] [.no, .no] True (by kernel_rfl) trivial hS5 ?_
      refine l_nil rfl ?_
      refine then_n ?_
      rcases Bool.eq_false_or_eq_true (decide (xd8 = (2 : Int))) with hb46 | hb46
      · skip
        have hb46p := of_decide_eq_true hb46
        refine c_true (b := (decide (xd8 = (2 : Int)))) (by kernel_rfl) hb46 ?_
        refine c_reg ?_
        refine q_seg (S := (fun x_ => St w0 x_ (Res.box b [Value.slice A n c, Value.int .i64 ix9, Value.int .i64 hx10] 95 :: Res.row (Value.slice Av4 (List.length bs) cv4) 5 1 (List.length bs) (bs.map (Value.int .u8)) :: Res.row (Value.slice bsA (List.length bs) bsc) 5 1 (List.length bs) (bs.map (Value.int .u8)) :: tl))) [(37, Value.pointer (some ⟨b, 0, none⟩)), (36, Value.slice Av4 (List.length bs) cv4)] [.no, .no] True (by kernel_rfl) trivial hS5 ?_
        refine l_op rfl rfl (fun K hK => op_buildSlice (d := some 38) rfl rfl (e := 3) (by kernel_rfl) 1 (by kernel_rfl) (by decide) (by decide) [Value.int .i64 0, Value.int .i64 1, Value.int .i64 128, Value.int .i64 255] (by kernel_rfl) rfl hS5 (fun blk48 w47 hS47 => hK _ _ ?_))
        clear hK K
        refine l_op rfl rfl (fun K hK => op_callm (d := some 39) rfl rfl ⟨_, Try.func89, by kernel_rfl, by kernel_rfl⟩ (vs := [Value.pointer (some ⟨b, 0, none⟩), Value.slice (some ⟨blk48, 0, none⟩) 4 4]) (by kernel_rfl) (l1Int_s_c b A n c ix9 hx10 (some ⟨blk48, 0, none⟩) 4 ([0, 1, 128, 255]) _ w0 w47 (hS47.front 1 rfl) hC11 (by first | omega | decide | simp)) (fun v50 new51 w49 Rw49 hS49 => ?_))
        obtain ⟨ix53, hx54, xd52, rfl, rfl, hC55, hf56⟩ := Rw49
        simp only [List.mem_cons, List.mem_nil_iff, or_false, List.not_mem_nil] at hf56
        have hf56b : 0 ≤ xd52 ∧ xd52 ≤ 255 := by omega
        refine hK _ _ ?_
        clear hK K
        refine q_seg (S := (fun x_ => St w0 x_ (Res.box b [Value.slice A n c, Value.int .i64 ix53, Value.int .i64 hx54] 95 :: Res.row (Value.slice (some ⟨blk48, 0, none⟩) 4 4) 3 1 4 ([Value.int .i64 0, Value.int .i64 1, Value.int .i64 128, Value.int .i64 255]) :: Res.row (Value.slice Av4 (List.length bs) cv4) 5 1 (List.length bs) (bs.map (Value.int .u8)) :: Res.row (Value.slice bsA (List.length bs) bsc) 5 1 (List.length bs) (bs.map (Value.int .u8)) :: tl))) [(40, Value.int .u8 xd52)] [.no] ((InK .u8 xd52)) (by kernel_rfl) (in8 (by omega) (by omega)) hS49 ?_
        refine l_op rfl rfl (fun K hK => op_buildSlice (d := some 41) rfl rfl (e := 5) (by kernel_rfl) 1 (by kernel_rfl) (by decide) (by decide) [Value.int .u8 xd52] (by kernel_rfl) rfl hS49 (fun blk58 w57 hS57 => hK _ _ ?_))
        clear hK K
        refine l_op rfl rfl (fun K hK => op_append (d := some 42) rfl rfl elByte hS57 (i := 3) rfl rfl rfl (news := [Value.int .u8 xd52]) (hS57.rd (List.mem_of_getElem? (i := 0) rfl)) (all_one (by rfl)) (by omega) (by omega) (fun v60 w59 hS59 => hK _ _ ?_))
        clear hK K
        obtain ⟨hlv60, Av60, cv60, hvv60, hnv60, hmv60⟩ := hS59.row_slice (List.mem_of_getElem? (i := 3) rfl)
        subst hvv60
        refine q_seg (S := (fun x_ => St w0 x_ (Res.row (Value.slice (some ⟨blk58, 0, none⟩) 1 1) 5 1 1 ([Value.int .u8 xd52]) :: Res.box b [Value.slice A n c, Value.int .i64 ix53, Value.int .i64 hx54] 95 :: Res.row (Value.slice (some ⟨blk48, 0, none⟩) 4 4) 3 1 4 ([Value.int .i64 0, Value.int .i64 1, Value.int .i64 128, Value.int .i64 255]) :: Res.row (Value.slice Av60 ((List.length bs) + 1) cv60) 5 1 ((List.length bs) + 1) ((bs.map (Value.int .u8)) ++ [Value.int .u8 xd52]) :: Res.row (Value.slice bsA (List.length bs) bsc) 5 1 (List.length bs) (bs.map (Value.int .u8)) :: tl))) [(5, Value.slice Av60 ((List.length bs) + 1) cv60)] [.no] True (by kernel_rfl) trivial hS59 ?_
        refine l_nil rfl ?_
        refine blk_n ?_
        refine then_n ?_
        refine wp_seq ?_
        refine c_reg ?_
        refine q_seg (S := (fun x_ => St w0 x_ (Res.row (Value.slice (some ⟨blk58, 0, none⟩) 1 1) 5 1 1 ([Value.int .u8 xd52]) :: Res.box b [Value.slice A n c, Value.int .i64 ix53, Value.int .i64 hx54] 95 :: Res.row (Value.slice (some ⟨blk48, 0, none⟩) 4 4) 3 1 4 ([Value.int .i64 0, Value.int .i64 1, Value.int .i64 128, Value.int .i64 255]) :: Res.row (Value.slice Av60 ((List.length bs) + 1) cv60) 5 1 ((List.length bs) + 1) ((bs.map (Value.int .u8)) ++ [Value.int .u8 xd52]) :: Res.row (Value.slice bsA (List.length bs) bsc) 5 1 (List.length bs) (bs.map (Value.int .u8)) :: tl))) [(4, Value.slice Av60 ((List.length bs) + 1) cv60), (43, Value.slice Av60 ((List.length bs) + 1) cv60)] [.no, .no] True (by kernel_rfl) trivial hS59 ?_
        refine l_nil rfl ?_
        refine then_n ?_
        refine wp_ret ?_
        have hS59s11 : St w0 w59 (Res.box b [Value.slice A n c, Value.int .i64 ix53, Value.int .i64 hx54] 95 :: Res.row (Value.slice Av60 ((List.length bs) + 1) cv60) 5 1 ((List.length bs) + 1) ((bs.map (Value.int .u8)) ++ [Value.int .u8 xd52]) :: Res.row (Value.slice bsA (List.length bs) bsc) 5 1 (List.length bs) (bs.map (Value.int .u8)) :: tl) := (hS59.sub (List.Sublist.cons _ (List.Sublist.cons_cons _ (List.Sublist.cons _ (List.Sublist.cons_cons _ (List.Sublist.cons_cons _ (List.Sublist.refl _)))))))
        have hS59s11s12 : St w0 w59 (Res.row (Value.slice bsA (List.length bs) bsc) 5 1 (List.length bs) (bs.map (Value.int .u8)) :: Res.box b [Value.slice A n c, Value.int .i64 ix53, Value.int .i64 hx54] 95 :: Res.row (Value.slice Av60 ((List.length bs) + 1) cv60) 5 1 ((List.length bs) + 1) ((bs.map (Value.int .u8)) ++ [Value.int .u8 xd52]) :: tl) := hS59s11.front 2 rfl
        have hS59s11s12s13 : St w0 w59 (Res.box b [Value.slice A n c, Value.int .i64 ix53, Value.int .i64 hx54] 95 :: Res.row (Value.slice bsA (List.length bs) bsc) 5 1 (List.length bs) (bs.map (Value.int .u8)) :: Res.row (Value.slice Av60 ((List.length bs) + 1) cv60) 5 1 ((List.length bs) + 1) ((bs.map (Value.int .u8)) ++ [Value.int .u8 xd52]) :: tl) := hS59s11s12.front 1 rfl
        have hS59s11s12s13s14 : St w0 w59 (Res.row (Value.slice Av60 ((List.length bs) + 1) cv60) 5 1 ((List.length bs) + 1) ((bs.map (Value.int .u8)) ++ [Value.int .u8 xd52]) :: Res.box b [Value.slice A n c, Value.int .i64 ix53, Value.int .i64 hx54] 95 :: Res.row (Value.slice bsA (List.length bs) bsc) 5 1 (List.length bs) (bs.map (Value.int .u8)) :: tl) := hS59s11s12s13.front 2 rfl
        exact c_end (S := (fun x_ => St w0 x_ (Res.row (Value.slice (some ⟨blk58, 0, none⟩) 1 1) 5 1 1 ([Value.int .u8 xd52]) :: Res.box b [Value.slice A n c, Value.int .i64 ix53, Value.int .i64 hx54] 95 :: Res.row (Value.slice (some ⟨blk48, 0, none⟩) 4 4) 3 1 4 ([Value.int .i64 0, Value.int .i64 1, Value.int .i64 128, Value.int .i64 255]) :: Res.row (Value.slice Av60 ((List.length bs) + 1) cv60) 5 1 ((List.length bs) + 1) ((bs.map (Value.int .u8)) ++ [Value.int .u8 xd52]) :: Res.row (Value.slice bsA (List.length bs) bsc) 5 1 (List.length bs) (bs.map (Value.int .u8)) :: tl))) (rs := [.tmp 4]) rfl [] (v := Value.slice Av60 ((List.length bs) + 1) cv60) (C := True) (by kernel_rfl) trivial hS59 (⟨_, _, rfl, hS59s11s12s13s14, ix53, hx54, (bs ++ [xd52]), Av60, cv60, (by simp [zrow_one]), (by simp [zrow_one]), hC55, (okz_snoc8 hbs0 (by omega) (by omega)), (by rw [List.length_append, List.length_singleton]; omega)⟩)
      · skip
        have hb46p := of_decide_eq_false hb46
        refine c_false (b := (decide (xd8 = (2 : Int)))) (by kernel_rfl) hb46 ?_
        refine wp_skip ?_
        refine blk_n ?_
        refine then_n ?_
        refine wp_seq ?_
        refine c_reg ?_
        refine q_seg (S := (fun x_ => St w0 x_ (Res.box b [Value.slice A n c, Value.int .i64 ix9, Value.int .i64 hx10] 95 :: Res.row (Value.slice Av4 (List.length bs) cv4) 5 1 (List.length bs) (bs.map (Value.int .u8)) :: Res.row (Value.slice bsA (List.length bs) bsc) 5 1 (List.length bs) (bs.map (Value.int .u8)) :: tl))) [(4, Value.slice Av4 (List.length bs) cv4), (43, Value.slice Av4 (List.length bs) cv4)] [.no, .no] True (by kernel_rfl) trivial hS5 ?_
        refine l_nil rfl ?_
        refine then_n ?_
        refine wp_ret ?_
        have hS5s15 : St w0 w5 (Res.row (Value.slice bsA (List.length bs) bsc) 5 1 (List.length bs) (bs.map (Value.int .u8)) :: Res.box b [Value.slice A n c, Value.int .i64 ix9, Value.int .i64 hx10] 95 :: Res.row (Value.slice Av4 (List.length bs) cv4) 5 1 (List.length bs) (bs.map (Value.int .u8)) :: tl) := hS5.front 2 rfl
        have hS5s15s16 : St w0 w5 (Res.box b [Value.slice A n c, Value.int .i64 ix9, Value.int .i64 hx10] 95 :: Res.row (Value.slice bsA (List.length bs) bsc) 5 1 (List.length bs) (bs.map (Value.int .u8)) :: Res.row (Value.slice Av4 (List.length bs) cv4) 5 1 (List.length bs) (bs.map (Value.int .u8)) :: tl) := hS5s15.front 1 rfl
        have hS5s15s16s17 : St w0 w5 (Res.row (Value.slice Av4 (List.length bs) cv4) 5 1 (List.length bs) (bs.map (Value.int .u8)) :: Res.box b [Value.slice A n c, Value.int .i64 ix9, Value.int .i64 hx10] 95 :: Res.row (Value.slice bsA (List.length bs) bsc) 5 1 (List.length bs) (bs.map (Value.int .u8)) :: tl) := hS5s15s16.front 2 rfl
        exact c_end (S := (fun x_ => St w0 x_ (Res.box b [Value.slice A n c, Value.int .i64 ix9, Value.int .i64 hx10] 95 :: Res.row (Value.slice Av4 (List.length bs) cv4) 5 1 (List.length bs) (bs.map (Value.int .u8)) :: Res.row (Value.slice bsA (List.length bs) bsc) 5 1 (List.length bs) (bs.map (Value.int .u8)) :: tl))) (rs := [.tmp 4]) rfl [] (v := Value.slice Av4 (List.length bs) cv4) (C := True) (by kernel_rfl) trivial hS5 (⟨_, _, rfl, hS5s15s16s17, ix9, hx10, bs, Av4, cv4, rfl, rfl, hC11, hbs0, (by omega)⟩)
theorem DrawDecodeRadio_s_c (A : Option Addr) (n c : Nat) (zs : List Int) (w : World) (hn : n ≤ 1048576) (hz : okz .u8 zs) (hr : Rd w w.heap.size A n (zs.map (Value.int .u8))) : Calls Try.prog 24 #[.slice A n c] w (Ret w (fun v new => ∃ (z_ : List Int) (z_A : Option Addr) (z_c : Nat), v = Value.slice z_A (List.length z_) z_c ∧ new = (Res.row (Value.slice z_A (List.length z_) z_c) 5 1 (List.length z_) (z_.map (Value.int .u8)) :: []) ∧ (okz .u8 z_) ∧ (List.length z_ ≤ 2000))) := by
  have hzl := hr.len
  refine calls_FA Try.func24 rfl (n := 17) rfl (l := [(0, Value.slice A n c)]) rfl (by simp) (fun g => ?_)
  have hS := St.init w
  refine wp_seq ?_
  refine c_reg ?_
  refine q_seg (S := (fun x_ => St w x_ [])) [(2, Value.slice none 0 0)] [.no] True (by kernel_rfl) trivial hS ?_
  refine l_nil rfl ?_
  refine then_n ?_
  refine wp_seq ?_
  refine c_reg ?_
  refine q_seg (S := (fun x_ => St w x_ [])) [(6, Value.slice A n c)] [.no] True (by kernel_rfl) trivial hS ?_
  refine l_op rfl rfl (fun K hK => op_call (d := some 7) rfl rfl ⟨_, Try.func54, by kernel_rfl, by kernel_rfl⟩ (vs := [Value.slice A n c]) (by kernel_rfl) (l1New_c A n c zs w (by omega) hz (hS.rdlow hr)) hS (fun v2 new3 w1 Rw1 hS1 => hK _ _ ?_))
  clear hK K
  obtain ⟨blk4, hx5, rfl, rfl⟩ := Rw1
  have hC6 : CurI w A n 0 := CurI.zero (by omega) hz hr
  refine q_seg (S := (fun x_ => St w x_ [Res.box blk4 [Value.slice A n c, Value.int .i64 0, Value.int .i64 hx5] 95])) [(3, Value.pointer (some ⟨blk4, 0, none⟩))] [.no] True (by kernel_rfl) trivial hS1 ?_
  refine l_nil rfl ?_
  refine then_n ?_
  refine wp_seq ?_
  refine c_reg ?_
  refine q_seg (S := (fun x_ => St w x_ [Res.box blk4 [Value.slice A n c, Value.int .i64 0, Value.int .i64 hx5] 95])) [(9, Value.pointer (some ⟨blk4, 0, none⟩))] [.no] True (by kernel_rfl) trivial hS1 ?_
  refine l_op rfl rfl (fun K hK => op_callm (d := some 10) rfl rfl ⟨_, Try.func56, by kernel_rfl, by kernel_rfl⟩ (vs := [Value.pointer (some ⟨blk4, 0, none⟩)]) (by kernel_rfl) (l27Draw_s_c blk4 A n c 0 hx5  _ w w1 hS1 hC6 ) (fun v8 new9 w7 Rw7 hS7 => ?_))
  obtain ⟨ix17, hx18, kd10, gd11, ed12, dd13, cd14, zd15, zd15A, zd15c, md16, rfl, rfl, hC19, hf20, hf21, hf22, hf23, hf24, hf25, hf26, hf27, hf28, hf29, hf30, hf31, hf32, hf33⟩ := Rw7
  refine hK _ _ ?_
  clear hK K
  refine q_seg (S := (fun x_ => St w x_ [Res.row (Value.slice zd15A (List.length zd15) zd15c) 5 1 (List.length zd15) (zd15.map (Value.int .u8)), Res.box blk4 [Value.slice A n c, Value.int .i64 ix17, Value.int .i64 hx18] 95])) [(12, Value.agg #[Value.int .i64 gd11, Value.int .i64 ed12, Value.int .i64 dd13, Value.int .i64 cd14, Value.slice zd15A (List.length zd15) zd15c, Value.int .i64 md16]), (11, Value.int .i64 kd10), (8, Value.tuple #[Value.int .i64 kd10, Value.agg #[Value.int .i64 gd11, Value.int .i64 ed12, Value.int .i64 dd13, Value.int .i64 cd14, Value.slice zd15A (List.length zd15) zd15c, Value.int .i64 md16]])] [.no, .no, .no] True (by kernel_rfl) trivial hS7 ?_
  refine l_op rfl rfl (fun K hK => op_alloc (d := some 5) rfl rfl [Value.int .i64 0, Value.int .i64 0, Value.int .i64 0, Value.int .i64 0, Value.slice none 0 0, Value.int .i64 0] (by kernel_rfl) hS7 (fun blk35 w34 hS34 => hK _ _ ?_))
  clear hK K
  refine q_seg (S := (fun x_ => St w x_ [Res.box blk35 [Value.int .i64 0, Value.int .i64 0, Value.int .i64 0, Value.int .i64 0, Value.slice none 0 0, Value.int .i64 0] 34, Res.row (Value.slice zd15A (List.length zd15) zd15c) 5 1 (List.length zd15) (zd15.map (Value.int .u8)), Res.box blk4 [Value.slice A n c, Value.int .i64 ix17, Value.int .i64 hx18] 95])) [(4, Value.int .i64 kd10)] [.no] True (by kernel_rfl) trivial hS34 ?_
  refine l_op rfl rfl (fun K hK => op_store (d := none) rfl rfl (i := 0) (b := blk35) (off := 0) (cs := [Value.int .i64 0, Value.int .i64 0, Value.int .i64 0, Value.int .i64 0, Value.slice none 0 0, Value.int .i64 0]) (bt := 34) (by kernel_rfl) (by kernel_rfl) [Value.int .i64 gd11, Value.int .i64 ed12, Value.int .i64 dd13, Value.int .i64 cd14, Value.slice zd15A (List.length zd15) zd15c, Value.int .i64 md16] (by kernel_rfl) (by kernel_rfl) (Nat.le_of_ble_eq_true (by kernel_rfl)) (by kernel_rfl) [Res.box blk35 [Value.int .i64 gd11, Value.int .i64 ed12, Value.int .i64 dd13, Value.int .i64 cd14, Value.slice zd15A (List.length zd15) zd15c, Value.int .i64 md16] 34, Res.row (Value.slice zd15A (List.length zd15) zd15c) 5 1 (List.length zd15) (zd15.map (Value.int .u8)), Res.box blk4 [Value.slice A n c, Value.int .i64 ix17, Value.int .i64 hx18] 95] (by kernel_rfl) hS34 (fun w36 hS36 => hK _ _ ?_))
  clear hK K
  refine l_nil rfl ?_
  refine then_n ?_
  refine wp_seq ?_
  refine c_reg ?_
  refine q_seg (S := (fun x_ => St w x_ [Res.box blk35 [Value.int .i64 gd11, Value.int .i64 ed12, Value.int .i64 dd13, Value.int .i64 cd14, Value.slice zd15A (List.length zd15) zd15c, Value.int .i64 md16] 34, Res.row (Value.slice zd15A (List.length zd15) zd15c) 5 1 (List.length zd15) (zd15.map (Value.int .u8)), Res.box blk4 [Value.slice A n c, Value.int .i64 ix17, Value.int .i64 hx18] 95])) [(14, Value.agg #[Value.int .i64 gd11, Value.int .i64 ed12, Value.int .i64 dd13, Value.int .i64 cd14, Value.slice zd15A (List.length zd15) zd15c, Value.int .i64 md16]), (13, Value.pointer (some ⟨blk4, 0, none⟩))] [.no, .v (Value.agg #[Value.int .i64 gd11, Value.int .i64 ed12, Value.int .i64 dd13, Value.int .i64 cd14, Value.slice zd15A (List.length zd15) zd15c, Value.int .i64 md16])] ((LoadsAt Try.prog (fun x_ => St w x_ [Res.box blk35 [Value.int .i64 gd11, Value.int .i64 ed12, Value.int .i64 dd13, Value.int .i64 cd14, Value.slice zd15A (List.length zd15) zd15c, Value.int .i64 md16] 34, Res.row (Value.slice zd15A (List.length zd15) zd15c) 5 1 (List.length zd15) (zd15.map (Value.int .u8)), Res.box blk4 [Value.slice A n c, Value.int .i64 ix17, Value.int .i64 hx18] 95]) 34 ⟨blk35, 0, none⟩ (Value.agg #[Value.int .i64 gd11, Value.int .i64 ed12, Value.int .i64 dd13, Value.int .i64 cd14, Value.slice zd15A (List.length zd15) zd15c, Value.int .i64 md16]))) (by kernel_rfl) (ld_boxN (i := 0) (k := 6) rfl rfl rfl (by kernel_rfl)) hS36 ?_
  refine l_op rfl rfl (fun K hK => op_call (d := some 15) rfl rfl ⟨_, Try.func34, by kernel_rfl, by kernel_rfl⟩ (vs := [Value.agg #[Value.int .i64 gd11, Value.int .i64 ed12, Value.int .i64 dd13, Value.int .i64 cd14, Value.slice zd15A (List.length zd15) zd15c, Value.int .i64 md16]]) (by kernel_rfl) (EncodeRadio_s_c gd11 ed12 dd13 cd14 zd15A (List.length zd15) zd15c zd15 md16 w36 (hS36.rd (List.mem_of_getElem? (i := 1) rfl)).u1 (by omega) hf30) hS36 (fun v39 new40 w37 Rw37 hS37 => hK _ _ ?_))
  clear hK K
  have hlq38n0 : (List.length (erad gd11 ed12 dd13 cd14 zd15 md16)) ≤ 96 := erad_len _ _ _ _ _ _
  obtain ⟨Aq41, cq42, rfl, rfl⟩ := Rw37
  refine l_op rfl rfl (fun K hK => op_callm (d := some 16) rfl rfl ⟨_, Try.func57, by kernel_rfl, by kernel_rfl⟩ (vs := [Value.pointer (some ⟨blk4, 0, none⟩), Value.slice Aq41 (List.length (erad gd11 ed12 dd13 cd14 zd15 md16)) cq42]) (by kernel_rfl) (l1Bent_s_c blk4 A n c ix17 hx18 Aq41 cq42 (erad gd11 ed12 dd13 cd14 zd15 md16) _ w w37 (hS37.front 3 rfl) hC19 (erad_ok hf30) (by omega)) (fun v44 new45 w43 Rw43 hS43 => ?_))
  obtain ⟨ix47, hx48, zd46, zd46A, zd46c, rfl, rfl, hC49, hf50, hf51⟩ := Rw43
  refine hK _ _ ?_
  clear hK K
  refine q_seg (S := (fun x_ => St w x_ [Res.row (Value.slice zd46A (List.length zd46) zd46c) 5 1 (List.length zd46) (zd46.map (Value.int .u8)), Res.box blk4 [Value.slice A n c, Value.int .i64 ix47, Value.int .i64 hx48] 95, Res.row (Value.slice Aq41 (List.length (erad gd11 ed12 dd13 cd14 zd15 md16)) cq42) 5 1 (List.length (erad gd11 ed12 dd13 cd14 zd15 md16)) ((erad gd11 ed12 dd13 cd14 zd15 md16).map (Value.int .u8)), Res.box blk35 [Value.int .i64 gd11, Value.int .i64 ed12, Value.int .i64 dd13, Value.int .i64 cd14, Value.slice zd15A (List.length zd15) zd15c, Value.int .i64 md16] 34, Res.row (Value.slice zd15A (List.length zd15) zd15c) 5 1 (List.length zd15) (zd15.map (Value.int .u8))])) [(2, Value.slice zd46A (List.length zd46) zd46c)] [.no] True (by kernel_rfl) trivial hS43 ?_
  refine l_nil rfl ?_
  refine then_n ?_
  refine wp_ret ?_
  have hS43s1 : St w w43 [Res.row (Value.slice zd46A (List.length zd46) zd46c) 5 1 (List.length zd46) (zd46.map (Value.int .u8))] := (hS43.sub (List.Sublist.cons_cons _ (List.Sublist.cons _ (List.Sublist.cons _ (List.Sublist.cons _ (List.Sublist.cons _ List.Sublist.slnil))))))
  exact c_end (S := (fun x_ => St w x_ [Res.row (Value.slice zd46A (List.length zd46) zd46c) 5 1 (List.length zd46) (zd46.map (Value.int .u8)), Res.box blk4 [Value.slice A n c, Value.int .i64 ix47, Value.int .i64 hx48] 95, Res.row (Value.slice Aq41 (List.length (erad gd11 ed12 dd13 cd14 zd15 md16)) cq42) 5 1 (List.length (erad gd11 ed12 dd13 cd14 zd15 md16)) ((erad gd11 ed12 dd13 cd14 zd15 md16).map (Value.int .u8)), Res.box blk35 [Value.int .i64 gd11, Value.int .i64 ed12, Value.int .i64 dd13, Value.int .i64 cd14, Value.slice zd15A (List.length zd15) zd15c, Value.int .i64 md16] 34, Res.row (Value.slice zd15A (List.length zd15) zd15c) 5 1 (List.length zd15) (zd15.map (Value.int .u8))])) (rs := [.tmp 2]) rfl [] (v := Value.slice zd46A (List.length zd46) zd46c) (C := True) (by kernel_rfl) trivial hS43 (hS43s1.rt ⟨zd46, zd46A, zd46c, rfl, rfl, hf50, (by omega)⟩)
theorem sameSecured_c (a0 : Int) (a1 : Int) (a2A : Option Addr) (a2n a2c : Nat) (a2z : List Int) (a3 : Int) (b0 : Int) (b1 : Int) (b2A : Option Addr) (b2n b2c : Nat) (b2z : List Int) (b3 : Int) (w : World) (a2h : Rd w w.heap.size a2A a2n (a2z.map (Value.int .u8))) (a2w : a2n ≤ 1099511627776) (a2o : okz .u8 a2z) (b2h : Rd w w.heap.size b2A b2n (b2z.map (Value.int .u8))) (b2w : b2n ≤ 1099511627776) (b2o : okz .u8 b2z) : Calls Try.prog 67 #[Value.agg #[Value.int .i64 a0, Value.int .i64 a1, Value.slice a2A a2n a2c, Value.int .i64 a3], Value.agg #[Value.int .i64 b0, Value.int .i64 b1, Value.slice b2A b2n b2c, Value.int .i64 b3]] w (RetV w (.bool (((decide (a0 = b0) && decide (a1 = b1)) && decide (a3 = b3)) && decide (a2z = b2z)))) := by
  have a2l := a2h.len
  have b2l := b2h.len
  refine calls_FA Try.func67 rfl (n := 31) rfl (l := [(0, Value.agg #[Value.int .i64 a0, Value.int .i64 a1, Value.slice a2A a2n a2c, Value.int .i64 a3]), (1, Value.agg #[Value.int .i64 b0, Value.int .i64 b1, Value.slice b2A b2n b2c, Value.int .i64 b3])]) rfl (by simp) (fun g => ?_)
  have hS := St.init w
  refine wp_seq ?_
  refine c_reg ?_
  refine l_op rfl rfl (fun K hK => op_box (d := some 2) rfl rfl [Value.int .i64 a0, Value.int .i64 a1, Value.slice a2A a2n a2c, Value.int .i64 a3] (by kernel_rfl) hS (fun blk2 w1 hS1 => hK _ _ ?_))
  clear hK K
  refine l_op rfl rfl (fun K hK => op_box (d := some 3) rfl rfl [Value.int .i64 b0, Value.int .i64 b1, Value.slice b2A b2n b2c, Value.int .i64 b3] (by kernel_rfl) hS1 (fun blk4 w3 hS3 => hK _ _ ?_))
  clear hK K
  refine q_seg (S := (fun x_ => St w x_ [Res.box blk4 [Value.int .i64 b0, Value.int .i64 b1, Value.slice b2A b2n b2c, Value.int .i64 b3] 32, Res.box blk2 [Value.int .i64 a0, Value.int .i64 a1, Value.slice a2A a2n a2c, Value.int .i64 a3] 32])) [(4, Value.bool false)] [.no] True (by kernel_rfl) trivial hS3 ?_
  refine l_nil rfl ?_
  refine then_n ?_
  refine wp_seq ?_
  refine c_reg ?_
  refine q_seg (S := (fun x_ => St w x_ [Res.box blk4 [Value.int .i64 b0, Value.int .i64 b1, Value.slice b2A b2n b2c, Value.int .i64 b3] 32, Res.box blk2 [Value.int .i64 a0, Value.int .i64 a1, Value.slice a2A a2n a2c, Value.int .i64 a3] 32])) [(10, Value.bool (decide (a0 = b0))), (9, Value.bool (decide (a0 = b0))), (8, Value.int .i64 b0), (7, Value.pointer (some ⟨blk4, 0 + 0, none⟩)), (6, Value.int .i64 a0), (5, Value.pointer (some ⟨blk2, 0 + 0, none⟩))] [.no, .v (Value.int .i64 a0), .no, .v (Value.int .i64 b0), .no, .no] ((LoadsAt Try.prog (fun x_ => St w x_ [Res.box blk4 [Value.int .i64 b0, Value.int .i64 b1, Value.slice b2A b2n b2c, Value.int .i64 b3] 32, Res.box blk2 [Value.int .i64 a0, Value.int .i64 a1, Value.slice a2A a2n a2c, Value.int .i64 a3] 32]) 3 ⟨blk2, 0 + 0, none⟩ (Value.int .i64 a0)) ∧ (LoadsAt Try.prog (fun x_ => St w x_ [Res.box blk4 [Value.int .i64 b0, Value.int .i64 b1, Value.slice b2A b2n b2c, Value.int .i64 b3] 32, Res.box blk2 [Value.int .i64 a0, Value.int .i64 a1, Value.slice a2A a2n a2c, Value.int .i64 a3] 32]) 3 ⟨blk4, 0 + 0, none⟩ (Value.int .i64 b0))) (by kernel_rfl) ⟨(ld_box (i := 1) rfl rfl (by kernel_rfl)), (ld_box (i := 0) rfl rfl (by kernel_rfl))⟩ hS3 ?_
  rcases Bool.eq_false_or_eq_true (decide (a0 = b0)) with hb5 | hb5
  · skip
    have hb5p := of_decide_eq_true hb5
    refine q_seg (S := (fun x_ => St w x_ [Res.box blk4 [Value.int .i64 b0, Value.int .i64 b1, Value.slice b2A b2n b2c, Value.int .i64 b3] 32, Res.box blk2 [Value.int .i64 a0, Value.int .i64 a1, Value.slice a2A a2n a2c, Value.int .i64 a3] 32])) [(17, Value.bool (decide (a1 = b1))), (16, Value.bool (decide (a1 = b1))), (15, Value.bool (decide (a1 = b1))), (14, Value.int .i64 b1), (13, Value.pointer (some ⟨blk4, 0 + 1, none⟩)), (12, Value.int .i64 a1), (11, Value.pointer (some ⟨blk2, 0 + 1, none⟩))] [.no, .v (Value.int .i64 a1), .no, .v (Value.int .i64 b1), .no, .v (.bool true), .no] (((decide (a0 = b0)) = true) ∧ ((decide (a0 = b0)) = true) ∧ (LoadsAt Try.prog (fun x_ => St w x_ [Res.box blk4 [Value.int .i64 b0, Value.int .i64 b1, Value.slice b2A b2n b2c, Value.int .i64 b3] 32, Res.box blk2 [Value.int .i64 a0, Value.int .i64 a1, Value.slice a2A a2n a2c, Value.int .i64 a3] 32]) 3 ⟨blk2, 0 + 1, none⟩ (Value.int .i64 a1)) ∧ ((decide (a0 = b0)) = true) ∧ ((decide (a0 = b0)) = true) ∧ (LoadsAt Try.prog (fun x_ => St w x_ [Res.box blk4 [Value.int .i64 b0, Value.int .i64 b1, Value.slice b2A b2n b2c, Value.int .i64 b3] 32, Res.box blk2 [Value.int .i64 a0, Value.int .i64 a1, Value.slice a2A a2n a2c, Value.int .i64 a3] 32]) 3 ⟨blk4, 0 + 1, none⟩ (Value.int .i64 b1)) ∧ ((decide (a0 = b0)) = true) ∧ ((decide (a0 = b0)) = true)) (by kernel_rfl) ⟨hb5, hb5, (ld_box (i := 1) rfl rfl (by kernel_rfl)), hb5, hb5, (ld_box (i := 0) rfl rfl (by kernel_rfl)), hb5, hb5⟩ hS3 ?_
    rcases Bool.eq_false_or_eq_true (decide (a1 = b1)) with hb6 | hb6
    · skip
      have hb6p := of_decide_eq_true hb6
      refine q_seg (S := (fun x_ => St w x_ [Res.box blk4 [Value.int .i64 b0, Value.int .i64 b1, Value.slice b2A b2n b2c, Value.int .i64 b3] 32, Res.box blk2 [Value.int .i64 a0, Value.int .i64 a1, Value.slice a2A a2n a2c, Value.int .i64 a3] 32])) [(24, Value.bool (decide (a3 = b3))), (23, Value.bool (decide (a3 = b3))), (22, Value.bool (decide (a3 = b3))), (21, Value.int .i64 b3), (20, Value.pointer (some ⟨blk4, 0 + 3, none⟩)), (19, Value.int .i64 a3), (18, Value.pointer (some ⟨blk2, 0 + 3, none⟩))] [.no, .v (Value.int .i64 a3), .no, .v (Value.int .i64 b3), .no, .v (.bool true), .no] (((decide (a1 = b1)) = true) ∧ ((decide (a1 = b1)) = true) ∧ (LoadsAt Try.prog (fun x_ => St w x_ [Res.box blk4 [Value.int .i64 b0, Value.int .i64 b1, Value.slice b2A b2n b2c, Value.int .i64 b3] 32, Res.box blk2 [Value.int .i64 a0, Value.int .i64 a1, Value.slice a2A a2n a2c, Value.int .i64 a3] 32]) 3 ⟨blk2, 0 + 3, none⟩ (Value.int .i64 a3)) ∧ ((decide (a1 = b1)) = true) ∧ ((decide (a1 = b1)) = true) ∧ (LoadsAt Try.prog (fun x_ => St w x_ [Res.box blk4 [Value.int .i64 b0, Value.int .i64 b1, Value.slice b2A b2n b2c, Value.int .i64 b3] 32, Res.box blk2 [Value.int .i64 a0, Value.int .i64 a1, Value.slice a2A a2n a2c, Value.int .i64 a3] 32]) 3 ⟨blk4, 0 + 3, none⟩ (Value.int .i64 b3)) ∧ ((decide (a1 = b1)) = true) ∧ ((decide (a1 = b1)) = true)) (by kernel_rfl) ⟨hb6, hb6, (ld_box (i := 1) rfl rfl (by kernel_rfl)), hb6, hb6, (ld_box (i := 0) rfl rfl (by kernel_rfl)), hb6, hb6⟩ hS3 ?_
      rcases Bool.eq_false_or_eq_true (decide (a3 = b3)) with hb7 | hb7
      · skip
        have hb7p := of_decide_eq_true hb7
        refine q_seg (S := (fun x_ => St w x_ [Res.box blk4 [Value.int .i64 b0, Value.int .i64 b1, Value.slice b2A b2n b2c, Value.int .i64 b3] 32, Res.box blk2 [Value.int .i64 a0, Value.int .i64 a1, Value.slice a2A a2n a2c, Value.int .i64 a3] 32])) [(28, Value.slice b2A b2n b2c), (27, Value.pointer (some ⟨blk4, 0 + 2, none⟩)), (26, Value.slice a2A a2n a2c), (25, Value.pointer (some ⟨blk2, 0 + 2, none⟩))] [.no, .v (Value.slice a2A a2n a2c), .no, .v (Value.slice b2A b2n b2c)] (((decide (a3 = b3)) = true) ∧ ((decide (a3 = b3)) = true) ∧ (LoadsAt Try.prog (fun x_ => St w x_ [Res.box blk4 [Value.int .i64 b0, Value.int .i64 b1, Value.slice b2A b2n b2c, Value.int .i64 b3] 32, Res.box blk2 [Value.int .i64 a0, Value.int .i64 a1, Value.slice a2A a2n a2c, Value.int .i64 a3] 32]) 22 ⟨blk2, 0 + 2, none⟩ (Value.slice a2A a2n a2c)) ∧ ((decide (a3 = b3)) = true) ∧ ((decide (a3 = b3)) = true) ∧ (LoadsAt Try.prog (fun x_ => St w x_ [Res.box blk4 [Value.int .i64 b0, Value.int .i64 b1, Value.slice b2A b2n b2c, Value.int .i64 b3] 32, Res.box blk2 [Value.int .i64 a0, Value.int .i64 a1, Value.slice a2A a2n a2c, Value.int .i64 a3] 32]) 22 ⟨blk4, 0 + 2, none⟩ (Value.slice b2A b2n b2c))) (by kernel_rfl) ⟨hb7, hb7, (ld_box (i := 1) rfl rfl (by kernel_rfl)), hb7, hb7, (ld_box (i := 0) rfl rfl (by kernel_rfl))⟩ hS3 ?_
        refine l_opg rfl (b := (decide (a3 = b3))) (want := true) (by kernel_rfl) hb7 (fun K hK => op_callv (d := some 29) rfl rfl ⟨_, Try.func30, by kernel_rfl, by kernel_rfl⟩ (vs := [Value.slice a2A a2n a2c, Value.slice b2A b2n b2c]) (by kernel_rfl) (v := Value.bool (decide (a2z = b2z))) (sameBytes_c a2A b2A a2n a2c b2n b2c a2z b2z w3 (by omega) (by omega) (hS3.rdlow a2h) (hS3.rdlow b2h)) hS3 (fun w8 hS8 => hK _ _ ?_))
        clear hK K
        refine q_seg (S := (fun x_ => St w x_ [Res.box blk4 [Value.int .i64 b0, Value.int .i64 b1, Value.slice b2A b2n b2c, Value.int .i64 b3] 32, Res.box blk2 [Value.int .i64 a0, Value.int .i64 a1, Value.slice a2A a2n a2c, Value.int .i64 a3] 32])) [(4, Value.bool (decide (a2z = b2z))), (30, Value.bool (decide (a2z = b2z)))] [.v (.bool true), .no] (((decide (a3 = b3)) = true)) (by kernel_rfl) hb7 hS8 ?_
        refine l_nil rfl ?_
        refine then_n ?_
        refine wp_ret ?_
        exact c_end (S := (fun x_ => St w x_ [Res.box blk4 [Value.int .i64 b0, Value.int .i64 b1, Value.slice b2A b2n b2c, Value.int .i64 b3] 32, Res.box blk2 [Value.int .i64 a0, Value.int .i64 a1, Value.slice a2A a2n a2c, Value.int .i64 a3] 32])) (rs := [.tmp 4]) rfl [] (v := Value.bool (decide (a2z = b2z))) (C := True) (by kernel_rfl) trivial hS8 ((hS8.rv (congrArg Value.bool (by first | rfl | simp [*]))))
      · skip
        have hb7p := of_decide_eq_false hb7
        refine q_seg (S := (fun x_ => St w x_ [Res.box blk4 [Value.int .i64 b0, Value.int .i64 b1, Value.slice b2A b2n b2c, Value.int .i64 b3] 32, Res.box blk2 [Value.int .i64 a0, Value.int .i64 a1, Value.slice a2A a2n a2c, Value.int .i64 a3] 32])) [(4, Value.bool false), (30, Value.bool false), (29, undef), (28, undef), (27, undef), (26, undef), (25, undef)] [.skip, .skip, .skip, .skip, .skip, .v (.bool false), .no] (((decide (a3 = b3)) = !true) ∧ ((decide (a3 = b3)) = !true) ∧ ((decide (a3 = b3)) = !true) ∧ ((decide (a3 = b3)) = !true) ∧ ((decide (a3 = b3)) = !true) ∧ ((decide (a3 = b3)) = false)) (by kernel_rfl) ⟨hb7, hb7, hb7, hb7, hb7, hb7⟩ hS3 ?_
        refine l_nil rfl ?_
        refine then_n ?_
        refine wp_ret ?_
        exact c_end (S := (fun x_ => St w x_ [Res.box blk4 [Value.int .i64 b0, Value.int .i64 b1, Value.slice b2A b2n b2c, Value.int .i64 b3] 32, Res.box blk2 [Value.int .i64 a0, Value.int .i64 a1, Value.slice a2A a2n a2c, Value.int .i64 a3] 32])) (rs := [.tmp 4]) rfl [] (v := Value.bool false) (C := True) (by kernel_rfl) trivial hS3 ((hS3.rv (congrArg Value.bool (by first | rfl | simp [*]))))
    · skip
      have hb6p := of_decide_eq_false hb6
      refine q_seg (S := (fun x_ => St w x_ [Res.box blk4 [Value.int .i64 b0, Value.int .i64 b1, Value.slice b2A b2n b2c, Value.int .i64 b3] 32, Res.box blk2 [Value.int .i64 a0, Value.int .i64 a1, Value.slice a2A a2n a2c, Value.int .i64 a3] 32])) [(4, Value.bool false), (30, Value.bool false), (29, undef), (28, undef), (27, undef), (26, undef), (25, undef), (24, Value.bool false), (23, Value.bool false), (22, undef), (21, undef), (20, undef), (19, undef), (18, undef)] [.skip, .skip, .skip, .skip, .skip, .v (.bool false), .no, .skip, .skip, .skip, .skip, .skip, .v (.bool false), .no] (((decide (a1 = b1)) = !true) ∧ ((decide (a1 = b1)) = !true) ∧ ((decide (a1 = b1)) = !true) ∧ ((decide (a1 = b1)) = !true) ∧ ((decide (a1 = b1)) = !true) ∧ ((decide (a1 = b1)) = false) ∧ (false = !true) ∧ (false = !true) ∧ (false = !true) ∧ (false = !true) ∧ (false = !true) ∧ (false = false)) (by kernel_rfl) ⟨hb6, hb6, hb6, hb6, hb6, hb6, rfl, rfl, rfl, rfl, rfl, rfl⟩ hS3 ?_
      refine l_nil rfl ?_
      refine then_n ?_
      refine wp_ret ?_
      exact c_end (S := (fun x_ => St w x_ [Res.box blk4 [Value.int .i64 b0, Value.int .i64 b1, Value.slice b2A b2n b2c, Value.int .i64 b3] 32, Res.box blk2 [Value.int .i64 a0, Value.int .i64 a1, Value.slice a2A a2n a2c, Value.int .i64 a3] 32])) (rs := [.tmp 4]) rfl [] (v := Value.bool false) (C := True) (by kernel_rfl) trivial hS3 ((hS3.rv (congrArg Value.bool (by first | rfl | simp [*]))))
  · skip
    have hb5p := of_decide_eq_false hb5
    refine q_seg (S := (fun x_ => St w x_ [Res.box blk4 [Value.int .i64 b0, Value.int .i64 b1, Value.slice b2A b2n b2c, Value.int .i64 b3] 32, Res.box blk2 [Value.int .i64 a0, Value.int .i64 a1, Value.slice a2A a2n a2c, Value.int .i64 a3] 32])) [(4, Value.bool false), (30, Value.bool false), (29, undef), (28, undef), (27, undef), (26, undef), (25, undef), (24, Value.bool false), (23, Value.bool false), (22, undef), (21, undef), (20, undef), (19, undef), (18, undef), (17, Value.bool false), (16, Value.bool false), (15, undef), (14, undef), (13, undef), (12, undef), (11, undef)] [.skip, .skip, .skip, .skip, .skip, .v (.bool false), .no, .skip, .skip, .skip, .skip, .skip, .v (.bool false), .no, .skip, .skip, .skip, .skip, .skip, .v (.bool false), .no] (((decide (a0 = b0)) = !true) ∧ ((decide (a0 = b0)) = !true) ∧ ((decide (a0 = b0)) = !true) ∧ ((decide (a0 = b0)) = !true) ∧ ((decide (a0 = b0)) = !true) ∧ ((decide (a0 = b0)) = false) ∧ (false = !true) ∧ (false = !true) ∧ (false = !true) ∧ (false = !true) ∧ (false = !true) ∧ (false = false) ∧ (false = !true) ∧ (false = !true) ∧ (false = !true) ∧ (false = !true) ∧ (false = !true) ∧ (false = false)) (by kernel_rfl) ⟨hb5, hb5, hb5, hb5, hb5, hb5, rfl, rfl, rfl, rfl, rfl, rfl, rfl, rfl, rfl, rfl, rfl, rfl⟩ hS3 ?_
    refine l_nil rfl ?_
    refine then_n ?_
    refine wp_ret ?_
    exact c_end (S := (fun x_ => St w x_ [Res.box blk4 [Value.int .i64 b0, Value.int .i64 b1, Value.slice b2A b2n b2c, Value.int .i64 b3] 32, Res.box blk2 [Value.int .i64 a0, Value.int .i64 a1, Value.slice a2A a2n a2c, Value.int .i64 a3] 32])) (rs := [.tmp 4]) rfl [] (v := Value.bool false) (C := True) (by kernel_rfl) trivial hS3 ((hS3.rv (congrArg Value.bool (by first | rfl | simp [*]))))
theorem sameRadio_c (a0 : Int) (a1 : Int) (a2 : Int) (a3 : Int) (a4A : Option Addr) (a4n a4c : Nat) (a4z : List Int) (a5 : Int) (b0 : Int) (b1 : Int) (b2 : Int) (b3 : Int) (b4A : Option Addr) (b4n b4c : Nat) (b4z : List Int) (b5 : Int) (w : World) (a4h : Rd w w.heap.size a4A a4n (a4z.map (Value.int .u8))) (a4w : a4n ≤ 1099511627776) (a4o : okz .u8 a4z) (b4h : Rd w w.heap.size b4A b4n (b4z.map (Value.int .u8))) (b4w : b4n ≤ 1099511627776) (b4o : okz .u8 b4z) : Calls Try.prog 29 #[Value.agg #[Value.int .i64 a0, Value.int .i64 a1, Value.int .i64 a2, Value.int .i64 a3, Value.slice a4A a4n a4c, Value.int .i64 a5], Value.agg #[Value.int .i64 b0, Value.int .i64 b1, Value.int .i64 b2, Value.int .i64 b3, Value.slice b4A b4n b4c, Value.int .i64 b5]] w (RetV w (.bool ((decide (a0 = b0) && decide (a1 = b1)) && (((decide (a2 = b2) && decide (a3 = b3)) && decide (a5 = b5)) && decide (a4z = b4z))))) := by
  have a4l := a4h.len
  have b4l := b4h.len
  refine calls_FA Try.func29 rfl (n := 24) rfl (l := [(0, Value.agg #[Value.int .i64 a0, Value.int .i64 a1, Value.int .i64 a2, Value.int .i64 a3, Value.slice a4A a4n a4c, Value.int .i64 a5]), (1, Value.agg #[Value.int .i64 b0, Value.int .i64 b1, Value.int .i64 b2, Value.int .i64 b3, Value.slice b4A b4n b4c, Value.int .i64 b5])]) rfl (by simp) (fun g => ?_)
  have hS := St.init w
  refine wp_seq ?_
  refine c_reg ?_
  refine l_op rfl rfl (fun K hK => op_box (d := some 2) rfl rfl [Value.int .i64 a0, Value.int .i64 a1, Value.int .i64 a2, Value.int .i64 a3, Value.slice a4A a4n a4c, Value.int .i64 a5] (by kernel_rfl) hS (fun blk2 w1 hS1 => hK _ _ ?_))
  clear hK K
  refine l_op rfl rfl (fun K hK => op_box (d := some 3) rfl rfl [Value.int .i64 b0, Value.int .i64 b1, Value.int .i64 b2, Value.int .i64 b3, Value.slice b4A b4n b4c, Value.int .i64 b5] (by kernel_rfl) hS1 (fun blk4 w3 hS3 => hK _ _ ?_))
  clear hK K
  refine q_seg (S := (fun x_ => St w x_ [Res.box blk4 [Value.int .i64 b0, Value.int .i64 b1, Value.int .i64 b2, Value.int .i64 b3, Value.slice b4A b4n b4c, Value.int .i64 b5] 34, Res.box blk2 [Value.int .i64 a0, Value.int .i64 a1, Value.int .i64 a2, Value.int .i64 a3, Value.slice a4A a4n a4c, Value.int .i64 a5] 34])) [(4, Value.bool false)] [.no] True (by kernel_rfl) trivial hS3 ?_
  refine l_nil rfl ?_
  refine then_n ?_
  refine wp_seq ?_
  refine c_reg ?_
  refine q_seg (S := (fun x_ => St w x_ [Res.box blk4 [Value.int .i64 b0, Value.int .i64 b1, Value.int .i64 b2, Value.int .i64 b3, Value.slice b4A b4n b4c, Value.int .i64 b5] 34, Res.box blk2 [Value.int .i64 a0, Value.int .i64 a1, Value.int .i64 a2, Value.int .i64 a3, Value.slice a4A a4n a4c, Value.int .i64 a5] 34])) [(10, Value.bool (decide (a0 = b0))), (9, Value.bool (decide (a0 = b0))), (8, Value.int .i64 b0), (7, Value.pointer (some ⟨blk4, 0 + 0, none⟩)), (6, Value.int .i64 a0), (5, Value.pointer (some ⟨blk2, 0 + 0, none⟩))] [.no, .v (Value.int .i64 a0), .no, .v (Value.int .i64 b0), .no, .no] ((LoadsAt Try.prog (fun x_ => St w x_ [Res.box blk4 [Value.int .i64 b0, Value.int .i64 b1, Value.int .i64 b2, Value.int .i64 b3, Value.slice b4A b4n b4c, Value.int .i64 b5] 34, Res.box blk2 [Value.int .i64 a0, Value.int .i64 a1, Value.int .i64 a2, Value.int .i64 a3, Value.slice a4A a4n a4c, Value.int .i64 a5] 34]) 3 ⟨blk2, 0 + 0, none⟩ (Value.int .i64 a0)) ∧ (LoadsAt Try.prog (fun x_ => St w x_ [Res.box blk4 [Value.int .i64 b0, Value.int .i64 b1, Value.int .i64 b2, Value.int .i64 b3, Value.slice b4A b4n b4c, Value.int .i64 b5] 34, Res.box blk2 [Value.int .i64 a0, Value.int .i64 a1, Value.int .i64 a2, Value.int .i64 a3, Value.slice a4A a4n a4c, Value.int .i64 a5] 34]) 3 ⟨blk4, 0 + 0, none⟩ (Value.int .i64 b0))) (by kernel_rfl) ⟨(ld_box (i := 1) rfl rfl (by kernel_rfl)), (ld_box (i := 0) rfl rfl (by kernel_rfl))⟩ hS3 ?_
  rcases Bool.eq_false_or_eq_true (decide (a0 = b0)) with hb5 | hb5
  · skip
    have hb5p := of_decide_eq_true hb5
    refine q_seg (S := (fun x_ => St w x_ [Res.box blk4 [Value.int .i64 b0, Value.int .i64 b1, Value.int .i64 b2, Value.int .i64 b3, Value.slice b4A b4n b4c, Value.int .i64 b5] 34, Res.box blk2 [Value.int .i64 a0, Value.int .i64 a1, Value.int .i64 a2, Value.int .i64 a3, Value.slice a4A a4n a4c, Value.int .i64 a5] 34])) [(17, Value.bool (decide (a1 = b1))), (16, Value.bool (decide (a1 = b1))), (15, Value.bool (decide (a1 = b1))), (14, Value.int .i64 b1), (13, Value.pointer (some ⟨blk4, 0 + 1, none⟩)), (12, Value.int .i64 a1), (11, Value.pointer (some ⟨blk2, 0 + 1, none⟩))] [.no, .v (Value.int .i64 a1), .no, .v (Value.int .i64 b1), .no, .v (.bool true), .no] (((decide (a0 = b0)) = true) ∧ ((decide (a0 = b0)) = true) ∧ (LoadsAt Try.prog (fun x_ => St w x_ [Res.box blk4 [Value.int .i64 b0, Value.int .i64 b1, Value.int .i64 b2, Value.int .i64 b3, Value.slice b4A b4n b4c, Value.int .i64 b5] 34, Res.box blk2 [Value.int .i64 a0, Value.int .i64 a1, Value.int .i64 a2, Value.int .i64 a3, Value.slice a4A a4n a4c, Value.int .i64 a5] 34]) 3 ⟨blk2, 0 + 1, none⟩ (Value.int .i64 a1)) ∧ ((decide (a0 = b0)) = true) ∧ ((decide (a0 = b0)) = true) ∧ (LoadsAt Try.prog (fun x_ => St w x_ [Res.box blk4 [Value.int .i64 b0, Value.int .i64 b1, Value.int .i64 b2, Value.int .i64 b3, Value.slice b4A b4n b4c, Value.int .i64 b5] 34, Res.box blk2 [Value.int .i64 a0, Value.int .i64 a1, Value.int .i64 a2, Value.int .i64 a3, Value.slice a4A a4n a4c, Value.int .i64 a5] 34]) 3 ⟨blk4, 0 + 1, none⟩ (Value.int .i64 b1)) ∧ ((decide (a0 = b0)) = true) ∧ ((decide (a0 = b0)) = true)) (by kernel_rfl) ⟨hb5, hb5, (ld_box (i := 1) rfl rfl (by kernel_rfl)), hb5, hb5, (ld_box (i := 0) rfl rfl (by kernel_rfl)), hb5, hb5⟩ hS3 ?_
    rcases Bool.eq_false_or_eq_true (decide (a1 = b1)) with hb6 | hb6
    · skip
      have hb6p := of_decide_eq_true hb6
      refine q_seg (S := (fun x_ => St w x_ [Res.box blk4 [Value.int .i64 b0, Value.int .i64 b1, Value.int .i64 b2, Value.int .i64 b3, Value.slice b4A b4n b4c, Value.int .i64 b5] 34, Res.box blk2 [Value.int .i64 a0, Value.int .i64 a1, Value.int .i64 a2, Value.int .i64 a3, Value.slice a4A a4n a4c, Value.int .i64 a5] 34])) [(21, Value.agg #[Value.int .i64 b2, Value.int .i64 b3, Value.slice b4A b4n b4c, Value.int .i64 b5]), (20, Value.pointer (some ⟨blk4, 0 + 2, none⟩)), (19, Value.agg #[Value.int .i64 a2, Value.int .i64 a3, Value.slice a4A a4n a4c, Value.int .i64 a5]), (18, Value.pointer (some ⟨blk2, 0 + 2, none⟩))] [.no, .v (Value.agg #[Value.int .i64 a2, Value.int .i64 a3, Value.slice a4A a4n a4c, Value.int .i64 a5]), .no, .v (Value.agg #[Value.int .i64 b2, Value.int .i64 b3, Value.slice b4A b4n b4c, Value.int .i64 b5])] (((decide (a1 = b1)) = true) ∧ ((decide (a1 = b1)) = true) ∧ (LoadsAt Try.prog (fun x_ => St w x_ [Res.box blk4 [Value.int .i64 b0, Value.int .i64 b1, Value.int .i64 b2, Value.int .i64 b3, Value.slice b4A b4n b4c, Value.int .i64 b5] 34, Res.box blk2 [Value.int .i64 a0, Value.int .i64 a1, Value.int .i64 a2, Value.int .i64 a3, Value.slice a4A a4n a4c, Value.int .i64 a5] 34]) 32 ⟨blk2, 0 + 2, none⟩ (Value.agg #[Value.int .i64 a2, Value.int .i64 a3, Value.slice a4A a4n a4c, Value.int .i64 a5])) ∧ ((decide (a1 = b1)) = true) ∧ ((decide (a1 = b1)) = true) ∧ (LoadsAt Try.prog (fun x_ => St w x_ [Res.box blk4 [Value.int .i64 b0, Value.int .i64 b1, Value.int .i64 b2, Value.int .i64 b3, Value.slice b4A b4n b4c, Value.int .i64 b5] 34, Res.box blk2 [Value.int .i64 a0, Value.int .i64 a1, Value.int .i64 a2, Value.int .i64 a3, Value.slice a4A a4n a4c, Value.int .i64 a5] 34]) 32 ⟨blk4, 0 + 2, none⟩ (Value.agg #[Value.int .i64 b2, Value.int .i64 b3, Value.slice b4A b4n b4c, Value.int .i64 b5]))) (by kernel_rfl) ⟨hb6, hb6, (ld_boxN (i := 1) (k := 4) rfl rfl rfl (by kernel_rfl)), hb6, hb6, (ld_boxN (i := 0) (k := 4) rfl rfl rfl (by kernel_rfl))⟩ hS3 ?_
      refine l_opg rfl (b := (decide (a1 = b1))) (want := true) (by kernel_rfl) hb6 (fun K hK => op_callv (d := some 22) rfl rfl ⟨_, Try.func67, by kernel_rfl, by kernel_rfl⟩ (vs := [Value.agg #[Value.int .i64 a2, Value.int .i64 a3, Value.slice a4A a4n a4c, Value.int .i64 a5], Value.agg #[Value.int .i64 b2, Value.int .i64 b3, Value.slice b4A b4n b4c, Value.int .i64 b5]]) (by kernel_rfl) (v := Value.bool (((decide (a2 = b2) && decide (a3 = b3)) && decide (a5 = b5)) && decide (a4z = b4z))) (sameSecured_c a2 a3 a4A a4n a4c a4z a5 b2 b3 b4A b4n b4c b4z b5 w3 (hS3.rdlow a4h) (by omega) a4o (hS3.rdlow b4h) (by omega) b4o) hS3 (fun w7 hS7 => hK _ _ ?_))
      clear hK K
      refine q_seg (S := (fun x_ => St w x_ [Res.box blk4 [Value.int .i64 b0, Value.int .i64 b1, Value.int .i64 b2, Value.int .i64 b3, Value.slice b4A b4n b4c, Value.int .i64 b5] 34, Res.box blk2 [Value.int .i64 a0, Value.int .i64 a1, Value.int .i64 a2, Value.int .i64 a3, Value.slice a4A a4n a4c, Value.int .i64 a5] 34])) [(4, Value.bool (((decide (a2 = b2) && decide (a3 = b3)) && decide (a5 = b5)) && decide (a4z = b4z))), (23, Value.bool (((decide (a2 = b2) && decide (a3 = b3)) && decide (a5 = b5)) && decide (a4z = b4z)))] [.v (.bool true), .no] (((decide (a1 = b1)) = true)) (by kernel_rfl) hb6 hS7 ?_
      refine l_nil rfl ?_
      refine then_n ?_
      refine wp_ret ?_
      exact c_end (S := (fun x_ => St w x_ [Res.box blk4 [Value.int .i64 b0, Value.int .i64 b1, Value.int .i64 b2, Value.int .i64 b3, Value.slice b4A b4n b4c, Value.int .i64 b5] 34, Res.box blk2 [Value.int .i64 a0, Value.int .i64 a1, Value.int .i64 a2, Value.int .i64 a3, Value.slice a4A a4n a4c, Value.int .i64 a5] 34])) (rs := [.tmp 4]) rfl [] (v := Value.bool (((decide (a2 = b2) && decide (a3 = b3)) && decide (a5 = b5)) && decide (a4z = b4z))) (C := True) (by kernel_rfl) trivial hS7 ((hS7.rv (congrArg Value.bool (by first | rfl | simp [*]))))
    · skip
      have hb6p := of_decide_eq_false hb6
      refine q_seg (S := (fun x_ => St w x_ [Res.box blk4 [Value.int .i64 b0, Value.int .i64 b1, Value.int .i64 b2, Value.int .i64 b3, Value.slice b4A b4n b4c, Value.int .i64 b5] 34, Res.box blk2 [Value.int .i64 a0, Value.int .i64 a1, Value.int .i64 a2, Value.int .i64 a3, Value.slice a4A a4n a4c, Value.int .i64 a5] 34])) [(4, Value.bool false), (23, Value.bool false), (22, undef), (21, undef), (20, undef), (19, undef), (18, undef)] [.skip, .skip, .skip, .skip, .skip, .v (.bool false), .no] (((decide (a1 = b1)) = !true) ∧ ((decide (a1 = b1)) = !true) ∧ ((decide (a1 = b1)) = !true) ∧ ((decide (a1 = b1)) = !true) ∧ ((decide (a1 = b1)) = !true) ∧ ((decide (a1 = b1)) = false)) (by kernel_rfl) ⟨hb6, hb6, hb6, hb6, hb6, hb6⟩ hS3 ?_
      refine l_nil rfl ?_
      refine then_n ?_
      refine wp_ret ?_
      exact c_end (S := (fun x_ => St w x_ [Res.box blk4 [Value.int .i64 b0, Value.int .i64 b1, Value.int .i64 b2, Value.int .i64 b3, Value.slice b4A b4n b4c, Value.int .i64 b5] 34, Res.box blk2 [Value.int .i64 a0, Value.int .i64 a1, Value.int .i64 a2, Value.int .i64 a3, Value.slice a4A a4n a4c, Value.int .i64 a5] 34])) (rs := [.tmp 4]) rfl [] (v := Value.bool false) (C := True) (by kernel_rfl) trivial hS3 ((hS3.rv (congrArg Value.bool (by first | rfl | simp [*]))))
  · skip
    have hb5p := of_decide_eq_false hb5
    refine q_seg (S := (fun x_ => St w x_ [Res.box blk4 [Value.int .i64 b0, Value.int .i64 b1, Value.int .i64 b2, Value.int .i64 b3, Value.slice b4A b4n b4c, Value.int .i64 b5] 34, Res.box blk2 [Value.int .i64 a0, Value.int .i64 a1, Value.int .i64 a2, Value.int .i64 a3, Value.slice a4A a4n a4c, Value.int .i64 a5] 34])) [(4, Value.bool false), (23, Value.bool false), (22, undef), (21, undef), (20, undef), (19, undef), (18, undef), (17, Value.bool false), (16, Value.bool false), (15, undef), (14, undef), (13, undef), (12, undef), (11, undef)] [.skip, .skip, .skip, .skip, .skip, .v (.bool false), .no, .skip, .skip, .skip, .skip, .skip, .v (.bool false), .no] (((decide (a0 = b0)) = !true) ∧ ((decide (a0 = b0)) = !true) ∧ ((decide (a0 = b0)) = !true) ∧ ((decide (a0 = b0)) = !true) ∧ ((decide (a0 = b0)) = !true) ∧ ((decide (a0 = b0)) = false) ∧ (false = !true) ∧ (false = !true) ∧ (false = !true) ∧ (false = !true) ∧ (false = !true) ∧ (false = false)) (by kernel_rfl) ⟨hb5, hb5, hb5, hb5, hb5, hb5, rfl, rfl, rfl, rfl, rfl, rfl⟩ hS3 ?_
    refine l_nil rfl ?_
    refine then_n ?_
    refine wp_ret ?_
    exact c_end (S := (fun x_ => St w x_ [Res.box blk4 [Value.int .i64 b0, Value.int .i64 b1, Value.int .i64 b2, Value.int .i64 b3, Value.slice b4A b4n b4c, Value.int .i64 b5] 34, Res.box blk2 [Value.int .i64 a0, Value.int .i64 a1, Value.int .i64 a2, Value.int .i64 a3, Value.slice a4A a4n a4c, Value.int .i64 a5] 34])) (rs := [.tmp 4]) rfl [] (v := Value.bool false) (C := True) (by kernel_rfl) trivial hS3 ((hS3.rv (congrArg Value.bool (by first | rfl | simp [*]))))
end Go.Proofs.Ytfkeiegajaofdaa
