/-
  Contracts of the readers: numbers, lists, byte strings, messages, packets.
-/
import Derived.Test.YtfkeiegajaofdaaGEn
import Derived.Test.YtfkeiegajaofdaaDec2
namespace Go.Proofs.Ytfkeiegajaofdaa
open Go.RowKit
set_option maxRecDepth 100000

theorem ReadUvarint_i_c (A : Option Addr) (n c : Nat) (zs : List Int) (off : Int) (w : World) (hn : n ≤ 1000000000) (hz : okz .u8 zs) (hr : Rd w w.heap.size A n (zs.map (Value.int .u8))) : Calls Try.prog 91 #[.slice A n c, .int .i64 off] w (RetV w (.tuple #[.int .i64 (rv zs off).1, .int .i64 (rv zs off).2.1, .bool (rv zs off).2.2])) := by
  have hln := hr.len
  refine calls_FA Try.func91 rfl (n := 58) rfl (l := [(0, Value.slice A n c), (1, Value.int .i64 off)]) rfl (by simp) (fun g => ?_)
  have hS := St.init w
  refine wp_seq ?_
  refine c_reg ?_
  refine q_seg (S := (fun x_ => St w x_ [])) [(6, Value.bool false), (5, Value.int .i64 0), (4, Value.int .i64 0)] [.no, .no, .no] True (by kernel_rfl) trivial hS ?_
  refine l_nil rfl ?_
  refine then_n ?_
  refine wp_seq ?_
  refine wp_seq ?_
  refine c_reg ?_
  refine q_seg (S := (fun x_ => St w x_ [])) [(13, Value.bool (decide (off < (0 : Int)))), (12, Value.bool (decide (off < (0 : Int)))), (11, Value.int .i64 off)] [.no, .no, .no] True (by kernel_rfl) trivial hS ?_
  rcases Bool.eq_false_or_eq_true (decide (off < (0 : Int))) with hb1 | hb1
  · skip
    have hb1p := of_decide_eq_true hb1
    refine q_seg (S := (fun x_ => St w x_ [])) [(18, Value.bool true), (17, undef), (16, undef), (15, undef), (14, undef)] [.skip, .skip, .skip, .skip, .v (.bool true)] (((decide (off < (0 : Int))) = !false) ∧ ((decide (off < (0 : Int))) = !false) ∧ ((decide (off < (0 : Int))) = !false) ∧ ((decide (off < (0 : Int))) = !false) ∧ ((decide (off < (0 : Int))) = true)) (by kernel_rfl) ⟨hb1, hb1, hb1, hb1, hb1⟩ hS ?_
    refine l_nil rfl ?_
    refine then_n ?_
    refine c_true (b := true) (by kernel_rfl) rfl ?_
    refine wp_seq ?_
    refine c_reg ?_
    refine q_seg (S := (fun x_ => St w x_ [])) [(6, Value.bool false), (5, Value.int .i64 0), (4, Value.int .i64 0)] [.no, .no, .no] True (by kernel_rfl) trivial hS ?_
    refine l_nil rfl ?_
    refine then_n ?_
    refine wp_ret ?_
    refine then_r ?_
    have hR : rv zs off = (0, 0, false) := rv_neg hb1p
    exact c_end (S := (fun x_ => St w x_ [])) (rs := [.tmp 4, .tmp 5, .tmp 6]) rfl [] (v := Value.tuple #[Value.int .i64 0, Value.int .i64 0, Value.bool false]) (C := True) (by kernel_rfl) trivial hS ((hS.rv (by rw [hR])))
  · skip
    have hb1p := of_decide_eq_false hb1
    refine q_seg (S := (fun x_ => St w x_ [])) [(18, Value.bool (decide (((n : Nat) : Int) ≤ off))), (17, Value.bool (decide (((n : Nat) : Int) ≤ off))), (16, Value.int .i64 ((n : Nat) : Int)), (15, Value.slice A n c), (14, Value.int .i64 off)] [.no, .no, .no, .no, .v (.bool false)] (((decide (off < (0 : Int))) = false) ∧ ((decide (off < (0 : Int))) = false) ∧ ((decide (off < (0 : Int))) = false) ∧ ((decide (off < (0 : Int))) = false) ∧ ((decide (off < (0 : Int))) = false)) (by kernel_rfl) ⟨hb1, hb1, hb1, hb1, hb1⟩ hS ?_
    refine l_nil rfl ?_
    refine then_n ?_
    rcases Bool.eq_false_or_eq_true (decide (((n : Nat) : Int) ≤ off)) with hb2 | hb2
    · skip
      have hb2p := of_decide_eq_true hb2
      refine c_true (b := (decide (((n : Nat) : Int) ≤ off))) (by kernel_rfl) hb2 ?_
      refine wp_seq ?_
      refine c_reg ?_
      refine q_seg (S := (fun x_ => St w x_ [])) [(6, Value.bool false), (5, Value.int .i64 0), (4, Value.int .i64 0)] [.no, .no, .no] True (by kernel_rfl) trivial hS ?_
      refine l_nil rfl ?_
      refine then_n ?_
      refine wp_ret ?_
      refine then_r ?_
      have hR : rv zs off = (0, 0, false) := rv_far (by omega) (by omega)
      exact c_end (S := (fun x_ => St w x_ [])) (rs := [.tmp 4, .tmp 5, .tmp 6]) rfl [] (v := Value.tuple #[Value.int .i64 0, Value.int .i64 0, Value.bool false]) (C := True) (by kernel_rfl) trivial hS ((hS.rv (by rw [hR])))
    · skip
      have hb2p := of_decide_eq_false hb2
      refine c_false (b := (decide (((n : Nat) : Int) ≤ off))) (by kernel_rfl) hb2 ?_
      refine wp_skip ?_
      refine then_n ?_
      refine wp_seq ?_
      refine c_reg ?_
      refine q_seg (S := (fun x_ => St w x_ [])) [(7, Value.int .i64 0)] [.no] True (by kernel_rfl) trivial hS ?_
      refine l_nil rfl ?_
      refine then_n ?_
      refine wp_seq ?_
      refine wp_seq ?_
      refine c_reg ?_
      refine q_seg (S := (fun x_ => St w x_ [])) [(8, Value.int .i64 0)] [.no] True (by kernel_rfl) trivial hS ?_
      refine l_nil rfl ?_
      refine then_n ?_
      refine wp_block ?_
      refine c_loop (X := Nat × Nat × Int) (fun (x_ : Nat × Nat × Int) => match x_ with | (k, f, acc) => [(0, Value.slice A n c), (1, Value.int .i64 off), (7, Value.int .i64 acc), (8, Value.int .i64 ((k : Nat) : Int))]) (fun (x_ : Nat × Nat × Int) (wr : World) => match x_ with | (k, f, acc) => (f + k = 6) ∧ (0 ≤ acc) ∧ (acc < p7 k) ∧ (rdk zs off.toNat 6 0 0 = rdk zs off.toNat f k acc) ∧ St w wr []) (fun (x_ : Nat × Nat × Int) => match x_ with | (k, f, acc) => f) ((0, 6, 0)) ?_ ?_ ?_
      · exact (agree_cons (by kernel_rfl) (agree_cons (by kernel_rfl) (agree_cons (by kernel_rfl) (agree_cons (by kernel_rfl) agree_nil))))
      · exact ⟨rfl, (by omega), (by decide), rfl, hS⟩
      rintro ⟨k, f, acc⟩ g4 w3 ⟨hkf, ha0, ha1, hrd, hS3⟩
      refine wp_seq ?_
      refine wp_seq ?_
      refine c_reg ?_
      refine q_seg (S := (fun x_ => St w x_ [])) [(20, Value.bool (decide (((k : Nat) : Int) < (6 : Int)))), (19, Value.int .i64 ((k : Nat) : Int))] [.no, .no] True (by kernel_rfl) trivial hS3 ?_
      refine l_nil rfl ?_
      refine then_n ?_
      rcases Bool.eq_false_or_eq_true (decide (((k : Nat) : Int) < (6 : Int))) with hb5 | hb5
      · skip
        have hb5p := of_decide_eq_true hb5
        obtain ⟨f2, rfl⟩ : ∃ f2, f = f2 + 1 := ⟨f - 1, by omega⟩
        refine c_true (b := (decide (((k : Nat) : Int) < (6 : Int)))) (by kernel_rfl) hb5 ?_
        refine wp_skip ?_
        refine then_n ?_
        refine wp_seq ?_
        refine wp_block ?_
        refine wp_seq ?_
        refine c_reg ?_
        refine q_seg (S := (fun x_ => St w x_ [])) [(9, Value.int .i64 (off + ((k : Nat) : Int))), (25, Value.int .i64 (off + ((k : Nat) : Int))), (24, Value.int .i64 ((k : Nat) : Int)), (23, Value.int .i64 off)] [.no, .no, .no, .no] ((InK .i64 (off + ((k : Nat) : Int)))) (by kernel_rfl) (in64 (by omega) (by omega)) hS3 ?_
        refine l_nil rfl ?_
        refine then_n ?_
        refine wp_seq ?_
        refine wp_seq ?_
        refine c_reg ?_
        refine q_seg (S := (fun x_ => St w x_ [])) [(29, Value.bool (decide (((n : Nat) : Int) ≤ (off + ((k : Nat) : Int))))), (28, Value.int .i64 ((n : Nat) : Int)), (27, Value.slice A n c), (26, Value.int .i64 (off + ((k : Nat) : Int)))] [.no, .no, .no, .no] True (by kernel_rfl) trivial hS3 ?_
        refine l_nil rfl ?_
        refine then_n ?_
        rcases Bool.eq_false_or_eq_true (decide (((n : Nat) : Int) ≤ (off + ((k : Nat) : Int)))) with hb6 | hb6
        · skip
          have hb6p := of_decide_eq_true hb6
          refine c_true (b := (decide (((n : Nat) : Int) ≤ (off + ((k : Nat) : Int))))) (by kernel_rfl) hb6 ?_
          refine wp_seq ?_
          refine c_reg ?_
          refine q_seg (S := (fun x_ => St w x_ [])) [(6, Value.bool false), (5, Value.int .i64 0), (4, Value.int .i64 0)] [.no, .no, .no] True (by kernel_rfl) trivial hS3 ?_
          refine l_nil rfl ?_
          refine then_n ?_
          refine wp_ret ?_
          refine then_r ?_
          refine blk_r ?_
          refine then_r ?_
          refine then_r ?_
          refine blk_r ?_
          refine then_r ?_
          have hR : rv zs off = (0, 0, false) := rv_none (by omega) (hrd.trans (rdk_n (List.getElem?_eq_none (by omega))))
          exact c_end (S := (fun x_ => St w x_ [])) (rs := [.tmp 4, .tmp 5, .tmp 6]) rfl [] (v := Value.tuple #[Value.int .i64 0, Value.int .i64 0, Value.bool false]) (C := True) (by kernel_rfl) trivial hS3 ((hS3.rv (by rw [hR])))
        · skip
          have hb6p := of_decide_eq_false hb6
          obtain ⟨bq, offq, rfl, hbB, hcl⟩ := hr.2 (by omega)
          obtain ⟨z, hzk, hzm⟩ := get_of_lt (l := zs) (k := off.toNat + k) (by omega)
          obtain ⟨hz1, hz2⟩ := okz8 hz z hzm
          refine c_false (b := (decide (((n : Nat) : Int) ≤ (off + ((k : Nat) : Int))))) (by kernel_rfl) hb6 ?_
          refine wp_skip ?_
          refine then_n ?_
          refine wp_seq ?_
          refine c_reg ?_
          refine q_seg (S := (fun x_ => St w x_ [])) [(10, Value.int .i64 (z % 128)), (35, Value.int .i64 (z % 128)), (34, Value.int .u8 (z % 128)), (33, Value.int .u8 z), (32, Value.pointer (some ⟨bq, offq + Int.toNat (off + ((k : Nat) : Int)) * 1, none⟩)), (31, Value.int .i64 (off + ((k : Nat) : Int))), (30, Value.slice (some ⟨bq, offq, none⟩) n c)] [.no, .no, .no, .v (Value.int .u8 z), .v (.int .u8 (z % 128)), .no, .no] (((0 : Int) ≤ (off + ((k : Nat) : Int))) ∧ ((off + ((k : Nat) : Int)) < ((n : Nat) : Int)) ∧ (LoadsAt Try.prog (fun x_ => St w x_ []) 5 ⟨bq, offq + Int.toNat (off + ((k : Nat) : Int)) * 1, none⟩ (Value.int .u8 z)) ∧ (ibits .and .u8 z (127 : Int) = (z % 128)) ∧ (InK .i64 (z % 128))) (by kernel_rfl) ⟨(by omega), (by omega), (ld_low (hcl _ _ (by rw [show Int.toNat (off + ((k : Nat) : Int)) * 1 = off.toNat + k by omega]; exact map_get hzk)) (by kernel_rfl)), (and127b (by omega) (by omega)), (in64 (by omega) (by omega))⟩ hS3 ?_
          refine l_nil rfl ?_
          refine then_n ?_
          refine wp_seq ?_
          refine c_reg ?_
          obtain ⟨hsh, hsh2⟩ := shl7 (g := z % 128) (k := k) (by omega) (by omega) (by omega)
          obtain ⟨hor, hor2, hor3⟩ := or7 (a := acc) (g := z % 128) (k := k) (by omega) ha0 ha1 (by omega) (by omega)
          refine q_seg (S := (fun x_ => St w x_ [])) [(7, Value.int .i64 (acc + z % 128 * p7 k)), (41, Value.int .i64 (acc + z % 128 * p7 k)), (40, Value.int .i64 (z % 128 * p7 k)), (39, Value.int .i64 ((7 : Int) * ((k : Nat) : Int))), (38, Value.int .i64 ((k : Nat) : Int)), (37, Value.int .i64 (z % 128)), (36, Value.int .i64 acc)] [.no, .no, .no, .no, .v (.int .i64 (z % 128 * p7 k)), .v (.int .i64 (acc + z % 128 * p7 k)), .no] ((InK .i64 ((7 : Int) * ((k : Nat) : Int))) ∧ ((0 : Int) ≤ ((7 : Int) * ((k : Nat) : Int))) ∧ (IntKind.wrap .i64 ((z % 128) * 2 ^ (min (Int.toNat ((7 : Int) * ((k : Nat) : Int))) (IntKind.bits .i64))) = (z % 128 * p7 k)) ∧ (ibits .or .i64 acc (z % 128 * p7 k) = (acc + z % 128 * p7 k))) (by kernel_rfl) ⟨(in64 (by omega) (by omega)), (by omega), hsh, hor⟩ hS3 ?_
          refine l_nil rfl ?_
          refine then_n ?_
          refine wp_seq ?_
          refine wp_seq ?_
          refine c_reg ?_
          refine q_seg (S := (fun x_ => St w x_ [])) [(46, Value.bool (decide ((128 : Int) ≤ z))), (45, Value.int .u8 z), (44, Value.pointer (some ⟨bq, offq + Int.toNat (off + ((k : Nat) : Int)) * 1, none⟩)), (43, Value.int .i64 (off + ((k : Nat) : Int))), (42, Value.slice (some ⟨bq, offq, none⟩) n c)] [.no, .no, .no, .v (Value.int .u8 z), .no] (((0 : Int) ≤ (off + ((k : Nat) : Int))) ∧ ((off + ((k : Nat) : Int)) < ((n : Nat) : Int)) ∧ (LoadsAt Try.prog (fun x_ => St w x_ []) 5 ⟨bq, offq + Int.toNat (off + ((k : Nat) : Int)) * 1, none⟩ (Value.int .u8 z))) (by kernel_rfl) ⟨(by omega), (by omega), (ld_low (hcl _ _ (by rw [show Int.toNat (off + ((k : Nat) : Int)) * 1 = off.toNat + k by omega]; exact map_get hzk)) (by kernel_rfl))⟩ hS3 ?_
          refine l_nil rfl ?_
          refine then_n ?_
          rcases Bool.eq_false_or_eq_true (decide ((128 : Int) ≤ z)) with hb7 | hb7
          · skip
            have hb7p := of_decide_eq_true hb7
            refine c_true (b := (decide ((128 : Int) ≤ z))) (by kernel_rfl) hb7 ?_
            refine wp_exit ?_
            refine then_x ?_
            refine blk_hit ?_
            refine then_n ?_
            refine c_reg ?_
            refine q_seg (S := (fun x_ => St w x_ [])) [(8, Value.int .i64 (((k : Nat) : Int) + (1 : Int))), (22, Value.int .i64 (((k : Nat) : Int) + (1 : Int))), (21, Value.int .i64 ((k : Nat) : Int))] [.no, .no, .no] ((InK .i64 (((k : Nat) : Int) + (1 : Int)))) (by kernel_rfl) (in64 (by omega) (by omega)) hS3 ?_
            refine l_nil rfl ?_
            refine then_n ?_
            refine round_end ((k + 1, f2, (acc + z % 128 * p7 k))) ?_ ?_ ?_
            · exact (agree_cons (by kernel_rfl) (agree_cons (by kernel_rfl) (agree_cons (by kernel_rfl) (agree_cons (by kernel_rfl) agree_nil))))
            · exact ⟨(by omega), hor2, hor3, (hrd.trans (rdk_c hzk (by omega))), hS3⟩
            · exact (by first | omega | (dsimp only; omega))
          · skip
            have hb7p := of_decide_eq_false hb7
            refine c_false (b := (decide ((128 : Int) ≤ z))) (by kernel_rfl) hb7 ?_
            refine wp_skip ?_
            refine then_n ?_
            refine wp_seq ?_
            refine wp_seq ?_
            refine c_reg ?_
            refine q_seg (S := (fun x_ => St w x_ [])) [(49, Value.bool (decide ((0 : Int) < ((k : Nat) : Int)))), (48, Value.bool (decide ((0 : Int) < ((k : Nat) : Int)))), (47, Value.int .i64 ((k : Nat) : Int))] [.no, .no, .no] True (by kernel_rfl) trivial hS3 ?_
            rcases Bool.eq_false_or_eq_true (decide ((0 : Int) < ((k : Nat) : Int))) with hb8 | hb8
            · skip
              have hb8p := of_decide_eq_true hb8
              refine q_seg (S := (fun x_ => St w x_ [])) [(52, Value.bool (decide ((z % 128) = (0 : Int)))), (51, Value.bool (decide ((z % 128) = (0 : Int)))), (50, Value.int .i64 (z % 128))] [.no, .no, .v (.bool true)] (((decide ((0 : Int) < ((k : Nat) : Int))) = true) ∧ ((decide ((0 : Int) < ((k : Nat) : Int))) = true) ∧ ((decide ((0 : Int) < ((k : Nat) : Int))) = true)) (by kernel_rfl) ⟨hb8, hb8, hb8⟩ hS3 ?_
              refine l_nil rfl ?_
              refine then_n ?_
              rcases Bool.eq_false_or_eq_true (decide ((z % 128) = (0 : Int))) with hb9 | hb9
              · skip
                have hb9p := of_decide_eq_true hb9
                refine c_true (b := (decide ((z % 128) = (0 : Int)))) (by kernel_rfl) hb9 ?_
                refine wp_seq ?_
                refine c_reg ?_
                refine q_seg (S := (fun x_ => St w x_ [])) [(6, Value.bool false), (5, Value.int .i64 0), (4, Value.int .i64 0)] [.no, .no, .no] True (by kernel_rfl) trivial hS3 ?_
                refine l_nil rfl ?_
                refine then_n ?_
                refine wp_ret ?_
                refine then_r ?_
                refine blk_r ?_
                refine then_r ?_
                refine then_r ?_
                refine blk_r ?_
                refine then_r ?_
                have hR : rv zs off = (0, 0, false) := rv_none (by omega) (hrd.trans (rdk_z hzk (by omega) (by omega) (by omega)))
                exact c_end (S := (fun x_ => St w x_ [])) (rs := [.tmp 4, .tmp 5, .tmp 6]) rfl [] (v := Value.tuple #[Value.int .i64 0, Value.int .i64 0, Value.bool false]) (C := True) (by kernel_rfl) trivial hS3 ((hS3.rv (by rw [hR])))
              · skip
                have hb9p := of_decide_eq_false hb9
                refine c_false (b := (decide ((z % 128) = (0 : Int)))) (by kernel_rfl) hb9 ?_
                refine wp_skip ?_
                refine then_n ?_
                refine wp_seq ?_
                refine wp_seq ?_
                refine c_reg ?_
                refine q_seg (S := (fun x_ => St w x_ [])) [(54, Value.bool (decide ((1000000000000 : Int) < (acc + z % 128 * p7 k)))), (53, Value.int .i64 (acc + z % 128 * p7 k))] [.no, .no] True (by kernel_rfl) trivial hS3 ?_
                refine l_nil rfl ?_
                refine then_n ?_
                rcases Bool.eq_false_or_eq_true (decide ((1000000000000 : Int) < (acc + z % 128 * p7 k))) with hb10 | hb10
                · skip
                  have hb10p := of_decide_eq_true hb10
                  refine c_true (b := (decide ((1000000000000 : Int) < (acc + z % 128 * p7 k)))) (by kernel_rfl) hb10 ?_
                  refine wp_seq ?_
                  refine c_reg ?_
                  refine q_seg (S := (fun x_ => St w x_ [])) [(6, Value.bool false), (5, Value.int .i64 0), (4, Value.int .i64 0)] [.no, .no, .no] True (by kernel_rfl) trivial hS3 ?_
                  refine l_nil rfl ?_
                  refine then_n ?_
                  refine wp_ret ?_
                  refine then_r ?_
                  refine blk_r ?_
                  refine then_r ?_
                  refine then_r ?_
                  refine blk_r ?_
                  refine then_r ?_
                  have hR : rv zs off = (0, 0, false) := rv_none (by omega) (hrd.trans (rdk_b hzk (by omega) (by omega)))
                  exact c_end (S := (fun x_ => St w x_ [])) (rs := [.tmp 4, .tmp 5, .tmp 6]) rfl [] (v := Value.tuple #[Value.int .i64 0, Value.int .i64 0, Value.bool false]) (C := True) (by kernel_rfl) trivial hS3 ((hS3.rv (by rw [hR])))
                · skip
                  have hb10p := of_decide_eq_false hb10
                  refine c_false (b := (decide ((1000000000000 : Int) < (acc + z % 128 * p7 k)))) (by kernel_rfl) hb10 ?_
                  refine wp_skip ?_
                  refine then_n ?_
                  refine wp_seq ?_
                  refine c_reg ?_
                  refine q_seg (S := (fun x_ => St w x_ [])) [(6, Value.bool true), (5, Value.int .i64 ((off + ((k : Nat) : Int)) + (1 : Int))), (4, Value.int .i64 (acc + z % 128 * p7 k)), (57, Value.int .i64 ((off + ((k : Nat) : Int)) + (1 : Int))), (56, Value.int .i64 (off + ((k : Nat) : Int))), (55, Value.int .i64 (acc + z % 128 * p7 k))] [.no, .no, .no, .no, .no, .no] ((InK .i64 ((off + ((k : Nat) : Int)) + (1 : Int)))) (by kernel_rfl) (in64 (by omega) (by omega)) hS3 ?_
                  refine l_nil rfl ?_
                  refine then_n ?_
                  refine wp_ret ?_
                  refine blk_r ?_
                  refine then_r ?_
                  refine then_r ?_
                  refine blk_r ?_
                  refine then_r ?_
                  have hR : rv zs off = ((acc + z % 128 * p7 k), ((off + ((k : Nat) : Int)) + (1 : Int)), true) := rv_some (by omega) (hrd.trans ((rdk_t hzk (by omega) (by omega) (by omega)).trans (congrArg (fun p_ => some (acc + z % 128 * p7 k, p_)) (show _ = ((off + ((k : Nat) : Int)) + (1 : Int)) by omega))))
                  exact c_end (S := (fun x_ => St w x_ [])) (rs := [.tmp 4, .tmp 5, .tmp 6]) rfl [] (v := Value.tuple #[Value.int .i64 (acc + z % 128 * p7 k), Value.int .i64 ((off + ((k : Nat) : Int)) + (1 : Int)), Value.bool true]) (C := True) (by kernel_rfl) trivial hS3 ((hS3.rv (by rw [hR])))
            · skip
              have hb8p := of_decide_eq_false hb8
              refine q_seg (S := (fun x_ => St w x_ [])) [(52, Value.bool false), (51, undef), (50, undef)] [.skip, .skip, .v (.bool false)] (((decide ((0 : Int) < ((k : Nat) : Int))) = !true) ∧ ((decide ((0 : Int) < ((k : Nat) : Int))) = !true) ∧ ((decide ((0 : Int) < ((k : Nat) : Int))) = false)) (by kernel_rfl) ⟨hb8, hb8, hb8⟩ hS3 ?_
              refine l_nil rfl ?_
              refine then_n ?_
              refine c_false (b := false) (by kernel_rfl) rfl ?_
              refine wp_skip ?_
              refine then_n ?_
              refine wp_seq ?_
              refine wp_seq ?_
              refine c_reg ?_
              refine q_seg (S := (fun x_ => St w x_ [])) [(54, Value.bool (decide ((1000000000000 : Int) < (acc + z % 128 * p7 k)))), (53, Value.int .i64 (acc + z % 128 * p7 k))] [.no, .no] True (by kernel_rfl) trivial hS3 ?_
              refine l_nil rfl ?_
              refine then_n ?_
              rcases Bool.eq_false_or_eq_true (decide ((1000000000000 : Int) < (acc + z % 128 * p7 k))) with hb11 | hb11
              · skip
                have hb11p := of_decide_eq_true hb11
                refine c_true (b := (decide ((1000000000000 : Int) < (acc + z % 128 * p7 k)))) (by kernel_rfl) hb11 ?_
                refine wp_seq ?_
                refine c_reg ?_
                refine q_seg (S := (fun x_ => St w x_ [])) [(6, Value.bool false), (5, Value.int .i64 0), (4, Value.int .i64 0)] [.no, .no, .no] True (by kernel_rfl) trivial hS3 ?_
                refine l_nil rfl ?_
                refine then_n ?_
                refine wp_ret ?_
                refine then_r ?_
                refine blk_r ?_
                refine then_r ?_
                refine then_r ?_
                refine blk_r ?_
                refine then_r ?_
                have hR : rv zs off = (0, 0, false) := rv_none (by omega) (hrd.trans (rdk_b hzk (by omega) (by omega)))
                exact c_end (S := (fun x_ => St w x_ [])) (rs := [.tmp 4, .tmp 5, .tmp 6]) rfl [] (v := Value.tuple #[Value.int .i64 0, Value.int .i64 0, Value.bool false]) (C := True) (by kernel_rfl) trivial hS3 ((hS3.rv (by rw [hR])))
              · skip
                have hb11p := of_decide_eq_false hb11
                refine c_false (b := (decide ((1000000000000 : Int) < (acc + z % 128 * p7 k)))) (by kernel_rfl) hb11 ?_
                refine wp_skip ?_
                refine then_n ?_
                refine wp_seq ?_
                refine c_reg ?_
                refine q_seg (S := (fun x_ => St w x_ [])) [(6, Value.bool true), (5, Value.int .i64 ((off + ((k : Nat) : Int)) + (1 : Int))), (4, Value.int .i64 (acc + z % 128 * p7 k)), (57, Value.int .i64 ((off + ((k : Nat) : Int)) + (1 : Int))), (56, Value.int .i64 (off + ((k : Nat) : Int))), (55, Value.int .i64 (acc + z % 128 * p7 k))] [.no, .no, .no, .no, .no, .no] ((InK .i64 ((off + ((k : Nat) : Int)) + (1 : Int)))) (by kernel_rfl) (in64 (by omega) (by omega)) hS3 ?_
                refine l_nil rfl ?_
                refine then_n ?_
                refine wp_ret ?_
                refine blk_r ?_
                refine then_r ?_
                refine then_r ?_
                refine blk_r ?_
                refine then_r ?_
                have hR : rv zs off = ((acc + z % 128 * p7 k), ((off + ((k : Nat) : Int)) + (1 : Int)), true) := rv_some (by omega) (hrd.trans ((rdk_t hzk (by omega) (by omega) (by omega)).trans (congrArg (fun p_ => some (acc + z % 128 * p7 k, p_)) (show _ = ((off + ((k : Nat) : Int)) + (1 : Int)) by omega))))
                exact c_end (S := (fun x_ => St w x_ [])) (rs := [.tmp 4, .tmp 5, .tmp 6]) rfl [] (v := Value.tuple #[Value.int .i64 (acc + z % 128 * p7 k), Value.int .i64 ((off + ((k : Nat) : Int)) + (1 : Int)), Value.bool true]) (C := True) (by kernel_rfl) trivial hS3 ((hS3.rv (by rw [hR])))
      · skip
        have hb5p := of_decide_eq_false hb5
        obtain rfl : f = 0 := by omega
        refine c_false (b := (decide (((k : Nat) : Int) < (6 : Int)))) (by kernel_rfl) hb5 ?_
        refine wp_exit ?_
        refine then_x ?_
        refine then_x ?_
        refine blk_hit ?_
        refine then_n ?_
        refine wp_seq ?_
        refine c_reg ?_
        refine q_seg (S := (fun x_ => St w x_ [])) [(6, Value.bool false), (5, Value.int .i64 0), (4, Value.int .i64 0)] [.no, .no, .no] True (by kernel_rfl) trivial hS3 ?_
        refine l_nil rfl ?_
        refine then_n ?_
        refine wp_ret ?_
        have hR : rv zs off = (0, 0, false) := Decidable.byCases (fun h_ : off < 0 => rv_neg h_) (fun h_ => rv_none h_ hrd)
        exact c_end (S := (fun x_ => St w x_ [])) (rs := [.tmp 4, .tmp 5, .tmp 6]) rfl [] (v := Value.tuple #[Value.int .i64 0, Value.int .i64 0, Value.bool false]) (C := True) (by kernel_rfl) trivial hS3 ((hS3.rv (by rw [hR])))
theorem ReadUvarint_s_c (A : Option Addr) (n c : Nat) (zs : List Int) (off : Int) (w : World) (hn : n ≤ 1000000000) (hz : okz .u8 zs) (hr : Rd w w.heap.size A n (zs.map (Value.int .u8))) : Calls Try.prog 95 #[.slice A n c, .int .i64 off] w (RetV w (.tuple #[.int .i64 (rv zs off).1, .int .i64 (rv zs off).2.1, .bool (rv zs off).2.2])) := by
  have hln := hr.len
  refine calls_FA Try.func95 rfl (n := 55) rfl (l := [(0, Value.slice A n c), (1, Value.int .i64 off)]) rfl (by simp) (fun g => ?_)
  have hS := St.init w
  refine wp_seq ?_
  refine c_reg ?_
  refine q_seg (S := (fun x_ => St w x_ [])) [(6, Value.bool false), (5, Value.int .i64 0), (4, Value.int .i64 0)] [.no, .no, .no] True (by kernel_rfl) trivial hS ?_
  refine l_nil rfl ?_
  refine then_n ?_
  refine wp_seq ?_
  refine c_reg ?_
  refine q_seg (S := (fun x_ => St w x_ [])) [(7, Value.int .i64 0)] [.no] True (by kernel_rfl) trivial hS ?_
  refine l_nil rfl ?_
  refine then_n ?_
  refine wp_seq ?_
  refine wp_seq ?_
  refine c_reg ?_
  refine q_seg (S := (fun x_ => St w x_ [])) [(8, Value.int .i64 0)] [.no] True (by kernel_rfl) trivial hS ?_
  refine l_nil rfl ?_
  refine then_n ?_
  refine wp_block ?_
  refine c_loop (X := Nat × Nat × Int) (fun (x_ : Nat × Nat × Int) => match x_ with | (k, f, acc) => [(0, Value.slice A n c), (1, Value.int .i64 off), (7, Value.int .i64 acc), (8, Value.int .i64 ((k : Nat) : Int))]) (fun (x_ : Nat × Nat × Int) (wr : World) => match x_ with | (k, f, acc) => (f + k = 6) ∧ (0 ≤ acc) ∧ (acc < p7 k) ∧ (rdk zs off.toNat 6 0 0 = rdk zs off.toNat f k acc) ∧ St w wr []) (fun (x_ : Nat × Nat × Int) => match x_ with | (k, f, acc) => f) ((0, 6, 0)) ?_ ?_ ?_
  · exact (agree_cons (by kernel_rfl) (agree_cons (by kernel_rfl) (agree_cons (by kernel_rfl) (agree_cons (by kernel_rfl) agree_nil))))
  · exact ⟨rfl, (by omega), (by decide), rfl, hS⟩
  rintro ⟨k, f, acc⟩ g2 w1 ⟨hkf, ha0, ha1, hrd, hS1⟩
  refine wp_seq ?_
  refine wp_seq ?_
  refine c_reg ?_
  refine q_seg (S := (fun x_ => St w x_ [])) [(11, Value.bool (decide (((k : Nat) : Int) < (6 : Int)))), (10, Value.int .i64 ((k : Nat) : Int))] [.no, .no] True (by kernel_rfl) trivial hS1 ?_
  refine l_nil rfl ?_
  refine then_n ?_
  rcases Bool.eq_false_or_eq_true (decide (((k : Nat) : Int) < (6 : Int))) with hb3 | hb3
  · skip
    have hb3p := of_decide_eq_true hb3
    obtain ⟨f2, rfl⟩ : ∃ f2, f = f2 + 1 := ⟨f - 1, by omega⟩
    refine c_true (b := (decide (((k : Nat) : Int) < (6 : Int)))) (by kernel_rfl) hb3 ?_
    refine wp_skip ?_
    refine then_n ?_
    refine wp_seq ?_
    refine wp_block ?_
    refine wp_seq ?_
    refine wp_seq ?_
    refine c_reg ?_
    refine q_seg (S := (fun x_ => St w x_ [])) [(16, Value.bool (decide (off < (0 : Int)))), (15, Value.bool (decide (off < (0 : Int)))), (14, Value.int .i64 off)] [.no, .no, .no] True (by kernel_rfl) trivial hS1 ?_
    rcases Bool.eq_false_or_eq_true (decide (off < (0 : Int))) with hb4 | hb4
    · skip
      have hb4p := of_decide_eq_true hb4
      refine q_seg (S := (fun x_ => St w x_ [])) [(23, Value.bool true), (22, undef), (21, undef), (20, undef), (19, undef), (18, undef), (17, undef)] [.skip, .skip, .skip, .skip, .skip, .skip, .v (.bool true)] (((decide (off < (0 : Int))) = !false) ∧ ((decide (off < (0 : Int))) = !false) ∧ ((decide (off < (0 : Int))) = !false) ∧ ((decide (off < (0 : Int))) = !false) ∧ ((decide (off < (0 : Int))) = !false) ∧ ((decide (off < (0 : Int))) = !false) ∧ ((decide (off < (0 : Int))) = true)) (by kernel_rfl) ⟨hb4, hb4, hb4, hb4, hb4, hb4, hb4⟩ hS1 ?_
      refine l_nil rfl ?_
      refine then_n ?_
      refine c_true (b := true) (by kernel_rfl) rfl ?_
      refine wp_seq ?_
      refine c_reg ?_
      refine q_seg (S := (fun x_ => St w x_ [])) [(6, Value.bool false), (5, Value.int .i64 0), (4, Value.int .i64 0)] [.no, .no, .no] True (by kernel_rfl) trivial hS1 ?_
      refine l_nil rfl ?_
      refine then_n ?_
      refine wp_ret ?_
      refine then_r ?_
      refine blk_r ?_
      refine then_r ?_
      refine then_r ?_
      refine blk_r ?_
      refine then_r ?_
      have hR : rv zs off = (0, 0, false) := rv_neg hb4p
      exact c_end (S := (fun x_ => St w x_ [])) (rs := [.tmp 4, .tmp 5, .tmp 6]) rfl [] (v := Value.tuple #[Value.int .i64 0, Value.int .i64 0, Value.bool false]) (C := True) (by kernel_rfl) trivial hS1 ((hS1.rv (by rw [hR])))
    · skip
      have hb4p := of_decide_eq_false hb4
      refine q_seg (S := (fun x_ => St w x_ [])) [(23, Value.bool (decide ((((n : Nat) : Int) - ((k : Nat) : Int)) ≤ off))), (22, Value.bool (decide ((((n : Nat) : Int) - ((k : Nat) : Int)) ≤ off))), (21, Value.int .i64 (((n : Nat) : Int) - ((k : Nat) : Int))), (20, Value.int .i64 ((k : Nat) : Int)), (19, Value.int .i64 ((n : Nat) : Int)), (18, Value.slice A n c), (17, Value.int .i64 off)] [.no, .no, .no, .no, .no, .no, .v (.bool false)] (((decide (off < (0 : Int))) = false) ∧ ((decide (off < (0 : Int))) = false) ∧ ((decide (off < (0 : Int))) = false) ∧ ((decide (off < (0 : Int))) = false) ∧ ((decide (off < (0 : Int))) = false) ∧ (InK .i64 (((n : Nat) : Int) - ((k : Nat) : Int))) ∧ ((decide (off < (0 : Int))) = false) ∧ ((decide (off < (0 : Int))) = false)) (by kernel_rfl) ⟨hb4, hb4, hb4, hb4, hb4, (in64 (by omega) (by omega)), hb4, hb4⟩ hS1 ?_
      refine l_nil rfl ?_
      refine then_n ?_
      rcases Bool.eq_false_or_eq_true (decide ((((n : Nat) : Int) - ((k : Nat) : Int)) ≤ off)) with hb5 | hb5
      · skip
        have hb5p := of_decide_eq_true hb5
        refine c_true (b := (decide ((((n : Nat) : Int) - ((k : Nat) : Int)) ≤ off))) (by kernel_rfl) hb5 ?_
        refine wp_seq ?_
        refine c_reg ?_
        refine q_seg (S := (fun x_ => St w x_ [])) [(6, Value.bool false), (5, Value.int .i64 0), (4, Value.int .i64 0)] [.no, .no, .no] True (by kernel_rfl) trivial hS1 ?_
        refine l_nil rfl ?_
        refine then_n ?_
        refine wp_ret ?_
        refine then_r ?_
        refine blk_r ?_
        refine then_r ?_
        refine then_r ?_
        refine blk_r ?_
        refine then_r ?_
        have hR : rv zs off = (0, 0, false) := rv_none (by omega) (hrd.trans (rdk_n (List.getElem?_eq_none (by omega))))
        exact c_end (S := (fun x_ => St w x_ [])) (rs := [.tmp 4, .tmp 5, .tmp 6]) rfl [] (v := Value.tuple #[Value.int .i64 0, Value.int .i64 0, Value.bool false]) (C := True) (by kernel_rfl) trivial hS1 ((hS1.rv (by rw [hR])))
      · skip
        have hb5p := of_decide_eq_false hb5
        obtain ⟨bq, offq, rfl, hbB, hcl⟩ := hr.2 (by omega)
        obtain ⟨z, hzk, hzm⟩ := get_of_lt (l := zs) (k := off.toNat + k) (by omega)
        obtain ⟨hz1, hz2⟩ := okz8 hz z hzm
        refine c_false (b := (decide ((((n : Nat) : Int) - ((k : Nat) : Int)) ≤ off))) (by kernel_rfl) hb5 ?_
        refine wp_skip ?_
        refine then_n ?_
        refine wp_seq ?_
        refine c_reg ?_
        refine q_seg (S := (fun x_ => St w x_ [])) [(9, Value.int .i64 z), (30, Value.int .i64 z), (29, Value.int .u8 z), (28, Value.pointer (some ⟨bq, offq + Int.toNat (off + ((k : Nat) : Int)) * 1, none⟩)), (27, Value.int .i64 (off + ((k : Nat) : Int))), (26, Value.int .i64 ((k : Nat) : Int)), (25, Value.int .i64 off), (24, Value.slice (some ⟨bq, offq, none⟩) n c)] [.no, .no, .no, .no, .no, .v (Value.int .u8 z), .no, .no] ((InK .i64 (off + ((k : Nat) : Int))) ∧ ((0 : Int) ≤ (off + ((k : Nat) : Int))) ∧ ((off + ((k : Nat) : Int)) < ((n : Nat) : Int)) ∧ (LoadsAt Try.prog (fun x_ => St w x_ []) 5 ⟨bq, offq + Int.toNat (off + ((k : Nat) : Int)) * 1, none⟩ (Value.int .u8 z)) ∧ (InK .i64 z)) (by kernel_rfl) ⟨(in64 (by omega) (by omega)), (by omega), (by omega), (ld_low (hcl _ _ (by rw [show Int.toNat (off + ((k : Nat) : Int)) * 1 = off.toNat + k by omega]; exact map_get hzk)) (by kernel_rfl)), (in64 (by omega) (by omega))⟩ hS1 ?_
        refine l_nil rfl ?_
        refine then_n ?_
        refine wp_seq ?_
        refine c_reg ?_
        obtain ⟨hsh, hsh2⟩ := shl7 (g := z % 128) (k := k) (by omega) (by omega) (by omega)
        obtain ⟨hor, hor2, hor3⟩ := or7 (a := acc) (g := z % 128) (k := k) (by omega) ha0 ha1 (by omega) (by omega)
        refine q_seg (S := (fun x_ => St w x_ [])) [(7, Value.int .i64 (acc + z % 128 * p7 k)), (37, Value.int .i64 (acc + z % 128 * p7 k)), (36, Value.int .i64 (z % 128 * p7 k)), (35, Value.int .i64 ((7 : Int) * ((k : Nat) : Int))), (34, Value.int .i64 ((k : Nat) : Int)), (33, Value.int .i64 (z % 128)), (32, Value.int .i64 z), (31, Value.int .i64 acc)] [.no, .no, .v (.int .i64 (z % 128)), .no, .no, .v (.int .i64 (z % 128 * p7 k)), .v (.int .i64 (acc + z % 128 * p7 k)), .no] ((ibits .and .i64 z (127 : Int) = (z % 128)) ∧ (InK .i64 ((7 : Int) * ((k : Nat) : Int))) ∧ ((0 : Int) ≤ ((7 : Int) * ((k : Nat) : Int))) ∧ (IntKind.wrap .i64 ((z % 128) * 2 ^ (min (Int.toNat ((7 : Int) * ((k : Nat) : Int))) (IntKind.bits .i64))) = (z % 128 * p7 k)) ∧ (ibits .or .i64 acc (z % 128 * p7 k) = (acc + z % 128 * p7 k))) (by kernel_rfl) ⟨(and127 (by omega) (by omega)), (in64 (by omega) (by omega)), (by omega), hsh, hor⟩ hS1 ?_
        refine l_nil rfl ?_
        refine then_n ?_
        refine wp_seq ?_
        refine c_reg ?_
        refine q_seg (S := (fun x_ => St w x_ [])) [(39, Value.bool (decide (z < (128 : Int)))), (38, Value.int .i64 z)] [.no, .no] True (by kernel_rfl) trivial hS1 ?_
        refine l_nil rfl ?_
        refine then_n ?_
        rcases Bool.eq_false_or_eq_true (decide (z < (128 : Int))) with hb6 | hb6
        · skip
          have hb6p := of_decide_eq_true hb6
          refine c_true (b := (decide (z < (128 : Int)))) (by kernel_rfl) hb6 ?_
          refine wp_seq ?_
          refine wp_seq ?_
          refine c_reg ?_
          refine q_seg (S := (fun x_ => St w x_ [])) [(42, Value.bool (decide (z = (0 : Int)))), (41, Value.bool (decide (z = (0 : Int)))), (40, Value.int .i64 z)] [.no, .no, .no] True (by kernel_rfl) trivial hS1 ?_
          rcases Bool.eq_false_or_eq_true (decide (z = (0 : Int))) with hb7 | hb7
          · skip
            have hb7p := of_decide_eq_true hb7
            refine q_seg (S := (fun x_ => St w x_ [])) [(46, Value.bool (decide ((0 : Int) < ((k : Nat) : Int)))), (45, Value.bool (decide ((0 : Int) < ((k : Nat) : Int)))), (44, Value.bool (decide ((0 : Int) < ((k : Nat) : Int)))), (43, Value.int .i64 ((k : Nat) : Int))] [.no, .no, .v (.bool true), .no] (((decide (z = (0 : Int))) = true) ∧ ((decide (z = (0 : Int))) = true) ∧ ((decide (z = (0 : Int))) = true)) (by kernel_rfl) ⟨hb7, hb7, hb7⟩ hS1 ?_
            rcases Bool.eq_false_or_eq_true (decide ((0 : Int) < ((k : Nat) : Int))) with hb8 | hb8
            · skip
              have hb8p := of_decide_eq_true hb8
              refine q_seg (S := (fun x_ => St w x_ [])) [(49, Value.bool true), (48, undef), (47, undef)] [.skip, .skip, .v (.bool true)] (((decide ((0 : Int) < ((k : Nat) : Int))) = !false) ∧ ((decide ((0 : Int) < ((k : Nat) : Int))) = !false) ∧ ((decide ((0 : Int) < ((k : Nat) : Int))) = true)) (by kernel_rfl) ⟨hb8, hb8, hb8⟩ hS1 ?_
              refine l_nil rfl ?_
              refine then_n ?_
              refine c_true (b := true) (by kernel_rfl) rfl ?_
              refine wp_seq ?_
              refine c_reg ?_
              refine q_seg (S := (fun x_ => St w x_ [])) [(6, Value.bool false), (5, Value.int .i64 0), (4, Value.int .i64 0)] [.no, .no, .no] True (by kernel_rfl) trivial hS1 ?_
              refine l_nil rfl ?_
              refine then_n ?_
              refine wp_ret ?_
              refine then_r ?_
              refine blk_r ?_
              refine then_r ?_
              refine then_r ?_
              refine blk_r ?_
              refine then_r ?_
              have hR : rv zs off = (0, 0, false) := rv_none (by omega) (hrd.trans (rdk_z hzk (by omega) (by omega) (by omega)))
              exact c_end (S := (fun x_ => St w x_ [])) (rs := [.tmp 4, .tmp 5, .tmp 6]) rfl [] (v := Value.tuple #[Value.int .i64 0, Value.int .i64 0, Value.bool false]) (C := True) (by kernel_rfl) trivial hS1 ((hS1.rv (by rw [hR])))
            · skip
              have hb8p := of_decide_eq_false hb8
              refine q_seg (S := (fun x_ => St w x_ [])) [(49, Value.bool (decide ((1000000000000 : Int) < (acc + z % 128 * p7 k)))), (48, Value.bool (decide ((1000000000000 : Int) < (acc + z % 128 * p7 k)))), (47, Value.int .i64 (acc + z % 128 * p7 k))] [.no, .no, .v (.bool false)] (((decide ((0 : Int) < ((k : Nat) : Int))) = false) ∧ ((decide ((0 : Int) < ((k : Nat) : Int))) = false) ∧ ((decide ((0 : Int) < ((k : Nat) : Int))) = false)) (by kernel_rfl) ⟨hb8, hb8, hb8⟩ hS1 ?_
              refine l_nil rfl ?_
              refine then_n ?_
              rcases Bool.eq_false_or_eq_true (decide ((1000000000000 : Int) < (acc + z % 128 * p7 k))) with hb9 | hb9
              · skip
                have hb9p := of_decide_eq_true hb9
                refine c_true (b := (decide ((1000000000000 : Int) < (acc + z % 128 * p7 k)))) (by kernel_rfl) hb9 ?_
                refine wp_seq ?_
                refine c_reg ?_
                refine q_seg (S := (fun x_ => St w x_ [])) [(6, Value.bool false), (5, Value.int .i64 0), (4, Value.int .i64 0)] [.no, .no, .no] True (by kernel_rfl) trivial hS1 ?_
                refine l_nil rfl ?_
                refine then_n ?_
                refine wp_ret ?_
                refine then_r ?_
                refine blk_r ?_
                refine then_r ?_
                refine then_r ?_
                refine blk_r ?_
                refine then_r ?_
                have hR : rv zs off = (0, 0, false) := rv_none (by omega) (hrd.trans (rdk_b hzk (by omega) (by omega)))
                exact c_end (S := (fun x_ => St w x_ [])) (rs := [.tmp 4, .tmp 5, .tmp 6]) rfl [] (v := Value.tuple #[Value.int .i64 0, Value.int .i64 0, Value.bool false]) (C := True) (by kernel_rfl) trivial hS1 ((hS1.rv (by rw [hR])))
              · skip
                have hb9p := of_decide_eq_false hb9
                refine c_false (b := (decide ((1000000000000 : Int) < (acc + z % 128 * p7 k)))) (by kernel_rfl) hb9 ?_
                refine wp_skip ?_
                refine then_n ?_
                refine wp_seq ?_
                refine c_reg ?_
                refine q_seg (S := (fun x_ => St w x_ [])) [(6, Value.bool true), (5, Value.int .i64 ((off + ((k : Nat) : Int)) + (1 : Int))), (4, Value.int .i64 (acc + z % 128 * p7 k)), (54, Value.int .i64 ((off + ((k : Nat) : Int)) + (1 : Int))), (53, Value.int .i64 (off + ((k : Nat) : Int))), (52, Value.int .i64 ((k : Nat) : Int)), (51, Value.int .i64 off), (50, Value.int .i64 (acc + z % 128 * p7 k))] [.no, .no, .no, .no, .no, .no, .no, .no] ((InK .i64 (off + ((k : Nat) : Int))) ∧ (InK .i64 ((off + ((k : Nat) : Int)) + (1 : Int)))) (by kernel_rfl) ⟨(in64 (by omega) (by omega)), (in64 (by omega) (by omega))⟩ hS1 ?_
                refine l_nil rfl ?_
                refine then_n ?_
                refine wp_ret ?_
                refine blk_r ?_
                refine then_r ?_
                refine then_r ?_
                refine blk_r ?_
                refine then_r ?_
                have hR : rv zs off = ((acc + z % 128 * p7 k), ((off + ((k : Nat) : Int)) + (1 : Int)), true) := rv_some (by omega) (hrd.trans ((rdk_t hzk (by omega) (by omega) (by omega)).trans (congrArg (fun p_ => some (acc + z % 128 * p7 k, p_)) (show _ = ((off + ((k : Nat) : Int)) + (1 : Int)) by omega))))
                exact c_end (S := (fun x_ => St w x_ [])) (rs := [.tmp 4, .tmp 5, .tmp 6]) rfl [] (v := Value.tuple #[Value.int .i64 (acc + z % 128 * p7 k), Value.int .i64 ((off + ((k : Nat) : Int)) + (1 : Int)), Value.bool true]) (C := True) (by kernel_rfl) trivial hS1 ((hS1.rv (by rw [hR])))
          · skip
            have hb7p := of_decide_eq_false hb7
            refine q_seg (S := (fun x_ => St w x_ [])) [(49, Value.bool (decide ((1000000000000 : Int) < (acc + z % 128 * p7 k)))), (48, Value.bool (decide ((1000000000000 : Int) < (acc + z % 128 * p7 k)))), (47, Value.int .i64 (acc + z % 128 * p7 k)), (46, Value.bool false), (45, Value.bool false), (44, undef), (43, undef)] [.skip, .skip, .v (.bool false), .no, .no, .no, .v (.bool false)] (((decide (z = (0 : Int))) = !true) ∧ ((decide (z = (0 : Int))) = !true) ∧ ((decide (z = (0 : Int))) = false) ∧ (false = false) ∧ (false = false) ∧ (false = false)) (by kernel_rfl) ⟨hb7, hb7, hb7, rfl, rfl, rfl⟩ hS1 ?_
            refine l_nil rfl ?_
            refine then_n ?_
            rcases Bool.eq_false_or_eq_true (decide ((1000000000000 : Int) < (acc + z % 128 * p7 k))) with hb10 | hb10
            · skip
              have hb10p := of_decide_eq_true hb10
              refine c_true (b := (decide ((1000000000000 : Int) < (acc + z % 128 * p7 k)))) (by kernel_rfl) hb10 ?_
              refine wp_seq ?_
              refine c_reg ?_
              refine q_seg (S := (fun x_ => St w x_ [])) [(6, Value.bool false), (5, Value.int .i64 0), (4, Value.int .i64 0)] [.no, .no, .no] True (by kernel_rfl) trivial hS1 ?_
              refine l_nil rfl ?_
              refine then_n ?_
              refine wp_ret ?_
              refine then_r ?_
              refine blk_r ?_
              refine then_r ?_
              refine then_r ?_
              refine blk_r ?_
              refine then_r ?_
              have hR : rv zs off = (0, 0, false) := rv_none (by omega) (hrd.trans (rdk_b hzk (by omega) (by omega)))
              exact c_end (S := (fun x_ => St w x_ [])) (rs := [.tmp 4, .tmp 5, .tmp 6]) rfl [] (v := Value.tuple #[Value.int .i64 0, Value.int .i64 0, Value.bool false]) (C := True) (by kernel_rfl) trivial hS1 ((hS1.rv (by rw [hR])))
            · skip
              have hb10p := of_decide_eq_false hb10
              refine c_false (b := (decide ((1000000000000 : Int) < (acc + z % 128 * p7 k)))) (by kernel_rfl) hb10 ?_
              refine wp_skip ?_
              refine then_n ?_
              refine wp_seq ?_
              refine c_reg ?_
              refine q_seg (S := (fun x_ => St w x_ [])) [(6, Value.bool true), (5, Value.int .i64 ((off + ((k : Nat) : Int)) + (1 : Int))), (4, Value.int .i64 (acc + z % 128 * p7 k)), (54, Value.int .i64 ((off + ((k : Nat) : Int)) + (1 : Int))), (53, Value.int .i64 (off + ((k : Nat) : Int))), (52, Value.int .i64 ((k : Nat) : Int)), (51, Value.int .i64 off), (50, Value.int .i64 (acc + z % 128 * p7 k))] [.no, .no, .no, .no, .no, .no, .no, .no] ((InK .i64 (off + ((k : Nat) : Int))) ∧ (InK .i64 ((off + ((k : Nat) : Int)) + (1 : Int)))) (by kernel_rfl) ⟨(in64 (by omega) (by omega)), (in64 (by omega) (by omega))⟩ hS1 ?_
              refine l_nil rfl ?_
              refine then_n ?_
              refine wp_ret ?_
              refine blk_r ?_
              refine then_r ?_
              refine then_r ?_
              refine blk_r ?_
              refine then_r ?_
              have hR : rv zs off = ((acc + z % 128 * p7 k), ((off + ((k : Nat) : Int)) + (1 : Int)), true) := rv_some (by omega) (hrd.trans ((rdk_t hzk (by omega) (by omega) (by omega)).trans (congrArg (fun p_ => some (acc + z % 128 * p7 k, p_)) (show _ = ((off + ((k : Nat) : Int)) + (1 : Int)) by omega))))
              exact c_end (S := (fun x_ => St w x_ [])) (rs := [.tmp 4, .tmp 5, .tmp 6]) rfl [] (v := Value.tuple #[Value.int .i64 (acc + z % 128 * p7 k), Value.int .i64 ((off + ((k : Nat) : Int)) + (1 : Int)), Value.bool true]) (C := True) (by kernel_rfl) trivial hS1 ((hS1.rv (by rw [hR])))
        · skip
          have hb6p := of_decide_eq_false hb6
          refine c_false (b := (decide (z < (128 : Int)))) (by kernel_rfl) hb6 ?_
          refine wp_skip ?_
          refine blk_n ?_
          refine then_n ?_
          refine c_reg ?_
          refine q_seg (S := (fun x_ => St w x_ [])) [(8, Value.int .i64 (((k : Nat) : Int) + (1 : Int))), (13, Value.int .i64 (((k : Nat) : Int) + (1 : Int))), (12, Value.int .i64 ((k : Nat) : Int))] [.no, .no, .no] ((InK .i64 (((k : Nat) : Int) + (1 : Int)))) (by kernel_rfl) (in64 (by omega) (by omega)) hS1 ?_
          refine l_nil rfl ?_
          refine then_n ?_
          refine round_end ((k + 1, f2, (acc + z % 128 * p7 k))) ?_ ?_ ?_
          · exact (agree_cons (by kernel_rfl) (agree_cons (by kernel_rfl) (agree_cons (by kernel_rfl) (agree_cons (by kernel_rfl) agree_nil))))
          · exact ⟨(by omega), hor2, hor3, (hrd.trans (rdk_c hzk (by omega))), hS1⟩
          · exact (by first | omega | (dsimp only; omega))
  · skip
    have hb3p := of_decide_eq_false hb3
    obtain rfl : f = 0 := by omega
    refine c_false (b := (decide (((k : Nat) : Int) < (6 : Int)))) (by kernel_rfl) hb3 ?_
    refine wp_exit ?_
    refine then_x ?_
    refine then_x ?_
    refine blk_hit ?_
    refine then_n ?_
    refine wp_seq ?_
    refine c_reg ?_
    refine q_seg (S := (fun x_ => St w x_ [])) [(6, Value.bool false), (5, Value.int .i64 0), (4, Value.int .i64 0)] [.no, .no, .no] True (by kernel_rfl) trivial hS1 ?_
    refine l_nil rfl ?_
    refine then_n ?_
    refine wp_ret ?_
    have hR : rv zs off = (0, 0, false) := Decidable.byCases (fun h_ : off < 0 => rv_neg h_) (fun h_ => rv_none h_ hrd)
    exact c_end (S := (fun x_ => St w x_ [])) (rs := [.tmp 4, .tmp 5, .tmp 6]) rfl [] (v := Value.tuple #[Value.int .i64 0, Value.int .i64 0, Value.bool false]) (C := True) (by kernel_rfl) trivial hS1 ((hS1.rv (by rw [hR])))
theorem DecodeInts_i_c (A : Option Addr) (n c : Nat) (zs : List Int) (off : Int) (w : World) (hn : n ≤ 1000000000) (hz : okz .u8 zs) (hr : Rd w w.heap.size A n (zs.map (Value.int .u8))) : Calls Try.prog 58 #[.slice A n c, .int .i64 off, .int .i64 2] w (Ret w (fun v new => ∃ (A_ : Option Addr) (c_ : Nat), v = .tuple #[.slice A_ (List.length (dec2 zs off).1) c_, .int .i64 (dec2 zs off).2.1, .bool (dec2 zs off).2.2] ∧ new = [Res.row (.slice A_ (List.length (dec2 zs off).1) c_) 3 1 (List.length (dec2 zs off).1) ((dec2 zs off).1.map (Value.int .i64))])) := by
  have hln := hr.len
  refine calls_FA Try.func58 rfl (n := 51) rfl (l := [(0, Value.slice A n c), (1, Value.int .i64 off), (2, Value.int .i64 2)]) rfl (by simp) (fun g => ?_)
  have hS := St.init w
  refine wp_seq ?_
  refine c_reg ?_
  refine q_seg (S := (fun x_ => St w x_ [])) [(8, Value.bool false), (7, Value.int .i64 0), (6, Value.slice none 0 0)] [.no, .no, .no] True (by kernel_rfl) trivial hS ?_
  refine l_nil rfl ?_
  refine then_n ?_
  refine wp_seq ?_
  refine wp_seq ?_
  refine c_reg ?_
  refine q_seg (S := (fun x_ => St w x_ [])) [(15, Value.int .i64 2)] [.no] True (by kernel_rfl) trivial hS ?_
  refine l_op rfl rfl (fun K hK => op_callv (d := some 16) rfl rfl ⟨_, Try.func59, by kernel_rfl, by kernel_rfl⟩ (vs := [Value.int .i64 2, Value.int .i64 0, Value.int .i64 100]) (by kernel_rfl) (v := Value.bool (inR 2 0 100)) (InRange_c 2 0 100 _) hS (fun w1 hS1 => hK _ _ ?_))
  clear hK K
  refine q_seg (S := (fun x_ => St w x_ [])) [(21, Value.int .i64 ((n : Nat) : Int)), (20, Value.slice A n c), (19, Value.int .i64 off), (18, Value.bool (!(inR 2 0 100))), (17, Value.bool (!(inR 2 0 100)))] [.no, .no, .no, .no, .no] (((!(inR 2 0 100)) = false) ∧ ((!(inR 2 0 100)) = false) ∧ ((!(inR 2 0 100)) = false)) (by kernel_rfl) ⟨(nb (v := true) (by decide)), (nb (v := true) (by decide)), (nb (v := true) (by decide))⟩ hS1 ?_
  refine l_opg rfl (b := (!(inR 2 0 100))) (want := false) (by kernel_rfl) (nb (v := true) (by decide)) (fun K hK => op_callv (d := some 22) rfl rfl ⟨_, Try.func59, by kernel_rfl, by kernel_rfl⟩ (vs := [Value.int .i64 off, Value.int .i64 0, Value.int .i64 ((n : Nat) : Int)]) (by kernel_rfl) (v := Value.bool (inR off 0 ((n : Nat) : Int))) (InRange_c off 0 ((n : Nat) : Int) _) hS1 (fun w2 hS2 => hK _ _ ?_))
  clear hK K
  refine q_seg (S := (fun x_ => St w x_ [])) [(24, Value.bool (!(inR off 0 ((n : Nat) : Int)))), (23, Value.bool (!(inR off 0 ((n : Nat) : Int))))] [.no, .v (.bool false)] (((!(inR 2 0 100)) = false) ∧ ((!(inR 2 0 100)) = false)) (by kernel_rfl) ⟨(nb (v := true) (by decide)), (nb (v := true) (by decide))⟩ hS2 ?_
  refine l_nil rfl ?_
  refine then_n ?_
  rcases Bool.eq_false_or_eq_true (inR off 0 ((n : Nat) : Int)) with hb3 | hb3
  · skip
    obtain ⟨hb3p, hb3q⟩ := inR_iff.1 hb3
    refine c_false (b := (!(inR off 0 ((n : Nat) : Int)))) (by kernel_rfl) (nb (v := true) hb3) ?_
    refine wp_skip ?_
    refine then_n ?_
    refine wp_seq ?_
    refine c_reg ?_
    refine q_seg (S := (fun x_ => St w x_ [])) [(26, Value.int .i64 2)] [.no] True (by kernel_rfl) trivial hS2 ?_
    refine l_op rfl rfl (fun K hK => op_make (d := some 27) rfl rfl (e := 3) (by kernel_rfl) [Value.int .i64 0] (by kernel_rfl) 1 (by kernel_rfl) 8 (by kernel_rfl) 0 2 (kl := .i64) (kc := .i64) (by kernel_rfl) (by kernel_rfl) (by omega) (by omega) (by unfold maxLen; omega) hS2 (fun blk5 w4 hS4 => hK _ _ ?_))
    clear hK K
    refine q_seg (S := (fun x_ => St w x_ [Res.row (Value.slice (some ⟨blk5, 0, none⟩) 0 2) 3 1 0 (zrow [Value.int .i64 0] (0 * 1))])) [(9, Value.slice (some ⟨blk5, 0, none⟩) 0 2)] [.no] True (by kernel_rfl) trivial hS4 ?_
    refine l_nil rfl ?_
    refine then_n ?_
    refine wp_seq ?_
    refine c_reg ?_
    refine q_seg (S := (fun x_ => St w x_ [Res.row (Value.slice (some ⟨blk5, 0, none⟩) 0 2) 3 1 0 (zrow [Value.int .i64 0] (0 * 1))])) [(10, Value.int .i64 off), (28, Value.int .i64 off)] [.no, .no] True (by kernel_rfl) trivial hS4 ?_
    refine l_nil rfl ?_
    refine then_n ?_
    refine wp_seq ?_
    refine wp_seq ?_
    refine c_reg ?_
    refine q_seg (S := (fun x_ => St w x_ [Res.row (Value.slice (some ⟨blk5, 0, none⟩) 0 2) 3 1 0 (zrow [Value.int .i64 0] (0 * 1))])) [(11, Value.int .i64 0)] [.no] True (by kernel_rfl) trivial hS4 ?_
    refine l_nil rfl ?_
    refine then_n ?_
    refine wp_block ?_
    refine c_loop (X := Nat × Nat × Int × List Int × Option Addr × Nat) (fun (x_ : Nat × Nat × Int × List Int × Option Addr × Nat) => match x_ with | (k, m, pos, ac, A2, c2) => [(0, Value.slice A n c), (2, Value.int .i64 2), (9, Value.slice A2 (List.length ac) c2), (10, Value.int .i64 pos), (11, Value.int .i64 ((k : Nat) : Int))]) (fun (x_ : Nat × Nat × Int × List Int × Option Addr × Nat) (wr : World) => match x_ with | (k, m, pos, ac, A2, c2) => (m + k = 2) ∧ (dec2 zs off = decn zs m pos ac) ∧ (ac.length = k) ∧ St w wr [Res.row (Value.slice A2 (List.length ac) c2) 3 1 (List.length ac) (ac.map (Value.int .i64))]) (fun (x_ : Nat × Nat × Int × List Int × Option Addr × Nat) => match x_ with | (k, m, pos, ac, A2, c2) => m) ((0, 2, off, [], (some ⟨blk5, 0, none⟩), 2)) ?_ ?_ ?_
    · exact (agree_cons (by kernel_rfl) (agree_cons (by kernel_rfl) (agree_eq (v0 := Value.slice (some ⟨blk5, 0, none⟩) 0 2) (by kernel_rfl) rfl (agree_cons (by kernel_rfl) (agree_cons (by kernel_rfl) agree_nil)))))
    · exact ⟨rfl, (if_pos ⟨by omega, by omega⟩), rfl, (hS4.eqv (by simp [zrow_one]))⟩
    rintro ⟨k, m, pos, ac, A2, c2⟩ g7 w6 ⟨hmk, hdc, hal, hS6⟩
    refine wp_seq ?_
    refine wp_seq ?_
    refine c_reg ?_
    refine q_seg (S := (fun x_ => St w x_ [Res.row (Value.slice A2 (List.length ac) c2) 3 1 (List.length ac) (ac.map (Value.int .i64))])) [(31, Value.bool (decide (((k : Nat) : Int) < (2 : Int)))), (30, Value.int .i64 2), (29, Value.int .i64 ((k : Nat) : Int))] [.no, .no, .no] True (by kernel_rfl) trivial hS6 ?_
    refine l_nil rfl ?_
    refine then_n ?_
    rcases Bool.eq_false_or_eq_true (decide (((k : Nat) : Int) < (2 : Int))) with hb8 | hb8
    · skip
      have hb8p := of_decide_eq_true hb8
      obtain ⟨m2, rfl⟩ : ∃ m2, m = m2 + 1 := ⟨m - 1, by omega⟩
      refine c_true (b := (decide (((k : Nat) : Int) < (2 : Int)))) (by kernel_rfl) hb8 ?_
      refine wp_skip ?_
      refine then_n ?_
      refine wp_seq ?_
      refine wp_block ?_
      refine wp_seq ?_
      refine c_reg ?_
      refine q_seg (S := (fun x_ => St w x_ [Res.row (Value.slice A2 (List.length ac) c2) 3 1 (List.length ac) (ac.map (Value.int .i64))])) [(36, Value.int .i64 pos), (35, Value.slice A n c)] [.no, .no] True (by kernel_rfl) trivial hS6 ?_
      obtain ⟨rn10, rp11, ro12, hrd13⟩ : ∃ (rn10 : Int) (rp11 : Int) (ro12 : Bool), rv zs pos = (rn10, rp11, ro12) := ⟨_, _, _, rfl⟩
      refine l_op rfl rfl (fun K hK => op_callv (d := some 37) rfl rfl ⟨_, Try.func91, by kernel_rfl, by kernel_rfl⟩ (vs := [Value.slice A n c, Value.int .i64 pos]) (by kernel_rfl) (v := Value.tuple #[Value.int .i64 rn10, Value.int .i64 rp11, Value.bool ro12]) ((by have h_ := ReadUvarint_i_c A n c zs pos w6 (by omega) hz (hS6.rdlow hr); rw [hrd13] at h_; exact h_)) hS6 (fun w9 hS9 => hK _ _ ?_))
      clear hK K
      refine q_seg (S := (fun x_ => St w x_ [Res.row (Value.slice A2 (List.length ac) c2) 3 1 (List.length ac) (ac.map (Value.int .i64))])) [(14, Value.bool ro12), (13, Value.int .i64 rp11), (12, Value.int .i64 rn10), (40, Value.bool ro12), (39, Value.int .i64 rp11), (38, Value.int .i64 rn10), (34, Value.tuple #[Value.int .i64 rn10, Value.int .i64 rp11, Value.bool ro12])] [.no, .no, .no, .no, .no, .no, .no] True (by kernel_rfl) trivial hS9 ?_
      refine l_nil rfl ?_
      refine then_n ?_
      refine wp_seq ?_
      refine wp_seq ?_
      refine c_reg ?_
      refine q_seg (S := (fun x_ => St w x_ [Res.row (Value.slice A2 (List.length ac) c2) 3 1 (List.length ac) (ac.map (Value.int .i64))])) [(42, Value.bool (!(ro12))), (41, Value.bool ro12)] [.no, .no] True (by kernel_rfl) trivial hS9 ?_
      refine l_nil rfl ?_
      refine then_n ?_
      rcases Bool.eq_false_or_eq_true (ro12) with hb14 | hb14
      · skip
        have hrd13t15 := hrd13
        rw [hb14] at hrd13t15
        refine c_false (b := (!(ro12))) (by kernel_rfl) (nb (v := true) hb14) ?_
        refine wp_skip ?_
        refine then_n ?_
        refine wp_seq ?_
        refine c_reg ?_
        refine q_seg (S := (fun x_ => St w x_ [Res.row (Value.slice A2 (List.length ac) c2) 3 1 (List.length ac) (ac.map (Value.int .i64))])) [(45, Value.int .i64 rn10), (44, Value.slice A2 (List.length ac) c2)] [.no, .no] True (by kernel_rfl) trivial hS9 ?_
        refine l_op rfl rfl (fun K hK => op_buildSlice (d := some 46) rfl rfl (e := 3) (by kernel_rfl) 1 (by kernel_rfl) (by decide) (by decide) [Value.int .i64 rn10] (by kernel_rfl) rfl hS9 (fun blk17 w16 hS16 => hK _ _ ?_))
        clear hK K
        refine l_op rfl rfl (fun K hK => op_append (d := some 47) rfl rfl elInt hS16 (i := 1) rfl rfl rfl (news := [Value.int .i64 rn10]) (hS16.rd (List.mem_of_getElem? (i := 0) rfl)) (all_one (by rfl)) (by omega) (by omega) (fun v19 w18 hS18 => hK _ _ ?_))
        clear hK K
        obtain ⟨hlv19, Av19, cv19, hvv19, hnv19, hmv19⟩ := hS18.row_slice (List.mem_of_getElem? (i := 1) rfl)
        subst hvv19
        refine q_seg (S := (fun x_ => St w x_ [Res.row (Value.slice (some ⟨blk17, 0, none⟩) 1 1) 3 1 1 ([Value.int .i64 rn10]), Res.row (Value.slice Av19 ((List.length ac) + 1) cv19) 3 1 ((List.length ac) + 1) ((ac.map (Value.int .i64)) ++ [Value.int .i64 rn10])])) [(9, Value.slice Av19 ((List.length ac) + 1) cv19)] [.no] True (by kernel_rfl) trivial hS18 ?_
        refine l_nil rfl ?_
        refine then_n ?_
        refine c_reg ?_
        refine q_seg (S := (fun x_ => St w x_ [Res.row (Value.slice (some ⟨blk17, 0, none⟩) 1 1) 3 1 1 ([Value.int .i64 rn10]), Res.row (Value.slice Av19 ((List.length ac) + 1) cv19) 3 1 ((List.length ac) + 1) ((ac.map (Value.int .i64)) ++ [Value.int .i64 rn10])])) [(10, Value.int .i64 rp11), (48, Value.int .i64 rp11)] [.no, .no] True (by kernel_rfl) trivial hS18 ?_
        refine l_nil rfl ?_
        refine blk_n ?_
        refine then_n ?_
        refine c_reg ?_
        refine q_seg (S := (fun x_ => St w x_ [Res.row (Value.slice (some ⟨blk17, 0, none⟩) 1 1) 3 1 1 ([Value.int .i64 rn10]), Res.row (Value.slice Av19 ((List.length ac) + 1) cv19) 3 1 ((List.length ac) + 1) ((ac.map (Value.int .i64)) ++ [Value.int .i64 rn10])])) [(11, Value.int .i64 (((k : Nat) : Int) + (1 : Int))), (33, Value.int .i64 (((k : Nat) : Int) + (1 : Int))), (32, Value.int .i64 ((k : Nat) : Int))] [.no, .no, .no] ((InK .i64 (((k : Nat) : Int) + (1 : Int)))) (by kernel_rfl) (in64 (by omega) (by omega)) hS18 ?_
        refine l_nil rfl ?_
        refine then_n ?_
        have hS18s1 : St w w18 [Res.row (Value.slice Av19 ((List.length ac) + 1) cv19) 3 1 ((List.length ac) + 1) ((ac.map (Value.int .i64)) ++ [Value.int .i64 rn10])] := (hS18.sub (List.Sublist.cons _ (List.Sublist.cons_cons _ List.Sublist.slnil)))
        refine round_end ((k + 1, m2, rp11, ac ++ [rn10], Av19, cv19)) ?_ ?_ ?_
        · exact (agree_cons (by kernel_rfl) (agree_cons (by kernel_rfl) (agree_eq (v0 := Value.slice Av19 ((List.length ac) + 1) cv19) (by kernel_rfl) (congrArg (fun m => Value.slice Av19 m cv19) (by simp)) (agree_cons (by kernel_rfl) (agree_cons (by kernel_rfl) agree_nil)))))
        · exact ⟨(by omega), (hdc.trans (decn_t hrd13t15)), (by simp; omega), (hS18s1.eqv (by simp))⟩
        · exact (by first | omega | (dsimp only; omega))
      · skip
        have hrd13f20 := hrd13
        rw [hb14] at hrd13f20
        refine c_true (b := (!(ro12))) (by kernel_rfl) (nb (v := false) hb14) ?_
        refine wp_seq ?_
        refine c_reg ?_
        refine l_op rfl rfl (fun K hK => op_buildSlice (d := some 43) rfl rfl (e := 3) (by kernel_rfl) 1 (by kernel_rfl) (by decide) (by decide) [] (by kernel_rfl) rfl hS9 (fun blk22 w21 hS21 => hK _ _ ?_))
        clear hK K
        refine q_seg (S := (fun x_ => St w x_ [Res.row (Value.slice (some ⟨blk22, 0, none⟩) 0 0) 3 1 0 ([]), Res.row (Value.slice A2 (List.length ac) c2) 3 1 (List.length ac) (ac.map (Value.int .i64))])) [(8, Value.bool false), (7, Value.int .i64 0), (6, Value.slice (some ⟨blk22, 0, none⟩) 0 0)] [.no, .no, .no] True (by kernel_rfl) trivial hS21 ?_
        refine l_nil rfl ?_
        refine then_n ?_
        refine wp_ret ?_
        refine then_r ?_
        refine blk_r ?_
        refine then_r ?_
        refine then_r ?_
        refine blk_r ?_
        refine then_r ?_
        have hS21s2 : St w w21 [Res.row (Value.slice (some ⟨blk22, 0, none⟩) 0 0) 3 1 0 ([])] := (hS21.sub (List.Sublist.cons_cons _ (List.Sublist.cons _ List.Sublist.slnil)))
        have hR : dec2 zs off = ([], 0, false) := hdc.trans (decn_f hrd13f20)
        exact c_end (S := (fun x_ => St w x_ [Res.row (Value.slice (some ⟨blk22, 0, none⟩) 0 0) 3 1 0 ([]), Res.row (Value.slice A2 (List.length ac) c2) 3 1 (List.length ac) (ac.map (Value.int .i64))])) (rs := [.tmp 6, .tmp 7, .tmp 8]) rfl [] (v := Value.tuple #[Value.slice (some ⟨blk22, 0, none⟩) 0 0, Value.int .i64 0, Value.bool false]) (C := True) (by kernel_rfl) trivial hS21 (by rw [hR]; dsimp only; exact (hS21s2.eqv (by first | rfl | (rw [hcl]; done) | (simp; done) | (simp [*]; done))).rt ⟨(some ⟨blk22, 0, none⟩), 0, (by first | rfl | (rw [hcl]; done) | (simp; done) | (simp [*]; done)), rfl⟩)
    · skip
      have hb8p := of_decide_eq_false hb8
      obtain rfl : m = 0 := by omega
      refine c_false (b := (decide (((k : Nat) : Int) < (2 : Int)))) (by kernel_rfl) hb8 ?_
      refine wp_exit ?_
      refine then_x ?_
      refine then_x ?_
      refine blk_hit ?_
      refine then_n ?_
      refine wp_seq ?_
      refine c_reg ?_
      refine q_seg (S := (fun x_ => St w x_ [Res.row (Value.slice A2 (List.length ac) c2) 3 1 (List.length ac) (ac.map (Value.int .i64))])) [(8, Value.bool true), (7, Value.int .i64 pos), (6, Value.slice A2 (List.length ac) c2), (50, Value.int .i64 pos), (49, Value.slice A2 (List.length ac) c2)] [.no, .no, .no, .no, .no] True (by kernel_rfl) trivial hS6 ?_
      refine l_nil rfl ?_
      refine then_n ?_
      refine wp_ret ?_
      have hR : dec2 zs off = (ac, pos, true) := hdc
      exact c_end (S := (fun x_ => St w x_ [Res.row (Value.slice A2 (List.length ac) c2) 3 1 (List.length ac) (ac.map (Value.int .i64))])) (rs := [.tmp 6, .tmp 7, .tmp 8]) rfl [] (v := Value.tuple #[Value.slice A2 (List.length ac) c2, Value.int .i64 pos, Value.bool true]) (C := True) (by kernel_rfl) trivial hS6 (by rw [hR]; dsimp only; exact (hS6.eqv (by first | rfl | (rw [hcl]; done) | (simp; done) | (simp [*]; done))).rt ⟨A2, c2, (by first | rfl | (rw [hcl]; done) | (simp; done) | (simp [*]; done)), rfl⟩)
  · skip
    have hb3p := inR_neg hb3
    refine c_true (b := (!(inR off 0 ((n : Nat) : Int)))) (by kernel_rfl) (nb (v := false) hb3) ?_
    refine wp_seq ?_
    refine c_reg ?_
    refine l_op rfl rfl (fun K hK => op_buildSlice (d := some 25) rfl rfl (e := 3) (by kernel_rfl) 1 (by kernel_rfl) (by decide) (by decide) [] (by kernel_rfl) rfl hS2 (fun blk24 w23 hS23 => hK _ _ ?_))
    clear hK K
    refine q_seg (S := (fun x_ => St w x_ [Res.row (Value.slice (some ⟨blk24, 0, none⟩) 0 0) 3 1 0 ([])])) [(8, Value.bool false), (7, Value.int .i64 0), (6, Value.slice (some ⟨blk24, 0, none⟩) 0 0)] [.no, .no, .no] True (by kernel_rfl) trivial hS23 ?_
    refine l_nil rfl ?_
    refine then_n ?_
    refine wp_ret ?_
    refine then_r ?_
    have hR : dec2 zs off = ([], 0, false) := if_neg (by omega)
    exact c_end (S := (fun x_ => St w x_ [Res.row (Value.slice (some ⟨blk24, 0, none⟩) 0 0) 3 1 0 ([])])) (rs := [.tmp 6, .tmp 7, .tmp 8]) rfl [] (v := Value.tuple #[Value.slice (some ⟨blk24, 0, none⟩) 0 0, Value.int .i64 0, Value.bool false]) (C := True) (by kernel_rfl) trivial hS23 (by rw [hR]; dsimp only; exact (hS23.eqv (by first | rfl | (rw [hcl]; done) | (simp; done) | (simp [*]; done))).rt ⟨(some ⟨blk24, 0, none⟩), 0, (by first | rfl | (rw [hcl]; done) | (simp; done) | (simp [*]; done)), rfl⟩)
theorem DecodeInts_s_c (A : Option Addr) (n c : Nat) (zs : List Int) (off : Int) (w : World) (hn : n ≤ 1000000000) (hz : okz .u8 zs) (hr : Rd w w.heap.size A n (zs.map (Value.int .u8))) : Calls Try.prog 64 #[.slice A n c, .int .i64 off, .int .i64 2] w (Ret w (fun v new => ∃ (A_ : Option Addr) (c_ : Nat), v = .tuple #[.slice A_ (List.length (dec2 zs off).1) c_, .int .i64 (dec2 zs off).2.1, .bool (dec2 zs off).2.2] ∧ new = [Res.row (.slice A_ (List.length (dec2 zs off).1) c_) 3 1 (List.length (dec2 zs off).1) ((dec2 zs off).1.map (Value.int .i64))])) := by
  have hln := hr.len
  refine calls_FA Try.func64 rfl (n := 48) rfl (l := [(0, Value.slice A n c), (1, Value.int .i64 off), (2, Value.int .i64 2)]) rfl (by simp) (fun g => ?_)
  have hS := St.init w
  refine wp_seq ?_
  refine c_reg ?_
  refine q_seg (S := (fun x_ => St w x_ [])) [(8, Value.bool false), (7, Value.int .i64 0), (6, Value.slice none 0 0)] [.no, .no, .no] True (by kernel_rfl) trivial hS ?_
  refine l_nil rfl ?_
  refine then_n ?_
  refine wp_seq ?_
  refine c_reg ?_
  refine l_op rfl rfl (fun K hK => op_buildSlice (d := some 14) rfl rfl (e := 3) (by kernel_rfl) 1 (by kernel_rfl) (by decide) (by decide) [] (by kernel_rfl) rfl hS (fun blk2 w1 hS1 => hK _ _ ?_))
  clear hK K
  refine q_seg (S := (fun x_ => St w x_ [Res.row (Value.slice (some ⟨blk2, 0, none⟩) 0 0) 3 1 0 ([])])) [(9, Value.slice (some ⟨blk2, 0, none⟩) 0 0)] [.no] True (by kernel_rfl) trivial hS1 ?_
  refine l_nil rfl ?_
  refine then_n ?_
  refine wp_seq ?_
  refine wp_seq ?_
  refine c_reg ?_
  refine q_seg (S := (fun x_ => St w x_ [Res.row (Value.slice (some ⟨blk2, 0, none⟩) 0 0) 3 1 0 ([])])) [(15, Value.int .i64 2)] [.no] True (by kernel_rfl) trivial hS1 ?_
  refine l_op rfl rfl (fun K hK => op_callv (d := some 16) rfl rfl ⟨_, Try.func66, by kernel_rfl, by kernel_rfl⟩ (vs := [Value.int .i64 2, Value.int .i64 0, Value.int .i64 100]) (by kernel_rfl) (v := Value.bool (inR 2 0 100)) (l1In_c 2 0 100 _) hS1 (fun w3 hS3 => hK _ _ ?_))
  clear hK K
  refine q_seg (S := (fun x_ => St w x_ [Res.row (Value.slice (some ⟨blk2, 0, none⟩) 0 0) 3 1 0 ([])])) [(21, Value.int .i64 ((n : Nat) : Int)), (20, Value.slice A n c), (19, Value.int .i64 off), (18, Value.bool (!(inR 2 0 100))), (17, Value.bool (!(inR 2 0 100)))] [.no, .no, .no, .no, .no] (((!(inR 2 0 100)) = false) ∧ ((!(inR 2 0 100)) = false) ∧ ((!(inR 2 0 100)) = false)) (by kernel_rfl) ⟨(nb (v := true) (by decide)), (nb (v := true) (by decide)), (nb (v := true) (by decide))⟩ hS3 ?_
  refine l_opg rfl (b := (!(inR 2 0 100))) (want := false) (by kernel_rfl) (nb (v := true) (by decide)) (fun K hK => op_callv (d := some 22) rfl rfl ⟨_, Try.func66, by kernel_rfl, by kernel_rfl⟩ (vs := [Value.int .i64 off, Value.int .i64 0, Value.int .i64 ((n : Nat) : Int)]) (by kernel_rfl) (v := Value.bool (inR off 0 ((n : Nat) : Int))) (l1In_c off 0 ((n : Nat) : Int) _) hS3 (fun w4 hS4 => hK _ _ ?_))
  clear hK K
  refine q_seg (S := (fun x_ => St w x_ [Res.row (Value.slice (some ⟨blk2, 0, none⟩) 0 0) 3 1 0 ([])])) [(24, Value.bool (!(inR off 0 ((n : Nat) : Int)))), (23, Value.bool (!(inR off 0 ((n : Nat) : Int))))] [.no, .v (.bool false)] (((!(inR 2 0 100)) = false) ∧ ((!(inR 2 0 100)) = false)) (by kernel_rfl) ⟨(nb (v := true) (by decide)), (nb (v := true) (by decide))⟩ hS4 ?_
  refine l_nil rfl ?_
  refine then_n ?_
  rcases Bool.eq_false_or_eq_true (inR off 0 ((n : Nat) : Int)) with hb5 | hb5
  · skip
    obtain ⟨hb5p, hb5q⟩ := inR_iff.1 hb5
    refine c_false (b := (!(inR off 0 ((n : Nat) : Int)))) (by kernel_rfl) (nb (v := true) hb5) ?_
    refine wp_skip ?_
    refine then_n ?_
    refine wp_seq ?_
    refine wp_seq ?_
    refine c_reg ?_
    refine q_seg (S := (fun x_ => St w x_ [Res.row (Value.slice (some ⟨blk2, 0, none⟩) 0 0) 3 1 0 ([])])) [(10, Value.int .i64 0)] [.no] True (by kernel_rfl) trivial hS4 ?_
    refine l_nil rfl ?_
    refine then_n ?_
    refine wp_block ?_
    refine c_loop (X := Nat × Nat × Int × List Int × Option Addr × Nat) (fun (x_ : Nat × Nat × Int × List Int × Option Addr × Nat) => match x_ with | (k, m, pos, ac, A2, c2) => [(0, Value.slice A n c), (1, Value.int .i64 pos), (2, Value.int .i64 2), (9, Value.slice A2 (List.length ac) c2), (10, Value.int .i64 ((k : Nat) : Int))]) (fun (x_ : Nat × Nat × Int × List Int × Option Addr × Nat) (wr : World) => match x_ with | (k, m, pos, ac, A2, c2) => (m + k = 2) ∧ (dec2 zs off = decn zs m pos ac) ∧ (ac.length = k) ∧ St w wr [Res.row (Value.slice A2 (List.length ac) c2) 3 1 (List.length ac) (ac.map (Value.int .i64))]) (fun (x_ : Nat × Nat × Int × List Int × Option Addr × Nat) => match x_ with | (k, m, pos, ac, A2, c2) => m) ((0, 2, off, [], (some ⟨blk2, 0, none⟩), 0)) ?_ ?_ ?_
    · exact (agree_cons (by kernel_rfl) (agree_cons (by kernel_rfl) (agree_cons (by kernel_rfl) (agree_eq (v0 := Value.slice (some ⟨blk2, 0, none⟩) 0 0) (by kernel_rfl) rfl (agree_cons (by kernel_rfl) agree_nil)))))
    · exact ⟨rfl, (if_pos ⟨by omega, by omega⟩), rfl, (hS4.eqv (by simp))⟩
    rintro ⟨k, m, pos, ac, A2, c2⟩ g7 w6 ⟨hmk, hdc, hal, hS6⟩
    refine wp_seq ?_
    refine wp_seq ?_
    refine c_reg ?_
    refine q_seg (S := (fun x_ => St w x_ [Res.row (Value.slice A2 (List.length ac) c2) 3 1 (List.length ac) (ac.map (Value.int .i64))])) [(28, Value.bool (decide (((k : Nat) : Int) < (2 : Int)))), (27, Value.int .i64 2), (26, Value.int .i64 ((k : Nat) : Int))] [.no, .no, .no] True (by kernel_rfl) trivial hS6 ?_
    refine l_nil rfl ?_
    refine then_n ?_
    rcases Bool.eq_false_or_eq_true (decide (((k : Nat) : Int) < (2 : Int))) with hb8 | hb8
    · skip
      have hb8p := of_decide_eq_true hb8
      obtain ⟨m2, rfl⟩ : ∃ m2, m = m2 + 1 := ⟨m - 1, by omega⟩
      refine c_true (b := (decide (((k : Nat) : Int) < (2 : Int)))) (by kernel_rfl) hb8 ?_
      refine wp_skip ?_
      refine then_n ?_
      refine wp_seq ?_
      refine wp_block ?_
      refine wp_seq ?_
      refine c_reg ?_
      refine q_seg (S := (fun x_ => St w x_ [Res.row (Value.slice A2 (List.length ac) c2) 3 1 (List.length ac) (ac.map (Value.int .i64))])) [(33, Value.int .i64 pos), (32, Value.slice A n c)] [.no, .no] True (by kernel_rfl) trivial hS6 ?_
      obtain ⟨rn10, rp11, ro12, hrd13⟩ : ∃ (rn10 : Int) (rp11 : Int) (ro12 : Bool), rv zs pos = (rn10, rp11, ro12) := ⟨_, _, _, rfl⟩
      refine l_op rfl rfl (fun K hK => op_callv (d := some 34) rfl rfl ⟨_, Try.func95, by kernel_rfl, by kernel_rfl⟩ (vs := [Value.slice A n c, Value.int .i64 pos]) (by kernel_rfl) (v := Value.tuple #[Value.int .i64 rn10, Value.int .i64 rp11, Value.bool ro12]) ((by have h_ := ReadUvarint_s_c A n c zs pos w6 (by omega) hz (hS6.rdlow hr); rw [hrd13] at h_; exact h_)) hS6 (fun w9 hS9 => hK _ _ ?_))
      clear hK K
      refine q_seg (S := (fun x_ => St w x_ [Res.row (Value.slice A2 (List.length ac) c2) 3 1 (List.length ac) (ac.map (Value.int .i64))])) [(13, Value.bool ro12), (12, Value.int .i64 rp11), (11, Value.int .i64 rn10), (37, Value.bool ro12), (36, Value.int .i64 rp11), (35, Value.int .i64 rn10), (31, Value.tuple #[Value.int .i64 rn10, Value.int .i64 rp11, Value.bool ro12])] [.no, .no, .no, .no, .no, .no, .no] True (by kernel_rfl) trivial hS9 ?_
      refine l_nil rfl ?_
      refine then_n ?_
      refine wp_seq ?_
      refine wp_seq ?_
      refine c_reg ?_
      refine q_seg (S := (fun x_ => St w x_ [Res.row (Value.slice A2 (List.length ac) c2) 3 1 (List.length ac) (ac.map (Value.int .i64))])) [(39, Value.bool (!(ro12))), (38, Value.bool ro12)] [.no, .no] True (by kernel_rfl) trivial hS9 ?_
      refine l_nil rfl ?_
      refine then_n ?_
      rcases Bool.eq_false_or_eq_true (ro12) with hb14 | hb14
      · skip
        have hrd13t15 := hrd13
        rw [hb14] at hrd13t15
        refine c_false (b := (!(ro12))) (by kernel_rfl) (nb (v := true) hb14) ?_
        refine wp_skip ?_
        refine then_n ?_
        refine wp_seq ?_
        refine c_reg ?_
        refine q_seg (S := (fun x_ => St w x_ [Res.row (Value.slice A2 (List.length ac) c2) 3 1 (List.length ac) (ac.map (Value.int .i64))])) [(42, Value.int .i64 rn10), (41, Value.slice A2 (List.length ac) c2)] [.no, .no] True (by kernel_rfl) trivial hS9 ?_
        refine l_op rfl rfl (fun K hK => op_buildSlice (d := some 43) rfl rfl (e := 3) (by kernel_rfl) 1 (by kernel_rfl) (by decide) (by decide) [Value.int .i64 rn10] (by kernel_rfl) rfl hS9 (fun blk17 w16 hS16 => hK _ _ ?_))
        clear hK K
        refine l_op rfl rfl (fun K hK => op_append (d := some 44) rfl rfl elInt hS16 (i := 1) rfl rfl rfl (news := [Value.int .i64 rn10]) (hS16.rd (List.mem_of_getElem? (i := 0) rfl)) (all_one (by rfl)) (by omega) (by omega) (fun v19 w18 hS18 => hK _ _ ?_))
        clear hK K
        obtain ⟨hlv19, Av19, cv19, hvv19, hnv19, hmv19⟩ := hS18.row_slice (List.mem_of_getElem? (i := 1) rfl)
        subst hvv19
        refine q_seg (S := (fun x_ => St w x_ [Res.row (Value.slice (some ⟨blk17, 0, none⟩) 1 1) 3 1 1 ([Value.int .i64 rn10]), Res.row (Value.slice Av19 ((List.length ac) + 1) cv19) 3 1 ((List.length ac) + 1) ((ac.map (Value.int .i64)) ++ [Value.int .i64 rn10])])) [(9, Value.slice Av19 ((List.length ac) + 1) cv19)] [.no] True (by kernel_rfl) trivial hS18 ?_
        refine l_nil rfl ?_
        refine then_n ?_
        refine c_reg ?_
        refine q_seg (S := (fun x_ => St w x_ [Res.row (Value.slice (some ⟨blk17, 0, none⟩) 1 1) 3 1 1 ([Value.int .i64 rn10]), Res.row (Value.slice Av19 ((List.length ac) + 1) cv19) 3 1 ((List.length ac) + 1) ((ac.map (Value.int .i64)) ++ [Value.int .i64 rn10])])) [(1, Value.int .i64 rp11), (45, Value.int .i64 rp11)] [.no, .no] True (by kernel_rfl) trivial hS18 ?_
        refine l_nil rfl ?_
        refine blk_n ?_
        refine then_n ?_
        refine c_reg ?_
        refine q_seg (S := (fun x_ => St w x_ [Res.row (Value.slice (some ⟨blk17, 0, none⟩) 1 1) 3 1 1 ([Value.int .i64 rn10]), Res.row (Value.slice Av19 ((List.length ac) + 1) cv19) 3 1 ((List.length ac) + 1) ((ac.map (Value.int .i64)) ++ [Value.int .i64 rn10])])) [(10, Value.int .i64 (((k : Nat) : Int) + (1 : Int))), (30, Value.int .i64 (((k : Nat) : Int) + (1 : Int))), (29, Value.int .i64 ((k : Nat) : Int))] [.no, .no, .no] ((InK .i64 (((k : Nat) : Int) + (1 : Int)))) (by kernel_rfl) (in64 (by omega) (by omega)) hS18 ?_
        refine l_nil rfl ?_
        refine then_n ?_
        have hS18s1 : St w w18 [Res.row (Value.slice Av19 ((List.length ac) + 1) cv19) 3 1 ((List.length ac) + 1) ((ac.map (Value.int .i64)) ++ [Value.int .i64 rn10])] := (hS18.sub (List.Sublist.cons _ (List.Sublist.cons_cons _ List.Sublist.slnil)))
        refine round_end ((k + 1, m2, rp11, ac ++ [rn10], Av19, cv19)) ?_ ?_ ?_
        · exact (agree_cons (by kernel_rfl) (agree_cons (by kernel_rfl) (agree_cons (by kernel_rfl) (agree_eq (v0 := Value.slice Av19 ((List.length ac) + 1) cv19) (by kernel_rfl) (congrArg (fun m => Value.slice Av19 m cv19) (by simp)) (agree_cons (by kernel_rfl) agree_nil)))))
        · exact ⟨(by omega), (hdc.trans (decn_t hrd13t15)), (by simp; omega), (hS18s1.eqv (by simp))⟩
        · exact (by first | omega | (dsimp only; omega))
      · skip
        have hrd13f20 := hrd13
        rw [hb14] at hrd13f20
        refine c_true (b := (!(ro12))) (by kernel_rfl) (nb (v := false) hb14) ?_
        refine wp_seq ?_
        refine c_reg ?_
        refine l_op rfl rfl (fun K hK => op_buildSlice (d := some 40) rfl rfl (e := 3) (by kernel_rfl) 1 (by kernel_rfl) (by decide) (by decide) [] (by kernel_rfl) rfl hS9 (fun blk22 w21 hS21 => hK _ _ ?_))
        clear hK K
        refine q_seg (S := (fun x_ => St w x_ [Res.row (Value.slice (some ⟨blk22, 0, none⟩) 0 0) 3 1 0 ([]), Res.row (Value.slice A2 (List.length ac) c2) 3 1 (List.length ac) (ac.map (Value.int .i64))])) [(8, Value.bool false), (7, Value.int .i64 0), (6, Value.slice (some ⟨blk22, 0, none⟩) 0 0)] [.no, .no, .no] True (by kernel_rfl) trivial hS21 ?_
        refine l_nil rfl ?_
        refine then_n ?_
        refine wp_ret ?_
        refine then_r ?_
        refine blk_r ?_
        refine then_r ?_
        refine then_r ?_
        refine blk_r ?_
        refine then_r ?_
        have hS21s2 : St w w21 [Res.row (Value.slice (some ⟨blk22, 0, none⟩) 0 0) 3 1 0 ([])] := (hS21.sub (List.Sublist.cons_cons _ (List.Sublist.cons _ List.Sublist.slnil)))
        have hR : dec2 zs off = ([], 0, false) := hdc.trans (decn_f hrd13f20)
        exact c_end (S := (fun x_ => St w x_ [Res.row (Value.slice (some ⟨blk22, 0, none⟩) 0 0) 3 1 0 ([]), Res.row (Value.slice A2 (List.length ac) c2) 3 1 (List.length ac) (ac.map (Value.int .i64))])) (rs := [.tmp 6, .tmp 7, .tmp 8]) rfl [] (v := Value.tuple #[Value.slice (some ⟨blk22, 0, none⟩) 0 0, Value.int .i64 0, Value.bool false]) (C := True) (by kernel_rfl) trivial hS21 (by rw [hR]; dsimp only; exact (hS21s2.eqv (by first | rfl | (rw [hcl]; done) | (simp; done) | (simp [*]; done))).rt ⟨(some ⟨blk22, 0, none⟩), 0, (by first | rfl | (rw [hcl]; done) | (simp; done) | (simp [*]; done)), rfl⟩)
    · skip
      have hb8p := of_decide_eq_false hb8
      obtain rfl : m = 0 := by omega
      refine c_false (b := (decide (((k : Nat) : Int) < (2 : Int)))) (by kernel_rfl) hb8 ?_
      refine wp_exit ?_
      refine then_x ?_
      refine then_x ?_
      refine blk_hit ?_
      refine then_n ?_
      refine wp_seq ?_
      refine c_reg ?_
      refine q_seg (S := (fun x_ => St w x_ [Res.row (Value.slice A2 (List.length ac) c2) 3 1 (List.length ac) (ac.map (Value.int .i64))])) [(8, Value.bool true), (7, Value.int .i64 pos), (6, Value.slice A2 (List.length ac) c2), (47, Value.int .i64 pos), (46, Value.slice A2 (List.length ac) c2)] [.no, .no, .no, .no, .no] True (by kernel_rfl) trivial hS6 ?_
      refine l_nil rfl ?_
      refine then_n ?_
      refine wp_ret ?_
      have hR : dec2 zs off = (ac, pos, true) := hdc
      exact c_end (S := (fun x_ => St w x_ [Res.row (Value.slice A2 (List.length ac) c2) 3 1 (List.length ac) (ac.map (Value.int .i64))])) (rs := [.tmp 6, .tmp 7, .tmp 8]) rfl [] (v := Value.tuple #[Value.slice A2 (List.length ac) c2, Value.int .i64 pos, Value.bool true]) (C := True) (by kernel_rfl) trivial hS6 (by rw [hR]; dsimp only; exact (hS6.eqv (by first | rfl | (rw [hcl]; done) | (simp; done) | (simp [*]; done))).rt ⟨A2, c2, (by first | rfl | (rw [hcl]; done) | (simp; done) | (simp [*]; done)), rfl⟩)
  · skip
    have hb5p := inR_neg hb5
    refine c_true (b := (!(inR off 0 ((n : Nat) : Int)))) (by kernel_rfl) (nb (v := false) hb5) ?_
    refine wp_seq ?_
    refine c_reg ?_
    refine q_seg (S := (fun x_ => St w x_ [Res.row (Value.slice (some ⟨blk2, 0, none⟩) 0 0) 3 1 0 ([])])) [(8, Value.bool false), (7, Value.int .i64 0), (6, Value.slice (some ⟨blk2, 0, none⟩) 0 0), (25, Value.slice (some ⟨blk2, 0, none⟩) 0 0)] [.no, .no, .no, .no] True (by kernel_rfl) trivial hS4 ?_
    refine l_nil rfl ?_
    refine then_n ?_
    refine wp_ret ?_
    refine then_r ?_
    have hR : dec2 zs off = ([], 0, false) := if_neg (by omega)
    exact c_end (S := (fun x_ => St w x_ [Res.row (Value.slice (some ⟨blk2, 0, none⟩) 0 0) 3 1 0 ([])])) (rs := [.tmp 6, .tmp 7, .tmp 8]) rfl [] (v := Value.tuple #[Value.slice (some ⟨blk2, 0, none⟩) 0 0, Value.int .i64 0, Value.bool false]) (C := True) (by kernel_rfl) trivial hS4 (by rw [hR]; dsimp only; exact (hS4.eqv (by first | rfl | (rw [hcl]; done) | (simp; done) | (simp [*]; done))).rt ⟨(some ⟨blk2, 0, none⟩), 0, (by first | rfl | (rw [hcl]; done) | (simp; done) | (simp [*]; done)), rfl⟩)
theorem ReadBytes_i_c (A : Option Addr) (n c : Nat) (zs : List Int) (off mx : Int) (w : World) (hn : n ≤ 1000000000) (hz : okz .u8 zs) (hr : Rd w w.heap.size A n (zs.map (Value.int .u8))) (hnc : n ≤ c) : Calls Try.prog 92 #[.slice A n c, .int .i64 off, .int .i64 mx] w (Ret w (fun v new => ∃ (A_ : Option Addr) (c_ : Nat), v = .tuple #[.slice A_ (List.length (rby zs off mx).1) c_, .int .i64 (rby zs off mx).2.1, .bool (rby zs off mx).2.2] ∧ new = [Res.row (.slice A_ (List.length (rby zs off mx).1) c_) 5 1 (List.length (rby zs off mx).1) ((rby zs off mx).1.map (Value.int .u8))])) := by
  have hln := hr.len
  refine calls_FA Try.func92 rfl (n := 45) rfl (l := [(0, Value.slice A n c), (1, Value.int .i64 off), (2, Value.int .i64 mx)]) rfl (by simp) (fun g => ?_)
  have hS := St.init w
  refine wp_seq ?_
  refine c_reg ?_
  refine q_seg (S := (fun x_ => St w x_ [])) [(8, Value.bool false), (7, Value.int .i64 0), (6, Value.slice none 0 0)] [.no, .no, .no] True (by kernel_rfl) trivial hS ?_
  refine l_nil rfl ?_
  refine then_n ?_
  refine wp_seq ?_
  refine c_reg ?_
  refine q_seg (S := (fun x_ => St w x_ [])) [(14, Value.int .i64 off), (13, Value.slice A n c)] [.no, .no] True (by kernel_rfl) trivial hS ?_
  obtain ⟨rn2, rp3, ro4, hrd5⟩ : ∃ (rn2 : Int) (rp3 : Int) (ro4 : Bool), rv zs off = (rn2, rp3, ro4) := ⟨_, _, _, rfl⟩
  refine l_op rfl rfl (fun K hK => op_callv (d := some 15) rfl rfl ⟨_, Try.func91, by kernel_rfl, by kernel_rfl⟩ (vs := [Value.slice A n c, Value.int .i64 off]) (by kernel_rfl) (v := Value.tuple #[Value.int .i64 rn2, Value.int .i64 rp3, Value.bool ro4]) ((by have h_ := ReadUvarint_i_c A n c zs off w (by omega) hz (hS.rdlow hr); rw [hrd5] at h_; exact h_)) hS (fun w1 hS1 => hK _ _ ?_))
  clear hK K
  refine q_seg (S := (fun x_ => St w x_ [])) [(11, Value.bool ro4), (10, Value.int .i64 rp3), (9, Value.int .i64 rn2), (18, Value.bool ro4), (17, Value.int .i64 rp3), (16, Value.int .i64 rn2), (12, Value.tuple #[Value.int .i64 rn2, Value.int .i64 rp3, Value.bool ro4])] [.no, .no, .no, .no, .no, .no, .no] True (by kernel_rfl) trivial hS1 ?_
  refine l_nil rfl ?_
  refine then_n ?_
  refine wp_seq ?_
  refine wp_seq ?_
  refine c_reg ?_
  refine q_seg (S := (fun x_ => St w x_ [])) [(21, Value.bool (!(ro4))), (20, Value.bool (!(ro4))), (19, Value.bool ro4)] [.no, .no, .no] True (by kernel_rfl) trivial hS1 ?_
  rcases Bool.eq_false_or_eq_true (ro4) with hb6 | hb6
  · skip
    have hrd5t7 := hrd5
    rw [hb6] at hrd5t7
    obtain ⟨hb1_, hb2_, hb3_, hb4_, hb5_, hb6_⟩ := rv_bd hz hrd5t7
    refine q_seg (S := (fun x_ => St w x_ [])) [(26, Value.bool (decide (mx < rn2))), (25, Value.bool (decide (mx < rn2))), (24, Value.bool (decide (mx < rn2))), (23, Value.int .i64 mx), (22, Value.int .i64 rn2)] [.no, .no, .no, .v (.bool false), .no] (((!(ro4)) = false) ∧ ((!(ro4)) = false) ∧ ((!(ro4)) = false) ∧ ((!(ro4)) = false)) (by kernel_rfl) ⟨(nb (v := true) hb6), (nb (v := true) hb6), (nb (v := true) hb6), (nb (v := true) hb6)⟩ hS1 ?_
    rcases Bool.eq_false_or_eq_true (decide (mx < rn2)) with hb8 | hb8
    · skip
      have hb8p := of_decide_eq_true hb8
      refine q_seg (S := (fun x_ => St w x_ [])) [(33, Value.bool true), (32, undef), (31, undef), (30, undef), (29, undef), (28, undef), (27, undef)] [.skip, .skip, .skip, .skip, .skip, .skip, .v (.bool true)] (((decide (mx < rn2)) = !false) ∧ ((decide (mx < rn2)) = !false) ∧ ((decide (mx < rn2)) = !false) ∧ ((decide (mx < rn2)) = !false) ∧ ((decide (mx < rn2)) = !false) ∧ ((decide (mx < rn2)) = !false) ∧ ((decide (mx < rn2)) = true)) (by kernel_rfl) ⟨hb8, hb8, hb8, hb8, hb8, hb8, hb8⟩ hS1 ?_
      refine l_nil rfl ?_
      refine then_n ?_
      refine c_true (b := true) (by kernel_rfl) rfl ?_
      refine wp_seq ?_
      refine c_reg ?_
      refine l_op rfl rfl (fun K hK => op_buildSlice (d := some 34) rfl rfl (e := 5) (by kernel_rfl) 1 (by kernel_rfl) (by decide) (by decide) [] (by kernel_rfl) rfl hS1 (fun blk10 w9 hS9 => hK _ _ ?_))
      clear hK K
      refine q_seg (S := (fun x_ => St w x_ [Res.row (Value.slice (some ⟨blk10, 0, none⟩) 0 0) 5 1 0 ([])])) [(8, Value.bool false), (7, Value.int .i64 0), (6, Value.slice (some ⟨blk10, 0, none⟩) 0 0)] [.no, .no, .no] True (by kernel_rfl) trivial hS9 ?_
      refine l_nil rfl ?_
      refine then_n ?_
      refine wp_ret ?_
      refine then_r ?_
      have hR : rby zs off mx = ([], 0, false) := rby_b hrd5t7 (by omega)
      exact c_end (S := (fun x_ => St w x_ [Res.row (Value.slice (some ⟨blk10, 0, none⟩) 0 0) 5 1 0 ([])])) (rs := [.tmp 6, .tmp 7, .tmp 8]) rfl [] (v := Value.tuple #[Value.slice (some ⟨blk10, 0, none⟩) 0 0, Value.int .i64 0, Value.bool false]) (C := True) (by kernel_rfl) trivial hS9 (by rw [hR]; dsimp only; exact (hS9.eqv (by first | rfl | (rw [hcl]; done) | (simp; done) | (simp [*]; done))).rt ⟨(some ⟨blk10, 0, none⟩), 0, (by first | rfl | (rw [hcl]; done) | (simp; done) | (simp [*]; done)), rfl⟩)
    · skip
      have hb8p := of_decide_eq_false hb8
      refine q_seg (S := (fun x_ => St w x_ [])) [(33, Value.bool (decide ((((n : Nat) : Int) - rp3) < rn2))), (32, Value.bool (decide ((((n : Nat) : Int) - rp3) < rn2))), (31, Value.int .i64 (((n : Nat) : Int) - rp3)), (30, Value.int .i64 rp3), (29, Value.int .i64 ((n : Nat) : Int)), (28, Value.slice A n c), (27, Value.int .i64 rn2)] [.no, .no, .no, .no, .no, .no, .v (.bool false)] (((decide (mx < rn2)) = false) ∧ ((decide (mx < rn2)) = false) ∧ ((decide (mx < rn2)) = false) ∧ ((decide (mx < rn2)) = false) ∧ ((decide (mx < rn2)) = false) ∧ (InK .i64 (((n : Nat) : Int) - rp3)) ∧ ((decide (mx < rn2)) = false) ∧ ((decide (mx < rn2)) = false)) (by kernel_rfl) ⟨hb8, hb8, hb8, hb8, hb8, (in64 (by omega) (by omega)), hb8, hb8⟩ hS1 ?_
      refine l_nil rfl ?_
      refine then_n ?_
      rcases Bool.eq_false_or_eq_true (decide ((((n : Nat) : Int) - rp3) < rn2)) with hb11 | hb11
      · skip
        have hb11p := of_decide_eq_true hb11
        refine c_true (b := (decide ((((n : Nat) : Int) - rp3) < rn2))) (by kernel_rfl) hb11 ?_
        refine wp_seq ?_
        refine c_reg ?_
        refine l_op rfl rfl (fun K hK => op_buildSlice (d := some 34) rfl rfl (e := 5) (by kernel_rfl) 1 (by kernel_rfl) (by decide) (by decide) [] (by kernel_rfl) rfl hS1 (fun blk13 w12 hS12 => hK _ _ ?_))
        clear hK K
        refine q_seg (S := (fun x_ => St w x_ [Res.row (Value.slice (some ⟨blk13, 0, none⟩) 0 0) 5 1 0 ([])])) [(8, Value.bool false), (7, Value.int .i64 0), (6, Value.slice (some ⟨blk13, 0, none⟩) 0 0)] [.no, .no, .no] True (by kernel_rfl) trivial hS12 ?_
        refine l_nil rfl ?_
        refine then_n ?_
        refine wp_ret ?_
        refine then_r ?_
        have hR : rby zs off mx = ([], 0, false) := rby_b hrd5t7 (by omega)
        exact c_end (S := (fun x_ => St w x_ [Res.row (Value.slice (some ⟨blk13, 0, none⟩) 0 0) 5 1 0 ([])])) (rs := [.tmp 6, .tmp 7, .tmp 8]) rfl [] (v := Value.tuple #[Value.slice (some ⟨blk13, 0, none⟩) 0 0, Value.int .i64 0, Value.bool false]) (C := True) (by kernel_rfl) trivial hS12 (by rw [hR]; dsimp only; exact (hS12.eqv (by first | rfl | (rw [hcl]; done) | (simp; done) | (simp [*]; done))).rt ⟨(some ⟨blk13, 0, none⟩), 0, (by first | rfl | (rw [hcl]; done) | (simp; done) | (simp [*]; done)), rfl⟩)
      · skip
        have hb11p := of_decide_eq_false hb11
        refine c_false (b := (decide ((((n : Nat) : Int) - rp3) < rn2))) (by kernel_rfl) hb11 ?_
        refine wp_skip ?_
        refine then_n ?_
        refine wp_seq ?_
        refine c_reg ?_
        refine q_seg (S := (fun x_ => St w x_ [])) [(40, Value.slice (cutA A c (Int.toNat rp3) 1) ((Int.toNat (rp3 + rn2)) - (Int.toNat rp3)) (c - (Int.toNat rp3))), (39, Value.int .i64 (rp3 + rn2)), (38, Value.int .i64 rn2), (37, Value.int .i64 rp3), (36, Value.int .i64 rp3), (35, Value.slice A n c)] [.no, .no, .no, .no, .no, .no] ((InK .i64 (rp3 + rn2)) ∧ ((0 : Int) ≤ rp3) ∧ (rp3 ≤ (rp3 + rn2)) ∧ ((rp3 + rn2) ≤ ((c : Nat) : Int)) ∧ (n ≤ c)) (by kernel_rfl) ⟨(in64 (by omega) (by omega)), (by omega), (by omega), (by omega), (by omega)⟩ hS1 ?_
        refine l_op rfl rfl (fun K hK => op_call (d := some 41) rfl rfl ⟨_, Try.func108, by kernel_rfl, by kernel_rfl⟩ (vs := [Value.slice (cutA A c (Int.toNat rp3) 1) ((Int.toNat (rp3 + rn2)) - (Int.toNat rp3)) (c - (Int.toNat rp3))]) (by kernel_rfl) (copyBytes_c (cutA A c (Int.toNat rp3) 1) ((Int.toNat (rp3 + rn2)) - (Int.toNat rp3)) (c - (Int.toNat rp3)) ((zs.take (Int.toNat (rp3 + rn2))).drop (Int.toNat rp3)) w1 (by omega) (hS1.rdlow (rd_cut8 hr (by omega) (by omega) hnc))) hS1 (fun v15 new16 w14 Rw14 hS14 => hK _ _ ?_))
        clear hK K
        obtain ⟨blk17, rfl, rfl⟩ := Rw14
        refine q_seg (S := (fun x_ => St w x_ [Res.row (Value.slice (some ⟨blk17, 0, none⟩) ((Int.toNat (rp3 + rn2)) - (Int.toNat rp3)) ((Int.toNat (rp3 + rn2)) - (Int.toNat rp3))) 5 1 ((Int.toNat (rp3 + rn2)) - (Int.toNat rp3)) (((zs.take (Int.toNat (rp3 + rn2))).drop (Int.toNat rp3)).map (Value.int .u8))])) [(8, Value.bool true), (7, Value.int .i64 (rp3 + rn2)), (6, Value.slice (some ⟨blk17, 0, none⟩) ((Int.toNat (rp3 + rn2)) - (Int.toNat rp3)) ((Int.toNat (rp3 + rn2)) - (Int.toNat rp3))), (44, Value.int .i64 (rp3 + rn2)), (43, Value.int .i64 rn2), (42, Value.int .i64 rp3)] [.no, .no, .no, .no, .no, .no] ((InK .i64 (rp3 + rn2))) (by kernel_rfl) (in64 (by omega) (by omega)) hS14 ?_
        refine l_nil rfl ?_
        refine then_n ?_
        refine wp_ret ?_
        have hcl : List.length ((zs.take (Int.toNat (rp3 + rn2))).drop (Int.toNat rp3)) = Int.toNat (rp3 + rn2) - Int.toNat rp3 := by rw [List.length_drop, List.length_take]; omega
        have hR : rby zs off mx = (((zs.take (Int.toNat (rp3 + rn2))).drop (Int.toNat rp3)), rp3 + rn2, true) := rby_t hrd5t7 (by omega)
        exact c_end (S := (fun x_ => St w x_ [Res.row (Value.slice (some ⟨blk17, 0, none⟩) ((Int.toNat (rp3 + rn2)) - (Int.toNat rp3)) ((Int.toNat (rp3 + rn2)) - (Int.toNat rp3))) 5 1 ((Int.toNat (rp3 + rn2)) - (Int.toNat rp3)) (((zs.take (Int.toNat (rp3 + rn2))).drop (Int.toNat rp3)).map (Value.int .u8))])) (rs := [.tmp 6, .tmp 7, .tmp 8]) rfl [] (v := Value.tuple #[Value.slice (some ⟨blk17, 0, none⟩) ((Int.toNat (rp3 + rn2)) - (Int.toNat rp3)) ((Int.toNat (rp3 + rn2)) - (Int.toNat rp3)), Value.int .i64 (rp3 + rn2), Value.bool true]) (C := True) (by kernel_rfl) trivial hS14 (by rw [hR]; dsimp only; exact (hS14.eqv (by first | rfl | (rw [hcl]; done) | (simp; done) | (simp [*]; done))).rt ⟨(some ⟨blk17, 0, none⟩), ((Int.toNat (rp3 + rn2)) - (Int.toNat rp3)), (by first | rfl | (rw [hcl]; done) | (simp; done) | (simp [*]; done)), rfl⟩)
  · skip
    have hrd5f18 := hrd5
    rw [hb6] at hrd5f18
    refine q_seg (S := (fun x_ => St w x_ [])) [(33, Value.bool true), (32, undef), (31, undef), (30, undef), (29, undef), (28, undef), (27, undef), (26, Value.bool true), (25, Value.bool true), (24, undef), (23, undef), (22, undef)] [.skip, .skip, .skip, .v (.bool true), .no, .skip, .skip, .skip, .skip, .skip, .skip, .v (.bool true)] (((!(ro4)) = !false) ∧ ((!(ro4)) = !false) ∧ ((!(ro4)) = !false) ∧ ((!(ro4)) = true) ∧ (true = !false) ∧ (true = !false) ∧ (true = !false) ∧ (true = !false) ∧ (true = !false) ∧ (true = !false) ∧ (true = true)) (by kernel_rfl) ⟨(nb (v := false) hb6), (nb (v := false) hb6), (nb (v := false) hb6), (nb (v := false) hb6), rfl, rfl, rfl, rfl, rfl, rfl, rfl⟩ hS1 ?_
    refine l_nil rfl ?_
    refine then_n ?_
    refine c_true (b := true) (by kernel_rfl) rfl ?_
    refine wp_seq ?_
    refine c_reg ?_
    refine l_op rfl rfl (fun K hK => op_buildSlice (d := some 34) rfl rfl (e := 5) (by kernel_rfl) 1 (by kernel_rfl) (by decide) (by decide) [] (by kernel_rfl) rfl hS1 (fun blk20 w19 hS19 => hK _ _ ?_))
    clear hK K
    refine q_seg (S := (fun x_ => St w x_ [Res.row (Value.slice (some ⟨blk20, 0, none⟩) 0 0) 5 1 0 ([])])) [(8, Value.bool false), (7, Value.int .i64 0), (6, Value.slice (some ⟨blk20, 0, none⟩) 0 0)] [.no, .no, .no] True (by kernel_rfl) trivial hS19 ?_
    refine l_nil rfl ?_
    refine then_n ?_
    refine wp_ret ?_
    refine then_r ?_
    have hR : rby zs off mx = ([], 0, false) := rby_f hrd5f18
    exact c_end (S := (fun x_ => St w x_ [Res.row (Value.slice (some ⟨blk20, 0, none⟩) 0 0) 5 1 0 ([])])) (rs := [.tmp 6, .tmp 7, .tmp 8]) rfl [] (v := Value.tuple #[Value.slice (some ⟨blk20, 0, none⟩) 0 0, Value.int .i64 0, Value.bool false]) (C := True) (by kernel_rfl) trivial hS19 (by rw [hR]; dsimp only; exact (hS19.eqv (by first | rfl | (rw [hcl]; done) | (simp; done) | (simp [*]; done))).rt ⟨(some ⟨blk20, 0, none⟩), 0, (by first | rfl | (rw [hcl]; done) | (simp; done) | (simp [*]; done)), rfl⟩)
theorem ReadBytes_s_c (A : Option Addr) (n c : Nat) (zs : List Int) (off mx : Int) (w : World) (hn : n ≤ 1000000000) (hz : okz .u8 zs) (hr : Rd w w.heap.size A n (zs.map (Value.int .u8))) (hnc : n ≤ c) : Calls Try.prog 96 #[.slice A n c, .int .i64 off, .int .i64 mx] w (Ret w (fun v new => ∃ (A_ : Option Addr) (c_ : Nat), v = .tuple #[.slice A_ (List.length (rby zs off mx).1) c_, .int .i64 (rby zs off mx).2.1, .bool (rby zs off mx).2.2] ∧ new = [Res.row (.slice A_ (List.length (rby zs off mx).1) c_) 5 1 (List.length (rby zs off mx).1) ((rby zs off mx).1.map (Value.int .u8))])) := by
  have hln := hr.len
  refine calls_FA Try.func96 rfl (n := 46) rfl (l := [(0, Value.slice A n c), (1, Value.int .i64 off), (2, Value.int .i64 mx)]) rfl (by simp) (fun g => ?_)
  have hS := St.init w
  refine wp_seq ?_
  refine c_reg ?_
  refine q_seg (S := (fun x_ => St w x_ [])) [(8, Value.bool false), (7, Value.int .i64 0), (6, Value.slice none 0 0)] [.no, .no, .no] True (by kernel_rfl) trivial hS ?_
  refine l_nil rfl ?_
  refine then_n ?_
  refine wp_seq ?_
  refine c_reg ?_
  refine q_seg (S := (fun x_ => St w x_ [])) [(14, Value.int .i64 off), (13, Value.slice A n c)] [.no, .no] True (by kernel_rfl) trivial hS ?_
  obtain ⟨rn2, rp3, ro4, hrd5⟩ : ∃ (rn2 : Int) (rp3 : Int) (ro4 : Bool), rv zs off = (rn2, rp3, ro4) := ⟨_, _, _, rfl⟩
  refine l_op rfl rfl (fun K hK => op_callv (d := some 15) rfl rfl ⟨_, Try.func95, by kernel_rfl, by kernel_rfl⟩ (vs := [Value.slice A n c, Value.int .i64 off]) (by kernel_rfl) (v := Value.tuple #[Value.int .i64 rn2, Value.int .i64 rp3, Value.bool ro4]) ((by have h_ := ReadUvarint_s_c A n c zs off w (by omega) hz (hS.rdlow hr); rw [hrd5] at h_; exact h_)) hS (fun w1 hS1 => hK _ _ ?_))
  clear hK K
  refine q_seg (S := (fun x_ => St w x_ [])) [(11, Value.bool ro4), (10, Value.int .i64 rp3), (9, Value.int .i64 rn2), (18, Value.bool ro4), (17, Value.int .i64 rp3), (16, Value.int .i64 rn2), (12, Value.tuple #[Value.int .i64 rn2, Value.int .i64 rp3, Value.bool ro4])] [.no, .no, .no, .no, .no, .no, .no] True (by kernel_rfl) trivial hS1 ?_
  refine l_nil rfl ?_
  refine then_n ?_
  refine wp_seq ?_
  refine wp_seq ?_
  refine c_reg ?_
  refine q_seg (S := (fun x_ => St w x_ [])) [(21, Value.bool (!(ro4))), (20, Value.bool (!(ro4))), (19, Value.bool ro4)] [.no, .no, .no] True (by kernel_rfl) trivial hS1 ?_
  rcases Bool.eq_false_or_eq_true (ro4) with hb6 | hb6
  · skip
    have hrd5t7 := hrd5
    rw [hb6] at hrd5t7
    obtain ⟨hb1_, hb2_, hb3_, hb4_, hb5_, hb6_⟩ := rv_bd hz hrd5t7
    refine q_seg (S := (fun x_ => St w x_ [])) [(26, Value.bool (decide (mx < rn2))), (25, Value.bool (decide (mx < rn2))), (24, Value.bool (decide (mx < rn2))), (23, Value.int .i64 mx), (22, Value.int .i64 rn2)] [.no, .no, .no, .v (.bool false), .no] (((!(ro4)) = false) ∧ ((!(ro4)) = false) ∧ ((!(ro4)) = false) ∧ ((!(ro4)) = false)) (by kernel_rfl) ⟨(nb (v := true) hb6), (nb (v := true) hb6), (nb (v := true) hb6), (nb (v := true) hb6)⟩ hS1 ?_
    rcases Bool.eq_false_or_eq_true (decide (mx < rn2)) with hb8 | hb8
    · skip
      have hb8p := of_decide_eq_true hb8
      refine q_seg (S := (fun x_ => St w x_ [])) [(33, Value.bool true), (32, undef), (31, undef), (30, undef), (29, undef), (28, undef), (27, undef)] [.skip, .skip, .skip, .skip, .skip, .skip, .v (.bool true)] (((decide (mx < rn2)) = !false) ∧ ((decide (mx < rn2)) = !false) ∧ ((decide (mx < rn2)) = !false) ∧ ((decide (mx < rn2)) = !false) ∧ ((decide (mx < rn2)) = !false) ∧ ((decide (mx < rn2)) = !false) ∧ ((decide (mx < rn2)) = true)) (by kernel_rfl) ⟨hb8, hb8, hb8, hb8, hb8, hb8, hb8⟩ hS1 ?_
      refine l_nil rfl ?_
      refine then_n ?_
      refine c_true (b := true) (by kernel_rfl) rfl ?_
      refine wp_seq ?_
      refine c_reg ?_
      refine l_op rfl rfl (fun K hK => op_buildSlice (d := some 34) rfl rfl (e := 5) (by kernel_rfl) 1 (by kernel_rfl) (by decide) (by decide) [] (by kernel_rfl) rfl hS1 (fun blk10 w9 hS9 => hK _ _ ?_))
      clear hK K
      refine q_seg (S := (fun x_ => St w x_ [Res.row (Value.slice (some ⟨blk10, 0, none⟩) 0 0) 5 1 0 ([])])) [(8, Value.bool false), (7, Value.int .i64 0), (6, Value.slice (some ⟨blk10, 0, none⟩) 0 0)] [.no, .no, .no] True (by kernel_rfl) trivial hS9 ?_
      refine l_nil rfl ?_
      refine then_n ?_
      refine wp_ret ?_
      refine then_r ?_
      have hR : rby zs off mx = ([], 0, false) := rby_b hrd5t7 (by omega)
      exact c_end (S := (fun x_ => St w x_ [Res.row (Value.slice (some ⟨blk10, 0, none⟩) 0 0) 5 1 0 ([])])) (rs := [.tmp 6, .tmp 7, .tmp 8]) rfl [] (v := Value.tuple #[Value.slice (some ⟨blk10, 0, none⟩) 0 0, Value.int .i64 0, Value.bool false]) (C := True) (by kernel_rfl) trivial hS9 (by rw [hR]; dsimp only; exact (hS9.eqv (by first | rfl | (rw [hcl]; done) | (simp; done) | (simp [*]; done))).rt ⟨(some ⟨blk10, 0, none⟩), 0, (by first | rfl | (rw [hcl]; done) | (simp; done) | (simp [*]; done)), rfl⟩)
    · skip
      have hb8p := of_decide_eq_false hb8
      refine q_seg (S := (fun x_ => St w x_ [])) [(33, Value.bool (decide ((((n : Nat) : Int) - rp3) < rn2))), (32, Value.bool (decide ((((n : Nat) : Int) - rp3) < rn2))), (31, Value.int .i64 (((n : Nat) : Int) - rp3)), (30, Value.int .i64 rp3), (29, Value.int .i64 ((n : Nat) : Int)), (28, Value.slice A n c), (27, Value.int .i64 rn2)] [.no, .no, .no, .no, .no, .no, .v (.bool false)] (((decide (mx < rn2)) = false) ∧ ((decide (mx < rn2)) = false) ∧ ((decide (mx < rn2)) = false) ∧ ((decide (mx < rn2)) = false) ∧ ((decide (mx < rn2)) = false) ∧ (InK .i64 (((n : Nat) : Int) - rp3)) ∧ ((decide (mx < rn2)) = false) ∧ ((decide (mx < rn2)) = false)) (by kernel_rfl) ⟨hb8, hb8, hb8, hb8, hb8, (in64 (by omega) (by omega)), hb8, hb8⟩ hS1 ?_
      refine l_nil rfl ?_
      refine then_n ?_
      rcases Bool.eq_false_or_eq_true (decide ((((n : Nat) : Int) - rp3) < rn2)) with hb11 | hb11
      · skip
        have hb11p := of_decide_eq_true hb11
        refine c_true (b := (decide ((((n : Nat) : Int) - rp3) < rn2))) (by kernel_rfl) hb11 ?_
        refine wp_seq ?_
        refine c_reg ?_
        refine l_op rfl rfl (fun K hK => op_buildSlice (d := some 34) rfl rfl (e := 5) (by kernel_rfl) 1 (by kernel_rfl) (by decide) (by decide) [] (by kernel_rfl) rfl hS1 (fun blk13 w12 hS12 => hK _ _ ?_))
        clear hK K
        refine q_seg (S := (fun x_ => St w x_ [Res.row (Value.slice (some ⟨blk13, 0, none⟩) 0 0) 5 1 0 ([])])) [(8, Value.bool false), (7, Value.int .i64 0), (6, Value.slice (some ⟨blk13, 0, none⟩) 0 0)] [.no, .no, .no] True (by kernel_rfl) trivial hS12 ?_
        refine l_nil rfl ?_
        refine then_n ?_
        refine wp_ret ?_
        refine then_r ?_
        have hR : rby zs off mx = ([], 0, false) := rby_b hrd5t7 (by omega)
        exact c_end (S := (fun x_ => St w x_ [Res.row (Value.slice (some ⟨blk13, 0, none⟩) 0 0) 5 1 0 ([])])) (rs := [.tmp 6, .tmp 7, .tmp 8]) rfl [] (v := Value.tuple #[Value.slice (some ⟨blk13, 0, none⟩) 0 0, Value.int .i64 0, Value.bool false]) (C := True) (by kernel_rfl) trivial hS12 (by rw [hR]; dsimp only; exact (hS12.eqv (by first | rfl | (rw [hcl]; done) | (simp; done) | (simp [*]; done))).rt ⟨(some ⟨blk13, 0, none⟩), 0, (by first | rfl | (rw [hcl]; done) | (simp; done) | (simp [*]; done)), rfl⟩)
      · skip
        have hb11p := of_decide_eq_false hb11
        refine c_false (b := (decide ((((n : Nat) : Int) - rp3) < rn2))) (by kernel_rfl) hb11 ?_
        refine wp_skip ?_
        refine then_n ?_
        refine wp_seq ?_
        refine c_reg ?_
        refine l_op rfl rfl (fun K hK => op_buildSlice (d := some 35) rfl rfl (e := 5) (by kernel_rfl) 1 (by kernel_rfl) (by decide) (by decide) [] (by kernel_rfl) rfl hS1 (fun blk15 w14 hS14 => hK _ _ ?_))
        clear hK K
        refine q_seg (S := (fun x_ => St w x_ [Res.row (Value.slice (some ⟨blk15, 0, none⟩) 0 0) 5 1 0 ([])])) [(41, Value.slice (cutA A c (Int.toNat rp3) 1) ((Int.toNat (rp3 + rn2)) - (Int.toNat rp3)) (c - (Int.toNat rp3))), (40, Value.int .i64 (rp3 + rn2)), (39, Value.int .i64 rn2), (38, Value.int .i64 rp3), (37, Value.int .i64 rp3), (36, Value.slice A n c)] [.no, .no, .no, .no, .no, .no] ((InK .i64 (rp3 + rn2)) ∧ ((0 : Int) ≤ rp3) ∧ (rp3 ≤ (rp3 + rn2)) ∧ ((rp3 + rn2) ≤ ((c : Nat) : Int)) ∧ (n ≤ c)) (by kernel_rfl) ⟨(in64 (by omega) (by omega)), (by omega), (by omega), (by omega), (by omega)⟩ hS14 ?_
        refine l_op rfl rfl (fun K hK => op_append_nil (d := some 42) rfl rfl elByte hS14 (i := 0) rfl rfl rfl (news := (((zs.take (Int.toNat (rp3 + rn2))).drop (Int.toNat rp3)).map (Value.int .u8))) (hS14.rdlow (rd_cut8 hr (by omega) (by omega) hnc)).m1 (ints_one _ _) (by omega) (by omega) (fun v17 w16 hS16 => hK _ _ ?_))
        clear hK K
        obtain ⟨hlv17, Av17, cv17, hvv17, hnv17, hmv17⟩ := hS16.row_slice (List.mem_of_getElem? (i := 0) rfl)
        subst hvv17
        refine q_seg (S := (fun x_ => St w x_ [Res.row (Value.slice Av17 ((Int.toNat (rp3 + rn2)) - (Int.toNat rp3)) cv17) 5 1 ((Int.toNat (rp3 + rn2)) - (Int.toNat rp3)) (((zs.take (Int.toNat (rp3 + rn2))).drop (Int.toNat rp3)).map (Value.int .u8))])) [(8, Value.bool true), (7, Value.int .i64 (rp3 + rn2)), (6, Value.slice Av17 ((Int.toNat (rp3 + rn2)) - (Int.toNat rp3)) cv17), (45, Value.int .i64 (rp3 + rn2)), (44, Value.int .i64 rn2), (43, Value.int .i64 rp3)] [.no, .no, .no, .no, .no, .no] ((InK .i64 (rp3 + rn2))) (by kernel_rfl) (in64 (by omega) (by omega)) hS16 ?_
        refine l_nil rfl ?_
        refine then_n ?_
        refine wp_ret ?_
        have hcl : List.length ((zs.take (Int.toNat (rp3 + rn2))).drop (Int.toNat rp3)) = Int.toNat (rp3 + rn2) - Int.toNat rp3 := by rw [List.length_drop, List.length_take]; omega
        have hR : rby zs off mx = (((zs.take (Int.toNat (rp3 + rn2))).drop (Int.toNat rp3)), rp3 + rn2, true) := rby_t hrd5t7 (by omega)
        exact c_end (S := (fun x_ => St w x_ [Res.row (Value.slice Av17 ((Int.toNat (rp3 + rn2)) - (Int.toNat rp3)) cv17) 5 1 ((Int.toNat (rp3 + rn2)) - (Int.toNat rp3)) (((zs.take (Int.toNat (rp3 + rn2))).drop (Int.toNat rp3)).map (Value.int .u8))])) (rs := [.tmp 6, .tmp 7, .tmp 8]) rfl [] (v := Value.tuple #[Value.slice Av17 ((Int.toNat (rp3 + rn2)) - (Int.toNat rp3)) cv17, Value.int .i64 (rp3 + rn2), Value.bool true]) (C := True) (by kernel_rfl) trivial hS16 (by rw [hR]; dsimp only; exact (hS16.eqv (by first | rfl | (rw [hcl]; done) | (simp; done) | (simp [*]; done))).rt ⟨Av17, cv17, (by first | rfl | (rw [hcl]; done) | (simp; done) | (simp [*]; done)), rfl⟩)
  · skip
    have hrd5f18 := hrd5
    rw [hb6] at hrd5f18
    refine q_seg (S := (fun x_ => St w x_ [])) [(33, Value.bool true), (32, undef), (31, undef), (30, undef), (29, undef), (28, undef), (27, undef), (26, Value.bool true), (25, Value.bool true), (24, undef), (23, undef), (22, undef)] [.skip, .skip, .skip, .v (.bool true), .no, .skip, .skip, .skip, .skip, .skip, .skip, .v (.bool true)] (((!(ro4)) = !false) ∧ ((!(ro4)) = !false) ∧ ((!(ro4)) = !false) ∧ ((!(ro4)) = true) ∧ (true = !false) ∧ (true = !false) ∧ (true = !false) ∧ (true = !false) ∧ (true = !false) ∧ (true = !false) ∧ (true = true)) (by kernel_rfl) ⟨(nb (v := false) hb6), (nb (v := false) hb6), (nb (v := false) hb6), (nb (v := false) hb6), rfl, rfl, rfl, rfl, rfl, rfl, rfl⟩ hS1 ?_
    refine l_nil rfl ?_
    refine then_n ?_
    refine c_true (b := true) (by kernel_rfl) rfl ?_
    refine wp_seq ?_
    refine c_reg ?_
    refine l_op rfl rfl (fun K hK => op_buildSlice (d := some 34) rfl rfl (e := 5) (by kernel_rfl) 1 (by kernel_rfl) (by decide) (by decide) [] (by kernel_rfl) rfl hS1 (fun blk20 w19 hS19 => hK _ _ ?_))
    clear hK K
    refine q_seg (S := (fun x_ => St w x_ [Res.row (Value.slice (some ⟨blk20, 0, none⟩) 0 0) 5 1 0 ([])])) [(8, Value.bool false), (7, Value.int .i64 0), (6, Value.slice (some ⟨blk20, 0, none⟩) 0 0)] [.no, .no, .no] True (by kernel_rfl) trivial hS19 ?_
    refine l_nil rfl ?_
    refine then_n ?_
    refine wp_ret ?_
    refine then_r ?_
    have hR : rby zs off mx = ([], 0, false) := rby_f hrd5f18
    exact c_end (S := (fun x_ => St w x_ [Res.row (Value.slice (some ⟨blk20, 0, none⟩) 0 0) 5 1 0 ([])])) (rs := [.tmp 6, .tmp 7, .tmp 8]) rfl [] (v := Value.tuple #[Value.slice (some ⟨blk20, 0, none⟩) 0 0, Value.int .i64 0, Value.bool false]) (C := True) (by kernel_rfl) trivial hS19 (by rw [hR]; dsimp only; exact (hS19.eqv (by first | rfl | (rw [hcl]; done) | (simp; done) | (simp [*]; done))).rt ⟨(some ⟨blk20, 0, none⟩), 0, (by first | rfl | (rw [hcl]; done) | (simp; done) | (simp [*]; done)), rfl⟩)
theorem readSecured_i_c (A : Option Addr) (n c : Nat) (zs : List Int) (off : Int) (w : World) (hn : n ≤ 1000000000) (hz : okz .u8 zs) (hr : Rd w w.heap.size A n (zs.map (Value.int .u8))) (hnc : n ≤ c) : Calls Try.prog 60 #[.slice A n c, .int .i64 off] w (Ret w (fun v new => ∃ (A_ : Option Addr) (c_ : Nat), v = .tuple #[.agg #[.int .i64 (rsec zs off).1, .int .i64 (rsec zs off).2.1, .slice A_ (List.length (rsec zs off).2.2.1) c_, .int .i64 (rsec zs off).2.2.2.1], .int .i64 (rsec zs off).2.2.2.2.1, .bool (rsec zs off).2.2.2.2.2] ∧ new = [Res.row (.slice A_ (List.length (rsec zs off).2.2.1) c_) 5 1 (List.length (rsec zs off).2.2.1) ((rsec zs off).2.2.1.map (Value.int .u8))])) := by
  have hln := hr.len
  refine calls_FA Try.func60 rfl (n := 58) rfl (l := [(0, Value.slice A n c), (1, Value.int .i64 off)]) rfl (by simp) (fun g => ?_)
  have hS := St.init w
  refine wp_seq ?_
  refine c_reg ?_
  refine l_op rfl rfl (fun K hK => op_alloc (d := some 4) rfl rfl [Value.int .i64 0, Value.int .i64 0, Value.slice none 0 0, Value.int .i64 0] (by kernel_rfl) hS (fun blk2 w1 hS1 => hK _ _ ?_))
  clear hK K
  refine q_seg (S := (fun x_ => St w x_ [Res.box blk2 [Value.int .i64 0, Value.int .i64 0, Value.slice none 0 0, Value.int .i64 0] 32])) [(6, Value.bool false), (5, Value.int .i64 0)] [.no, .no] True (by kernel_rfl) trivial hS1 ?_
  refine l_nil rfl ?_
  refine then_n ?_
  refine wp_seq ?_
  refine c_reg ?_
  refine q_seg (S := (fun x_ => St w x_ [Res.box blk2 [Value.int .i64 0, Value.int .i64 0, Value.slice none 0 0, Value.int .i64 0] 32])) [(15, Value.int .i64 off), (14, Value.slice A n c)] [.no, .no] True (by kernel_rfl) trivial hS1 ?_
  obtain ⟨dl4, dp5, do6, hrd7⟩ : ∃ (dl4 : List Int) (dp5 : Int) (do6 : Bool), dec2 zs off = (dl4, dp5, do6) := ⟨_, _, _, rfl⟩
  refine l_op rfl rfl (fun K hK => op_call (d := some 16) rfl rfl ⟨_, Try.func58, by kernel_rfl, by kernel_rfl⟩ (vs := [Value.slice A n c, Value.int .i64 off, Value.int .i64 2]) (by kernel_rfl) (DecodeInts_i_c A n c zs off w1 (by omega) hz (hS1.rdlow hr)) hS1 (fun v8 new9 w3 Rw3 hS3 => hK _ _ ?_))
  clear hK K
  rw [hrd7] at Rw3
  dsimp only at Rw3
  obtain ⟨Aq10, cq11, rfl, rfl⟩ := Rw3
  refine q_seg (S := (fun x_ => St w x_ [Res.row (Value.slice Aq10 (List.length dl4) cq11) 3 1 (List.length dl4) (dl4.map (Value.int .i64)), Res.box blk2 [Value.int .i64 0, Value.int .i64 0, Value.slice none 0 0, Value.int .i64 0] 32])) [(9, Value.bool do6), (8, Value.int .i64 dp5), (7, Value.slice Aq10 (List.length dl4) cq11), (19, Value.bool do6), (18, Value.int .i64 dp5), (17, Value.slice Aq10 (List.length dl4) cq11), (13, Value.tuple #[Value.slice Aq10 (List.length dl4) cq11, Value.int .i64 dp5, Value.bool do6])] [.no, .no, .no, .no, .no, .no, .no] True (by kernel_rfl) trivial hS3 ?_
  refine l_nil rfl ?_
  refine then_n ?_
  refine wp_seq ?_
  refine wp_seq ?_
  refine c_reg ?_
  refine q_seg (S := (fun x_ => St w x_ [Res.row (Value.slice Aq10 (List.length dl4) cq11) 3 1 (List.length dl4) (dl4.map (Value.int .i64)), Res.box blk2 [Value.int .i64 0, Value.int .i64 0, Value.slice none 0 0, Value.int .i64 0] 32])) [(21, Value.bool (!(do6))), (20, Value.bool do6)] [.no, .no] True (by kernel_rfl) trivial hS3 ?_
  refine l_nil rfl ?_
  refine then_n ?_
  rcases Bool.eq_false_or_eq_true (do6) with hb12 | hb12
  · skip
    have hrd7t13 := hrd7
    rw [hb12] at hrd7t13
    obtain ⟨hx14, hx15, _, hrd7t13L, _, _, hrd7t13a, hrd7t13b, hrd7t13c, hrd7t13d, hrd7t13e, hrd7t13g, hrd7t13i⟩ := dec2_ok hz hrd7t13
    subst hrd7t13L
    have hrd7t13l : List.length [hx14, hx15] = 2 := rfl
    obtain ⟨blk16, rfl⟩ := hS3.row_at (List.mem_of_getElem? (i := 0) rfl) (by omega)
    refine c_false (b := (!(do6))) (by kernel_rfl) (nb (v := true) hb12) ?_
    refine wp_skip ?_
    refine then_n ?_
    refine wp_seq ?_
    refine c_reg ?_
    refine q_seg (S := (fun x_ => St w x_ [Res.row (Value.slice (some ⟨blk16, 0, none⟩) (List.length [hx14, hx15]) cq11) 3 1 (List.length [hx14, hx15]) ([hx14, hx15].map (Value.int .i64)), Res.box blk2 [Value.int .i64 0, Value.int .i64 0, Value.slice none 0 0, Value.int .i64 0] 32])) [(25, Value.int .i64 dp5), (24, Value.slice A n c)] [.no, .no] True (by kernel_rfl) trivial hS3 ?_
    obtain ⟨by18, bp19, bo20, hrd21⟩ : ∃ (by18 : List Int) (bp19 : Int) (bo20 : Bool), rby zs dp5 (60 : Int) = (by18, bp19, bo20) := ⟨_, _, _, rfl⟩
    refine l_op rfl rfl (fun K hK => op_call (d := some 26) rfl rfl ⟨_, Try.func92, by kernel_rfl, by kernel_rfl⟩ (vs := [Value.slice A n c, Value.int .i64 dp5, Value.int .i64 60]) (by kernel_rfl) (ReadBytes_i_c A n c zs dp5 (60 : Int) w3 (by omega) hz (hS3.rdlow hr) (by omega)) hS3 (fun v22 new23 w17 Rw17 hS17 => hK _ _ ?_))
    clear hK K
    rw [hrd21] at Rw17
    dsimp only at Rw17
    obtain ⟨Aq24, cq25, rfl, rfl⟩ := Rw17
    refine q_seg (S := (fun x_ => St w x_ [Res.row (Value.slice Aq24 (List.length by18) cq25) 5 1 (List.length by18) (by18.map (Value.int .u8)), Res.row (Value.slice (some ⟨blk16, 0, none⟩) (List.length [hx14, hx15]) cq11) 3 1 (List.length [hx14, hx15]) ([hx14, hx15].map (Value.int .i64)), Res.box blk2 [Value.int .i64 0, Value.int .i64 0, Value.slice none 0 0, Value.int .i64 0] 32])) [(9, Value.bool bo20), (8, Value.int .i64 bp19), (10, Value.slice Aq24 (List.length by18) cq25), (29, Value.bool bo20), (28, Value.int .i64 bp19), (27, Value.slice Aq24 (List.length by18) cq25), (23, Value.tuple #[Value.slice Aq24 (List.length by18) cq25, Value.int .i64 bp19, Value.bool bo20])] [.no, .no, .no, .no, .no, .no, .no] True (by kernel_rfl) trivial hS17 ?_
    refine l_nil rfl ?_
    refine then_n ?_
    refine wp_seq ?_
    refine wp_seq ?_
    refine c_reg ?_
    refine q_seg (S := (fun x_ => St w x_ [Res.row (Value.slice Aq24 (List.length by18) cq25) 5 1 (List.length by18) (by18.map (Value.int .u8)), Res.row (Value.slice (some ⟨blk16, 0, none⟩) (List.length [hx14, hx15]) cq11) 3 1 (List.length [hx14, hx15]) ([hx14, hx15].map (Value.int .i64)), Res.box blk2 [Value.int .i64 0, Value.int .i64 0, Value.slice none 0 0, Value.int .i64 0] 32])) [(31, Value.bool (!(bo20))), (30, Value.bool bo20)] [.no, .no] True (by kernel_rfl) trivial hS17 ?_
    refine l_nil rfl ?_
    refine then_n ?_
    rcases Bool.eq_false_or_eq_true (bo20) with hb26 | hb26
    · skip
      have hrd21t27 := hrd21
      rw [hb26] at hrd21t27
      obtain ⟨hrd21t27a, hrd21t27b, hrd21t27c, hrd21t27d, hrd21t27e, _⟩ := rby_ok hz hrd21t27
      refine c_false (b := (!(bo20))) (by kernel_rfl) (nb (v := true) hb26) ?_
      refine wp_skip ?_
      refine then_n ?_
      refine wp_seq ?_
      refine c_reg ?_
      refine q_seg (S := (fun x_ => St w x_ [Res.row (Value.slice Aq24 (List.length by18) cq25) 5 1 (List.length by18) (by18.map (Value.int .u8)), Res.row (Value.slice (some ⟨blk16, 0, none⟩) (List.length [hx14, hx15]) cq11) 3 1 (List.length [hx14, hx15]) ([hx14, hx15].map (Value.int .i64)), Res.box blk2 [Value.int .i64 0, Value.int .i64 0, Value.slice none 0 0, Value.int .i64 0] 32])) [(35, Value.int .i64 bp19), (34, Value.slice A n c)] [.no, .no] True (by kernel_rfl) trivial hS17 ?_
      obtain ⟨rn29, rp30, ro31, hrd32⟩ : ∃ (rn29 : Int) (rp30 : Int) (ro31 : Bool), rv zs bp19 = (rn29, rp30, ro31) := ⟨_, _, _, rfl⟩
      refine l_op rfl rfl (fun K hK => op_callv (d := some 36) rfl rfl ⟨_, Try.func91, by kernel_rfl, by kernel_rfl⟩ (vs := [Value.slice A n c, Value.int .i64 bp19]) (by kernel_rfl) (v := Value.tuple #[Value.int .i64 rn29, Value.int .i64 rp30, Value.bool ro31]) ((by have h_ := ReadUvarint_i_c A n c zs bp19 w17 (by omega) hz (hS17.rdlow hr); rw [hrd32] at h_; exact h_)) hS17 (fun w28 hS28 => hK _ _ ?_))
      clear hK K
      refine q_seg (S := (fun x_ => St w x_ [Res.row (Value.slice Aq24 (List.length by18) cq25) 5 1 (List.length by18) (by18.map (Value.int .u8)), Res.row (Value.slice (some ⟨blk16, 0, none⟩) (List.length [hx14, hx15]) cq11) 3 1 (List.length [hx14, hx15]) ([hx14, hx15].map (Value.int .i64)), Res.box blk2 [Value.int .i64 0, Value.int .i64 0, Value.slice none 0 0, Value.int .i64 0] 32])) [(9, Value.bool ro31), (8, Value.int .i64 rp30), (11, Value.int .i64 rn29), (39, Value.bool ro31), (38, Value.int .i64 rp30), (37, Value.int .i64 rn29), (33, Value.tuple #[Value.int .i64 rn29, Value.int .i64 rp30, Value.bool ro31])] [.no, .no, .no, .no, .no, .no, .no] True (by kernel_rfl) trivial hS28 ?_
      refine l_nil rfl ?_
      refine then_n ?_
      refine wp_seq ?_
      refine wp_seq ?_
      refine c_reg ?_
      refine q_seg (S := (fun x_ => St w x_ [Res.row (Value.slice Aq24 (List.length by18) cq25) 5 1 (List.length by18) (by18.map (Value.int .u8)), Res.row (Value.slice (some ⟨blk16, 0, none⟩) (List.length [hx14, hx15]) cq11) 3 1 (List.length [hx14, hx15]) ([hx14, hx15].map (Value.int .i64)), Res.box blk2 [Value.int .i64 0, Value.int .i64 0, Value.slice none 0 0, Value.int .i64 0] 32])) [(41, Value.bool (!(ro31))), (40, Value.bool ro31)] [.no, .no] True (by kernel_rfl) trivial hS28 ?_
      refine l_nil rfl ?_
      refine then_n ?_
      rcases Bool.eq_false_or_eq_true (ro31) with hb33 | hb33
      · skip
        have hrd32t34 := hrd32
        rw [hb33] at hrd32t34
        obtain ⟨hrd32t34a, hrd32t34b, hrd32t34c, hrd32t34d, hrd32t34e, hrd32t34g⟩ := rv_bd hz hrd32t34
        refine c_false (b := (!(ro31))) (by kernel_rfl) (nb (v := true) hb33) ?_
        refine wp_skip ?_
        refine then_n ?_
        refine wp_seq ?_
        refine c_drawn [] (by kernel_rfl) hS28 (fun w35 hS35 => ?_)
        refine t_seg (S := (fun x_ => St w x_ [Res.row (Value.slice Aq24 (List.length by18) cq25) 5 1 (List.length by18) (by18.map (Value.int .u8)), Res.row (Value.slice (some ⟨blk16, 0, none⟩) (List.length [hx14, hx15]) cq11) 3 1 (List.length [hx14, hx15]) ([hx14, hx15].map (Value.int .i64)), Res.box blk2 [Value.int .i64 0, Value.int .i64 0, Value.slice none 0 0, Value.int .i64 0] 32])) [(0, .no), (3, .no), (6, .no), (7, .no), (1, .no), (4, .no), (2, .v (Value.int .i64 hx14)), (5, .v (Value.int .i64 hx15)), (8, .no)] 2 #[true, true, true, true, true, true, true, true, true, false, false] [(51, Value.agg #[Value.int .i64 hx14, Value.int .i64 hx15, Value.slice Aq24 (List.length by18) cq25, Value.int .i64 rn29]), (48, Value.int .i64 hx15), (45, Value.int .i64 hx14), (47, Value.pointer (some ⟨blk16, 0 + Int.toNat 1 * 1, none⟩)), (44, Value.pointer (some ⟨blk16, 0 + Int.toNat 0 * 1, none⟩)), (50, Value.int .i64 rn29), (49, Value.slice Aq24 (List.length by18) cq25), (46, Value.slice (some ⟨blk16, 0, none⟩) (List.length [hx14, hx15]) cq11), (43, Value.slice (some ⟨blk16, 0, none⟩) (List.length [hx14, hx15]) cq11)] (((0 : Int) ≤ 0) ∧ (0 < (((List.length [hx14, hx15]) : Nat) : Int)) ∧ ((0 : Int) ≤ 1) ∧ (1 < (((List.length [hx14, hx15]) : Nat) : Int)) ∧ (LoadsAt Try.prog (fun x_ => St w x_ [Res.row (Value.slice Aq24 (List.length by18) cq25) 5 1 (List.length by18) (by18.map (Value.int .u8)), Res.row (Value.slice (some ⟨blk16, 0, none⟩) (List.length [hx14, hx15]) cq11) 3 1 (List.length [hx14, hx15]) ([hx14, hx15].map (Value.int .i64)), Res.box blk2 [Value.int .i64 0, Value.int .i64 0, Value.slice none 0 0, Value.int .i64 0] 32]) 3 ⟨blk16, 0 + Int.toNat 0 * 1, none⟩ (Value.int .i64 hx14)) ∧ (LoadsAt Try.prog (fun x_ => St w x_ [Res.row (Value.slice Aq24 (List.length by18) cq25) 5 1 (List.length by18) (by18.map (Value.int .u8)), Res.row (Value.slice (some ⟨blk16, 0, none⟩) (List.length [hx14, hx15]) cq11) 3 1 (List.length [hx14, hx15]) ([hx14, hx15].map (Value.int .i64)), Res.box blk2 [Value.int .i64 0, Value.int .i64 0, Value.slice none 0 0, Value.int .i64 0] 32]) 3 ⟨blk16, 0 + Int.toNat 1 * 1, none⟩ (Value.int .i64 hx15))) (by kernel_rfl) (Qpanic.then Qpanic.bp) rfl (by kernel_rfl) ⟨(by omega), (by omega), (by omega), (by omega), (ld_row (i := 1) rfl rfl (by kernel_rfl)), (ld_row (i := 1) rfl rfl (by kernel_rfl))⟩ hS35 ?_
        refine a_op (i := 9) (fuel := 1) (listed' := #[true, true, true, true, true, true, true, true, true, true, false]) rfl rfl (by kernel_rfl) (by kernel_rfl) rfl (fun K hK => op_alloc (d := some 12) rfl rfl [Value.int .i64 0, Value.int .i64 0, Value.slice none 0 0, Value.int .i64 0] (by kernel_rfl) hS35 (fun blk37 w36 hS36 => hK _ _ (fun _ => hS36.drop) ?_))
        clear hK K
        refine a_op (i := 10) (fuel := 0) (listed' := #[true, true, true, true, true, true, true, true, true, true, true]) rfl rfl (by kernel_rfl) (by kernel_rfl) rfl (fun K hK => op_store (d := none) rfl rfl (i := 0) (b := blk37) (off := 0) (cs := [Value.int .i64 0, Value.int .i64 0, Value.slice none 0 0, Value.int .i64 0]) (bt := 32) (by kernel_rfl) (by kernel_rfl) [Value.int .i64 hx14, Value.int .i64 hx15, Value.slice Aq24 (List.length by18) cq25, Value.int .i64 rn29] (by kernel_rfl) (by kernel_rfl) (Nat.le_of_ble_eq_true (by kernel_rfl)) (by kernel_rfl) [Res.box blk37 [Value.int .i64 hx14, Value.int .i64 hx15, Value.slice Aq24 (List.length by18) cq25, Value.int .i64 rn29] 32, Res.row (Value.slice Aq24 (List.length by18) cq25) 5 1 (List.length by18) (by18.map (Value.int .u8)), Res.row (Value.slice (some ⟨blk16, 0, none⟩) (List.length [hx14, hx15]) cq11) 3 1 (List.length [hx14, hx15]) ([hx14, hx15].map (Value.int .i64)), Res.box blk2 [Value.int .i64 0, Value.int .i64 0, Value.slice none 0 0, Value.int .i64 0] 32] (by kernel_rfl) hS36 (fun w38 hS38 => hK _ _ (fun _ => hS38.drop) ?_))
        clear hK K
        refine a_done (by kernel_rfl) ?_
        refine then_n ?_
        refine wp_seq ?_
        refine wp_seq ?_
        refine c_reg ?_
        refine q_seg (S := (fun x_ => St w x_ [Res.box blk37 [Value.int .i64 hx14, Value.int .i64 hx15, Value.slice Aq24 (List.length by18) cq25, Value.int .i64 rn29] 32, Res.row (Value.slice Aq24 (List.length by18) cq25) 5 1 (List.length by18) (by18.map (Value.int .u8)), Res.row (Value.slice (some ⟨blk16, 0, none⟩) (List.length [hx14, hx15]) cq11) 3 1 (List.length [hx14, hx15]) ([hx14, hx15].map (Value.int .i64)), Res.box blk2 [Value.int .i64 0, Value.int .i64 0, Value.slice none 0 0, Value.int .i64 0] 32])) [(52, Value.agg #[Value.int .i64 hx14, Value.int .i64 hx15, Value.slice Aq24 (List.length by18) cq25, Value.int .i64 rn29])] [.v (Value.agg #[Value.int .i64 hx14, Value.int .i64 hx15, Value.slice Aq24 (List.length by18) cq25, Value.int .i64 rn29])] ((LoadsAt Try.prog (fun x_ => St w x_ [Res.box blk37 [Value.int .i64 hx14, Value.int .i64 hx15, Value.slice Aq24 (List.length by18) cq25, Value.int .i64 rn29] 32, Res.row (Value.slice Aq24 (List.length by18) cq25) 5 1 (List.length by18) (by18.map (Value.int .u8)), Res.row (Value.slice (some ⟨blk16, 0, none⟩) (List.length [hx14, hx15]) cq11) 3 1 (List.length [hx14, hx15]) ([hx14, hx15].map (Value.int .i64)), Res.box blk2 [Value.int .i64 0, Value.int .i64 0, Value.slice none 0 0, Value.int .i64 0] 32]) 32 ⟨blk37, 0, none⟩ (Value.agg #[Value.int .i64 hx14, Value.int .i64 hx15, Value.slice Aq24 (List.length by18) cq25, Value.int .i64 rn29]))) (by kernel_rfl) (ld_boxN (i := 0) (k := 4) rfl rfl rfl (by kernel_rfl)) hS38 ?_
        refine l_op rfl rfl (fun K hK => op_callv (d := some 53) rfl rfl ⟨_, Try.func61, by kernel_rfl, by kernel_rfl⟩ (vs := [Value.agg #[Value.int .i64 hx14, Value.int .i64 hx15, Value.slice Aq24 (List.length by18) cq25, Value.int .i64 rn29]]) (by kernel_rfl) (v := Value.bool (vsec hx14 hx15 (List.length by18) rn29)) (IsValidSecured_i_c hx14 hx15 Aq24 (List.length by18) cq25 rn29 w38 (by omega)) hS38 (fun w39 hS39 => hK _ _ ?_))
        clear hK K
        refine q_seg (S := (fun x_ => St w x_ [Res.box blk37 [Value.int .i64 hx14, Value.int .i64 hx15, Value.slice Aq24 (List.length by18) cq25, Value.int .i64 rn29] 32, Res.row (Value.slice Aq24 (List.length by18) cq25) 5 1 (List.length by18) (by18.map (Value.int .u8)), Res.row (Value.slice (some ⟨blk16, 0, none⟩) (List.length [hx14, hx15]) cq11) 3 1 (List.length [hx14, hx15]) ([hx14, hx15].map (Value.int .i64)), Res.box blk2 [Value.int .i64 0, Value.int .i64 0, Value.slice none 0 0, Value.int .i64 0] 32])) [(54, Value.bool (!(vsec hx14 hx15 (List.length by18) rn29)))] [.no] True (by kernel_rfl) trivial hS39 ?_
        refine l_nil rfl ?_
        refine then_n ?_
        rcases Bool.eq_false_or_eq_true (vsec hx14 hx15 (List.length by18) rn29) with hb40 | hb40
        · skip
          refine c_false (b := (!(vsec hx14 hx15 (List.length by18) rn29))) (by kernel_rfl) (nb (v := true) hb40) ?_
          refine wp_skip ?_
          refine then_n ?_
          refine wp_seq ?_
          refine c_reg ?_
          refine q_seg (S := (fun x_ => St w x_ [Res.box blk37 [Value.int .i64 hx14, Value.int .i64 hx15, Value.slice Aq24 (List.length by18) cq25, Value.int .i64 rn29] 32, Res.row (Value.slice Aq24 (List.length by18) cq25) 5 1 (List.length by18) (by18.map (Value.int .u8)), Res.row (Value.slice (some ⟨blk16, 0, none⟩) (List.length [hx14, hx15]) cq11) 3 1 (List.length [hx14, hx15]) ([hx14, hx15].map (Value.int .i64)), Res.box blk2 [Value.int .i64 0, Value.int .i64 0, Value.slice none 0 0, Value.int .i64 0] 32])) [(57, Value.int .i64 rp30), (56, Value.agg #[Value.int .i64 hx14, Value.int .i64 hx15, Value.slice Aq24 (List.length by18) cq25, Value.int .i64 rn29])] [.v (Value.agg #[Value.int .i64 hx14, Value.int .i64 hx15, Value.slice Aq24 (List.length by18) cq25, Value.int .i64 rn29]), .no] ((LoadsAt Try.prog (fun x_ => St w x_ [Res.box blk37 [Value.int .i64 hx14, Value.int .i64 hx15, Value.slice Aq24 (List.length by18) cq25, Value.int .i64 rn29] 32, Res.row (Value.slice Aq24 (List.length by18) cq25) 5 1 (List.length by18) (by18.map (Value.int .u8)), Res.row (Value.slice (some ⟨blk16, 0, none⟩) (List.length [hx14, hx15]) cq11) 3 1 (List.length [hx14, hx15]) ([hx14, hx15].map (Value.int .i64)), Res.box blk2 [Value.int .i64 0, Value.int .i64 0, Value.slice none 0 0, Value.int .i64 0] 32]) 32 ⟨blk37, 0, none⟩ (Value.agg #[Value.int .i64 hx14, Value.int .i64 hx15, Value.slice Aq24 (List.length by18) cq25, Value.int .i64 rn29]))) (by kernel_rfl) (ld_boxN (i := 0) (k := 4) rfl rfl rfl (by kernel_rfl)) hS39 ?_
          refine l_op rfl rfl (fun K hK => op_store (d := none) rfl rfl (i := 3) (b := blk2) (off := 0) (cs := [Value.int .i64 0, Value.int .i64 0, Value.slice none 0 0, Value.int .i64 0]) (bt := 32) (by kernel_rfl) (by kernel_rfl) [Value.int .i64 hx14, Value.int .i64 hx15, Value.slice Aq24 (List.length by18) cq25, Value.int .i64 rn29] (by kernel_rfl) (by kernel_rfl) (Nat.le_of_ble_eq_true (by kernel_rfl)) (by kernel_rfl) [Res.box blk37 [Value.int .i64 hx14, Value.int .i64 hx15, Value.slice Aq24 (List.length by18) cq25, Value.int .i64 rn29] 32, Res.row (Value.slice Aq24 (List.length by18) cq25) 5 1 (List.length by18) (by18.map (Value.int .u8)), Res.row (Value.slice (some ⟨blk16, 0, none⟩) (List.length [hx14, hx15]) cq11) 3 1 (List.length [hx14, hx15]) ([hx14, hx15].map (Value.int .i64)), Res.box blk2 [Value.int .i64 hx14, Value.int .i64 hx15, Value.slice Aq24 (List.length by18) cq25, Value.int .i64 rn29] 32] (by kernel_rfl) hS39 (fun w41 hS41 => hK _ _ ?_))
          clear hK K
          refine q_seg (S := (fun x_ => St w x_ [Res.box blk37 [Value.int .i64 hx14, Value.int .i64 hx15, Value.slice Aq24 (List.length by18) cq25, Value.int .i64 rn29] 32, Res.row (Value.slice Aq24 (List.length by18) cq25) 5 1 (List.length by18) (by18.map (Value.int .u8)), Res.row (Value.slice (some ⟨blk16, 0, none⟩) (List.length [hx14, hx15]) cq11) 3 1 (List.length [hx14, hx15]) ([hx14, hx15].map (Value.int .i64)), Res.box blk2 [Value.int .i64 hx14, Value.int .i64 hx15, Value.slice Aq24 (List.length by18) cq25, Value.int .i64 rn29] 32])) [(6, Value.bool true), (5, Value.int .i64 rp30)] [.no, .no] True (by kernel_rfl) trivial hS41 ?_
          refine l_nil rfl ?_
          refine then_n ?_
          refine wp_ret ?_
          have hS41s1 : St w w41 [Res.row (Value.slice Aq24 (List.length by18) cq25) 5 1 (List.length by18) (by18.map (Value.int .u8))] := (hS41.sub (List.Sublist.cons _ (List.Sublist.cons_cons _ (List.Sublist.cons _ (List.Sublist.cons _ List.Sublist.slnil)))))
          have hR : rsec zs off = (hx14, hx15, by18, rn29, rp30, true) := rsec_5 hrd7t13 hrd21t27 hrd32t34 hb40
          exact c_end (S := (fun x_ => St w x_ [Res.box blk37 [Value.int .i64 hx14, Value.int .i64 hx15, Value.slice Aq24 (List.length by18) cq25, Value.int .i64 rn29] 32, Res.row (Value.slice Aq24 (List.length by18) cq25) 5 1 (List.length by18) (by18.map (Value.int .u8)), Res.row (Value.slice (some ⟨blk16, 0, none⟩) (List.length [hx14, hx15]) cq11) 3 1 (List.length [hx14, hx15]) ([hx14, hx15].map (Value.int .i64)), Res.box blk2 [Value.int .i64 hx14, Value.int .i64 hx15, Value.slice Aq24 (List.length by18) cq25, Value.int .i64 rn29] 32])) (rs := [.cell 4 32, .tmp 5, .tmp 6]) rfl [Value.agg #[Value.int .i64 hx14, Value.int .i64 hx15, Value.slice Aq24 (List.length by18) cq25, Value.int .i64 rn29]] (v := Value.tuple #[Value.agg #[Value.int .i64 hx14, Value.int .i64 hx15, Value.slice Aq24 (List.length by18) cq25, Value.int .i64 rn29], Value.int .i64 rp30, Value.bool true]) (C := ((LoadsAt Try.prog (fun x_ => St w x_ [Res.box blk37 [Value.int .i64 hx14, Value.int .i64 hx15, Value.slice Aq24 (List.length by18) cq25, Value.int .i64 rn29] 32, Res.row (Value.slice Aq24 (List.length by18) cq25) 5 1 (List.length by18) (by18.map (Value.int .u8)), Res.row (Value.slice (some ⟨blk16, 0, none⟩) (List.length [hx14, hx15]) cq11) 3 1 (List.length [hx14, hx15]) ([hx14, hx15].map (Value.int .i64)), Res.box blk2 [Value.int .i64 hx14, Value.int .i64 hx15, Value.slice Aq24 (List.length by18) cq25, Value.int .i64 rn29] 32]) 32 ⟨blk2, 0, none⟩ (Value.agg #[Value.int .i64 hx14, Value.int .i64 hx15, Value.slice Aq24 (List.length by18) cq25, Value.int .i64 rn29])))) (by kernel_rfl) (ld_boxN (i := 3) (k := 4) rfl rfl rfl (by kernel_rfl)) hS41 (by rw [hR]; dsimp only; exact (hS41s1.eqv (by first | rfl | (rw [hcl]; done) | (simp; done) | (simp [*]; done))).rt ⟨Aq24, cq25, (by first | rfl | (rw [hcl]; done) | (simp; done) | (simp [*]; done)), rfl⟩)
        · skip
          refine c_true (b := (!(vsec hx14 hx15 (List.length by18) rn29))) (by kernel_rfl) (nb (v := false) hb40) ?_
          refine wp_seq ?_
          refine c_reg ?_
          refine q_seg (S := (fun x_ => St w x_ [Res.box blk37 [Value.int .i64 hx14, Value.int .i64 hx15, Value.slice Aq24 (List.length by18) cq25, Value.int .i64 rn29] 32, Res.row (Value.slice Aq24 (List.length by18) cq25) 5 1 (List.length by18) (by18.map (Value.int .u8)), Res.row (Value.slice (some ⟨blk16, 0, none⟩) (List.length [hx14, hx15]) cq11) 3 1 (List.length [hx14, hx15]) ([hx14, hx15].map (Value.int .i64)), Res.box blk2 [Value.int .i64 0, Value.int .i64 0, Value.slice none 0 0, Value.int .i64 0] 32])) [(55, Value.agg #[Value.int .i64 0, Value.int .i64 0, Value.slice none 0 0, Value.int .i64 0])] [.no] True (by kernel_rfl) trivial hS39 ?_
          refine l_op rfl rfl (fun K hK => op_store (d := none) rfl rfl (i := 3) (b := blk2) (off := 0) (cs := [Value.int .i64 0, Value.int .i64 0, Value.slice none 0 0, Value.int .i64 0]) (bt := 32) (by kernel_rfl) (by kernel_rfl) [Value.int .i64 0, Value.int .i64 0, Value.slice none 0 0, Value.int .i64 0] (by kernel_rfl) (by kernel_rfl) (Nat.le_of_ble_eq_true (by kernel_rfl)) (by kernel_rfl) [Res.box blk37 [Value.int .i64 hx14, Value.int .i64 hx15, Value.slice Aq24 (List.length by18) cq25, Value.int .i64 rn29] 32, Res.row (Value.slice Aq24 (List.length by18) cq25) 5 1 (List.length by18) (by18.map (Value.int .u8)), Res.row (Value.slice (some ⟨blk16, 0, none⟩) (List.length [hx14, hx15]) cq11) 3 1 (List.length [hx14, hx15]) ([hx14, hx15].map (Value.int .i64)), Res.box blk2 [Value.int .i64 0, Value.int .i64 0, Value.slice none 0 0, Value.int .i64 0] 32] (by kernel_rfl) hS39 (fun w42 hS42 => hK _ _ ?_))
          clear hK K
          refine q_seg (S := (fun x_ => St w x_ [Res.box blk37 [Value.int .i64 hx14, Value.int .i64 hx15, Value.slice Aq24 (List.length by18) cq25, Value.int .i64 rn29] 32, Res.row (Value.slice Aq24 (List.length by18) cq25) 5 1 (List.length by18) (by18.map (Value.int .u8)), Res.row (Value.slice (some ⟨blk16, 0, none⟩) (List.length [hx14, hx15]) cq11) 3 1 (List.length [hx14, hx15]) ([hx14, hx15].map (Value.int .i64)), Res.box blk2 [Value.int .i64 0, Value.int .i64 0, Value.slice none 0 0, Value.int .i64 0] 32])) [(6, Value.bool false), (5, Value.int .i64 0)] [.no, .no] True (by kernel_rfl) trivial hS42 ?_
          refine l_nil rfl ?_
          refine then_n ?_
          refine wp_ret ?_
          refine then_r ?_
          have hS42s2 : St w w42 [Res.row (Value.slice none 0 0) 5 1 0 ([]), Res.box blk37 [Value.int .i64 hx14, Value.int .i64 hx15, Value.slice Aq24 (List.length by18) cq25, Value.int .i64 rn29] 32, Res.row (Value.slice Aq24 (List.length by18) cq25) 5 1 (List.length by18) (by18.map (Value.int .u8)), Res.row (Value.slice (some ⟨blk16, 0, none⟩) (List.length [hx14, hx15]) cq11) 3 1 (List.length [hx14, hx15]) ([hx14, hx15].map (Value.int .i64)), Res.box blk2 [Value.int .i64 0, Value.int .i64 0, Value.slice none 0 0, Value.int .i64 0] 32] := hS42.nilrow 5 1
          have hS42s2s3 : St w w42 [Res.row (Value.slice none 0 0) 5 1 0 ([])] := (hS42s2.sub (List.Sublist.cons_cons _ (List.Sublist.cons _ (List.Sublist.cons _ (List.Sublist.cons _ (List.Sublist.cons _ List.Sublist.slnil))))))
          have hR : rsec zs off = (0, 0, [], 0, 0, false) := rsec_4 hrd7t13 hrd21t27 hrd32t34 hb40
          exact c_end (S := (fun x_ => St w x_ [Res.box blk37 [Value.int .i64 hx14, Value.int .i64 hx15, Value.slice Aq24 (List.length by18) cq25, Value.int .i64 rn29] 32, Res.row (Value.slice Aq24 (List.length by18) cq25) 5 1 (List.length by18) (by18.map (Value.int .u8)), Res.row (Value.slice (some ⟨blk16, 0, none⟩) (List.length [hx14, hx15]) cq11) 3 1 (List.length [hx14, hx15]) ([hx14, hx15].map (Value.int .i64)), Res.box blk2 [Value.int .i64 0, Value.int .i64 0, Value.slice none 0 0, Value.int .i64 0] 32])) (rs := [.cell 4 32, .tmp 5, .tmp 6]) rfl [Value.agg #[Value.int .i64 0, Value.int .i64 0, Value.slice none 0 0, Value.int .i64 0]] (v := Value.tuple #[Value.agg #[Value.int .i64 0, Value.int .i64 0, Value.slice none 0 0, Value.int .i64 0], Value.int .i64 0, Value.bool false]) (C := ((LoadsAt Try.prog (fun x_ => St w x_ [Res.box blk37 [Value.int .i64 hx14, Value.int .i64 hx15, Value.slice Aq24 (List.length by18) cq25, Value.int .i64 rn29] 32, Res.row (Value.slice Aq24 (List.length by18) cq25) 5 1 (List.length by18) (by18.map (Value.int .u8)), Res.row (Value.slice (some ⟨blk16, 0, none⟩) (List.length [hx14, hx15]) cq11) 3 1 (List.length [hx14, hx15]) ([hx14, hx15].map (Value.int .i64)), Res.box blk2 [Value.int .i64 0, Value.int .i64 0, Value.slice none 0 0, Value.int .i64 0] 32]) 32 ⟨blk2, 0, none⟩ (Value.agg #[Value.int .i64 0, Value.int .i64 0, Value.slice none 0 0, Value.int .i64 0])))) (by kernel_rfl) (ld_boxN (i := 3) (k := 4) rfl rfl rfl (by kernel_rfl)) hS42 (by rw [hR]; dsimp only; exact (hS42s2s3.eqv (by first | rfl | (rw [hcl]; done) | (simp; done) | (simp [*]; done))).rt ⟨none, 0, (by first | rfl | (rw [hcl]; done) | (simp; done) | (simp [*]; done)), rfl⟩)
      · skip
        have hrd32f43 := hrd32
        rw [hb33] at hrd32f43
        refine c_true (b := (!(ro31))) (by kernel_rfl) (nb (v := false) hb33) ?_
        refine wp_seq ?_
        refine c_reg ?_
        refine q_seg (S := (fun x_ => St w x_ [Res.row (Value.slice Aq24 (List.length by18) cq25) 5 1 (List.length by18) (by18.map (Value.int .u8)), Res.row (Value.slice (some ⟨blk16, 0, none⟩) (List.length [hx14, hx15]) cq11) 3 1 (List.length [hx14, hx15]) ([hx14, hx15].map (Value.int .i64)), Res.box blk2 [Value.int .i64 0, Value.int .i64 0, Value.slice none 0 0, Value.int .i64 0] 32])) [(42, Value.agg #[Value.int .i64 0, Value.int .i64 0, Value.slice none 0 0, Value.int .i64 0])] [.no] True (by kernel_rfl) trivial hS28 ?_
        refine l_op rfl rfl (fun K hK => op_store (d := none) rfl rfl (i := 2) (b := blk2) (off := 0) (cs := [Value.int .i64 0, Value.int .i64 0, Value.slice none 0 0, Value.int .i64 0]) (bt := 32) (by kernel_rfl) (by kernel_rfl) [Value.int .i64 0, Value.int .i64 0, Value.slice none 0 0, Value.int .i64 0] (by kernel_rfl) (by kernel_rfl) (Nat.le_of_ble_eq_true (by kernel_rfl)) (by kernel_rfl) [Res.row (Value.slice Aq24 (List.length by18) cq25) 5 1 (List.length by18) (by18.map (Value.int .u8)), Res.row (Value.slice (some ⟨blk16, 0, none⟩) (List.length [hx14, hx15]) cq11) 3 1 (List.length [hx14, hx15]) ([hx14, hx15].map (Value.int .i64)), Res.box blk2 [Value.int .i64 0, Value.int .i64 0, Value.slice none 0 0, Value.int .i64 0] 32] (by kernel_rfl) hS28 (fun w44 hS44 => hK _ _ ?_))
        clear hK K
        refine q_seg (S := (fun x_ => St w x_ [Res.row (Value.slice Aq24 (List.length by18) cq25) 5 1 (List.length by18) (by18.map (Value.int .u8)), Res.row (Value.slice (some ⟨blk16, 0, none⟩) (List.length [hx14, hx15]) cq11) 3 1 (List.length [hx14, hx15]) ([hx14, hx15].map (Value.int .i64)), Res.box blk2 [Value.int .i64 0, Value.int .i64 0, Value.slice none 0 0, Value.int .i64 0] 32])) [(6, Value.bool false), (5, Value.int .i64 0)] [.no, .no] True (by kernel_rfl) trivial hS44 ?_
        refine l_nil rfl ?_
        refine then_n ?_
        refine wp_ret ?_
        refine then_r ?_
        have hS44s4 : St w w44 [Res.row (Value.slice none 0 0) 5 1 0 ([]), Res.row (Value.slice Aq24 (List.length by18) cq25) 5 1 (List.length by18) (by18.map (Value.int .u8)), Res.row (Value.slice (some ⟨blk16, 0, none⟩) (List.length [hx14, hx15]) cq11) 3 1 (List.length [hx14, hx15]) ([hx14, hx15].map (Value.int .i64)), Res.box blk2 [Value.int .i64 0, Value.int .i64 0, Value.slice none 0 0, Value.int .i64 0] 32] := hS44.nilrow 5 1
        have hS44s4s5 : St w w44 [Res.row (Value.slice none 0 0) 5 1 0 ([])] := (hS44s4.sub (List.Sublist.cons_cons _ (List.Sublist.cons _ (List.Sublist.cons _ (List.Sublist.cons _ List.Sublist.slnil)))))
        have hR : rsec zs off = (0, 0, [], 0, 0, false) := rsec_3 hrd7t13 hrd21t27 hrd32f43
        exact c_end (S := (fun x_ => St w x_ [Res.row (Value.slice Aq24 (List.length by18) cq25) 5 1 (List.length by18) (by18.map (Value.int .u8)), Res.row (Value.slice (some ⟨blk16, 0, none⟩) (List.length [hx14, hx15]) cq11) 3 1 (List.length [hx14, hx15]) ([hx14, hx15].map (Value.int .i64)), Res.box blk2 [Value.int .i64 0, Value.int .i64 0, Value.slice none 0 0, Value.int .i64 0] 32])) (rs := [.cell 4 32, .tmp 5, .tmp 6]) rfl [Value.agg #[Value.int .i64 0, Value.int .i64 0, Value.slice none 0 0, Value.int .i64 0]] (v := Value.tuple #[Value.agg #[Value.int .i64 0, Value.int .i64 0, Value.slice none 0 0, Value.int .i64 0], Value.int .i64 0, Value.bool false]) (C := ((LoadsAt Try.prog (fun x_ => St w x_ [Res.row (Value.slice Aq24 (List.length by18) cq25) 5 1 (List.length by18) (by18.map (Value.int .u8)), Res.row (Value.slice (some ⟨blk16, 0, none⟩) (List.length [hx14, hx15]) cq11) 3 1 (List.length [hx14, hx15]) ([hx14, hx15].map (Value.int .i64)), Res.box blk2 [Value.int .i64 0, Value.int .i64 0, Value.slice none 0 0, Value.int .i64 0] 32]) 32 ⟨blk2, 0, none⟩ (Value.agg #[Value.int .i64 0, Value.int .i64 0, Value.slice none 0 0, Value.int .i64 0])))) (by kernel_rfl) (ld_boxN (i := 2) (k := 4) rfl rfl rfl (by kernel_rfl)) hS44 (by rw [hR]; dsimp only; exact (hS44s4s5.eqv (by first | rfl | (rw [hcl]; done) | (simp; done) | (simp [*]; done))).rt ⟨none, 0, (by first | rfl | (rw [hcl]; done) | (simp; done) | (simp [*]; done)), rfl⟩)
    · skip
      have hrd21f45 := hrd21
      rw [hb26] at hrd21f45
      refine c_true (b := (!(bo20))) (by kernel_rfl) (nb (v := false) hb26) ?_
      refine wp_seq ?_
      refine c_reg ?_
      refine q_seg (S := (fun x_ => St w x_ [Res.row (Value.slice Aq24 (List.length by18) cq25) 5 1 (List.length by18) (by18.map (Value.int .u8)), Res.row (Value.slice (some ⟨blk16, 0, none⟩) (List.length [hx14, hx15]) cq11) 3 1 (List.length [hx14, hx15]) ([hx14, hx15].map (Value.int .i64)), Res.box blk2 [Value.int .i64 0, Value.int .i64 0, Value.slice none 0 0, Value.int .i64 0] 32])) [(32, Value.agg #[Value.int .i64 0, Value.int .i64 0, Value.slice none 0 0, Value.int .i64 0])] [.no] True (by kernel_rfl) trivial hS17 ?_
      refine l_op rfl rfl (fun K hK => op_store (d := none) rfl rfl (i := 2) (b := blk2) (off := 0) (cs := [Value.int .i64 0, Value.int .i64 0, Value.slice none 0 0, Value.int .i64 0]) (bt := 32) (by kernel_rfl) (by kernel_rfl) [Value.int .i64 0, Value.int .i64 0, Value.slice none 0 0, Value.int .i64 0] (by kernel_rfl) (by kernel_rfl) (Nat.le_of_ble_eq_true (by kernel_rfl)) (by kernel_rfl) [Res.row (Value.slice Aq24 (List.length by18) cq25) 5 1 (List.length by18) (by18.map (Value.int .u8)), Res.row (Value.slice (some ⟨blk16, 0, none⟩) (List.length [hx14, hx15]) cq11) 3 1 (List.length [hx14, hx15]) ([hx14, hx15].map (Value.int .i64)), Res.box blk2 [Value.int .i64 0, Value.int .i64 0, Value.slice none 0 0, Value.int .i64 0] 32] (by kernel_rfl) hS17 (fun w46 hS46 => hK _ _ ?_))
      clear hK K
      refine q_seg (S := (fun x_ => St w x_ [Res.row (Value.slice Aq24 (List.length by18) cq25) 5 1 (List.length by18) (by18.map (Value.int .u8)), Res.row (Value.slice (some ⟨blk16, 0, none⟩) (List.length [hx14, hx15]) cq11) 3 1 (List.length [hx14, hx15]) ([hx14, hx15].map (Value.int .i64)), Res.box blk2 [Value.int .i64 0, Value.int .i64 0, Value.slice none 0 0, Value.int .i64 0] 32])) [(6, Value.bool false), (5, Value.int .i64 0)] [.no, .no] True (by kernel_rfl) trivial hS46 ?_
      refine l_nil rfl ?_
      refine then_n ?_
      refine wp_ret ?_
      refine then_r ?_
      have hS46s6 : St w w46 [Res.row (Value.slice none 0 0) 5 1 0 ([]), Res.row (Value.slice Aq24 (List.length by18) cq25) 5 1 (List.length by18) (by18.map (Value.int .u8)), Res.row (Value.slice (some ⟨blk16, 0, none⟩) (List.length [hx14, hx15]) cq11) 3 1 (List.length [hx14, hx15]) ([hx14, hx15].map (Value.int .i64)), Res.box blk2 [Value.int .i64 0, Value.int .i64 0, Value.slice none 0 0, Value.int .i64 0] 32] := hS46.nilrow 5 1
      have hS46s6s7 : St w w46 [Res.row (Value.slice none 0 0) 5 1 0 ([])] := (hS46s6.sub (List.Sublist.cons_cons _ (List.Sublist.cons _ (List.Sublist.cons _ (List.Sublist.cons _ List.Sublist.slnil)))))
      have hR : rsec zs off = (0, 0, [], 0, 0, false) := rsec_2 hrd7t13 hrd21f45
      exact c_end (S := (fun x_ => St w x_ [Res.row (Value.slice Aq24 (List.length by18) cq25) 5 1 (List.length by18) (by18.map (Value.int .u8)), Res.row (Value.slice (some ⟨blk16, 0, none⟩) (List.length [hx14, hx15]) cq11) 3 1 (List.length [hx14, hx15]) ([hx14, hx15].map (Value.int .i64)), Res.box blk2 [Value.int .i64 0, Value.int .i64 0, Value.slice none 0 0, Value.int .i64 0] 32])) (rs := [.cell 4 32, .tmp 5, .tmp 6]) rfl [Value.agg #[Value.int .i64 0, Value.int .i64 0, Value.slice none 0 0, Value.int .i64 0]] (v := Value.tuple #[Value.agg #[Value.int .i64 0, Value.int .i64 0, Value.slice none 0 0, Value.int .i64 0], Value.int .i64 0, Value.bool false]) (C := ((LoadsAt Try.prog (fun x_ => St w x_ [Res.row (Value.slice Aq24 (List.length by18) cq25) 5 1 (List.length by18) (by18.map (Value.int .u8)), Res.row (Value.slice (some ⟨blk16, 0, none⟩) (List.length [hx14, hx15]) cq11) 3 1 (List.length [hx14, hx15]) ([hx14, hx15].map (Value.int .i64)), Res.box blk2 [Value.int .i64 0, Value.int .i64 0, Value.slice none 0 0, Value.int .i64 0] 32]) 32 ⟨blk2, 0, none⟩ (Value.agg #[Value.int .i64 0, Value.int .i64 0, Value.slice none 0 0, Value.int .i64 0])))) (by kernel_rfl) (ld_boxN (i := 2) (k := 4) rfl rfl rfl (by kernel_rfl)) hS46 (by rw [hR]; dsimp only; exact (hS46s6s7.eqv (by first | rfl | (rw [hcl]; done) | (simp; done) | (simp [*]; done))).rt ⟨none, 0, (by first | rfl | (rw [hcl]; done) | (simp; done) | (simp [*]; done)), rfl⟩)
  · skip
    have hrd7f47 := hrd7
    rw [hb12] at hrd7f47
    refine c_true (b := (!(do6))) (by kernel_rfl) (nb (v := false) hb12) ?_
    refine wp_seq ?_
    refine c_reg ?_
    refine q_seg (S := (fun x_ => St w x_ [Res.row (Value.slice Aq10 (List.length dl4) cq11) 3 1 (List.length dl4) (dl4.map (Value.int .i64)), Res.box blk2 [Value.int .i64 0, Value.int .i64 0, Value.slice none 0 0, Value.int .i64 0] 32])) [(22, Value.agg #[Value.int .i64 0, Value.int .i64 0, Value.slice none 0 0, Value.int .i64 0])] [.no] True (by kernel_rfl) trivial hS3 ?_
    refine l_op rfl rfl (fun K hK => op_store (d := none) rfl rfl (i := 1) (b := blk2) (off := 0) (cs := [Value.int .i64 0, Value.int .i64 0, Value.slice none 0 0, Value.int .i64 0]) (bt := 32) (by kernel_rfl) (by kernel_rfl) [Value.int .i64 0, Value.int .i64 0, Value.slice none 0 0, Value.int .i64 0] (by kernel_rfl) (by kernel_rfl) (Nat.le_of_ble_eq_true (by kernel_rfl)) (by kernel_rfl) [Res.row (Value.slice Aq10 (List.length dl4) cq11) 3 1 (List.length dl4) (dl4.map (Value.int .i64)), Res.box blk2 [Value.int .i64 0, Value.int .i64 0, Value.slice none 0 0, Value.int .i64 0] 32] (by kernel_rfl) hS3 (fun w48 hS48 => hK _ _ ?_))
    clear hK K
    refine q_seg (S := (fun x_ => St w x_ [Res.row (Value.slice Aq10 (List.length dl4) cq11) 3 1 (List.length dl4) (dl4.map (Value.int .i64)), Res.box blk2 [Value.int .i64 0, Value.int .i64 0, Value.slice none 0 0, Value.int .i64 0] 32])) [(6, Value.bool false), (5, Value.int .i64 0)] [.no, .no] True (by kernel_rfl) trivial hS48 ?_
    refine l_nil rfl ?_
    refine then_n ?_
    refine wp_ret ?_
    refine then_r ?_
    have hS48s8 : St w w48 [Res.row (Value.slice none 0 0) 5 1 0 ([]), Res.row (Value.slice Aq10 (List.length dl4) cq11) 3 1 (List.length dl4) (dl4.map (Value.int .i64)), Res.box blk2 [Value.int .i64 0, Value.int .i64 0, Value.slice none 0 0, Value.int .i64 0] 32] := hS48.nilrow 5 1
    have hS48s8s9 : St w w48 [Res.row (Value.slice none 0 0) 5 1 0 ([])] := (hS48s8.sub (List.Sublist.cons_cons _ (List.Sublist.cons _ (List.Sublist.cons _ List.Sublist.slnil))))
    have hR : rsec zs off = (0, 0, [], 0, 0, false) := rsec_1 hrd7f47
    exact c_end (S := (fun x_ => St w x_ [Res.row (Value.slice Aq10 (List.length dl4) cq11) 3 1 (List.length dl4) (dl4.map (Value.int .i64)), Res.box blk2 [Value.int .i64 0, Value.int .i64 0, Value.slice none 0 0, Value.int .i64 0] 32])) (rs := [.cell 4 32, .tmp 5, .tmp 6]) rfl [Value.agg #[Value.int .i64 0, Value.int .i64 0, Value.slice none 0 0, Value.int .i64 0]] (v := Value.tuple #[Value.agg #[Value.int .i64 0, Value.int .i64 0, Value.slice none 0 0, Value.int .i64 0], Value.int .i64 0, Value.bool false]) (C := ((LoadsAt Try.prog (fun x_ => St w x_ [Res.row (Value.slice Aq10 (List.length dl4) cq11) 3 1 (List.length dl4) (dl4.map (Value.int .i64)), Res.box blk2 [Value.int .i64 0, Value.int .i64 0, Value.slice none 0 0, Value.int .i64 0] 32]) 32 ⟨blk2, 0, none⟩ (Value.agg #[Value.int .i64 0, Value.int .i64 0, Value.slice none 0 0, Value.int .i64 0])))) (by kernel_rfl) (ld_boxN (i := 1) (k := 4) rfl rfl rfl (by kernel_rfl)) hS48 (by rw [hR]; dsimp only; exact (hS48s8s9.eqv (by first | rfl | (rw [hcl]; done) | (simp; done) | (simp [*]; done))).rt ⟨none, 0, (by first | rfl | (rw [hcl]; done) | (simp; done) | (simp [*]; done)), rfl⟩)
theorem DecodeSecured_s_c (A : Option Addr) (n c : Nat) (zs : List Int) (w : World) (hn : n ≤ 1000000000) (hz : okz .u8 zs) (hr : Rd w w.heap.size A n (zs.map (Value.int .u8))) (hnc : n ≤ c) : Calls Try.prog 65 #[.slice A n c] w (Ret w (fun v new => ∃ (A_ : Option Addr) (c_ : Nat), v = .tuple #[.agg #[.int .i64 (dsec zs).1, .int .i64 (dsec zs).2.1, .slice A_ (List.length (dsec zs).2.2.1) c_, .int .i64 (dsec zs).2.2.2.1], .bool (dsec zs).2.2.2.2] ∧ new = [Res.row (.slice A_ (List.length (dsec zs).2.2.1) c_) 5 1 (List.length (dsec zs).2.2.1) ((dsec zs).2.2.1.map (Value.int .u8))])) := by
  have hln := hr.len
  refine calls_FA Try.func65 rfl (n := 64) rfl (l := [(0, Value.slice A n c)]) rfl (by simp) (fun g => ?_)
  have hS := St.init w
  refine wp_seq ?_
  refine c_reg ?_
  refine l_op rfl rfl (fun K hK => op_alloc (d := some 2) rfl rfl [Value.int .i64 0, Value.int .i64 0, Value.slice none 0 0, Value.int .i64 0] (by kernel_rfl) hS (fun blk2 w1 hS1 => hK _ _ ?_))
  clear hK K
  refine q_seg (S := (fun x_ => St w x_ [Res.box blk2 [Value.int .i64 0, Value.int .i64 0, Value.slice none 0 0, Value.int .i64 0] 32])) [(3, Value.bool false)] [.no] True (by kernel_rfl) trivial hS1 ?_
  refine l_nil rfl ?_
  refine then_n ?_
  refine wp_seq ?_
  refine c_reg ?_
  refine q_seg (S := (fun x_ => St w x_ [Res.box blk2 [Value.int .i64 0, Value.int .i64 0, Value.slice none 0 0, Value.int .i64 0] 32])) [(15, Value.slice A n c)] [.no] True (by kernel_rfl) trivial hS1 ?_
  obtain ⟨dl4, dp5, do6, hrd7⟩ : ∃ (dl4 : List Int) (dp5 : Int) (do6 : Bool), dec2 zs (0 : Int) = (dl4, dp5, do6) := ⟨_, _, _, rfl⟩
  refine l_op rfl rfl (fun K hK => op_call (d := some 16) rfl rfl ⟨_, Try.func64, by kernel_rfl, by kernel_rfl⟩ (vs := [Value.slice A n c, Value.int .i64 0, Value.int .i64 2]) (by kernel_rfl) (DecodeInts_s_c A n c zs (0 : Int) w1 (by omega) hz (hS1.rdlow hr)) hS1 (fun v8 new9 w3 Rw3 hS3 => hK _ _ ?_))
  clear hK K
  rw [hrd7] at Rw3
  dsimp only at Rw3
  obtain ⟨Aq10, cq11, rfl, rfl⟩ := Rw3
  refine q_seg (S := (fun x_ => St w x_ [Res.row (Value.slice Aq10 (List.length dl4) cq11) 3 1 (List.length dl4) (dl4.map (Value.int .i64)), Res.box blk2 [Value.int .i64 0, Value.int .i64 0, Value.slice none 0 0, Value.int .i64 0] 32])) [(6, Value.bool do6), (5, Value.int .i64 dp5), (4, Value.slice Aq10 (List.length dl4) cq11), (19, Value.bool do6), (18, Value.int .i64 dp5), (17, Value.slice Aq10 (List.length dl4) cq11), (14, Value.tuple #[Value.slice Aq10 (List.length dl4) cq11, Value.int .i64 dp5, Value.bool do6])] [.no, .no, .no, .no, .no, .no, .no] True (by kernel_rfl) trivial hS3 ?_
  refine l_nil rfl ?_
  refine then_n ?_
  refine wp_seq ?_
  refine wp_seq ?_
  refine c_reg ?_
  refine q_seg (S := (fun x_ => St w x_ [Res.row (Value.slice Aq10 (List.length dl4) cq11) 3 1 (List.length dl4) (dl4.map (Value.int .i64)), Res.box blk2 [Value.int .i64 0, Value.int .i64 0, Value.slice none 0 0, Value.int .i64 0] 32])) [(21, Value.bool (!(do6))), (20, Value.bool do6)] [.no, .no] True (by kernel_rfl) trivial hS3 ?_
  refine l_nil rfl ?_
  refine then_n ?_
  rcases Bool.eq_false_or_eq_true (do6) with hb12 | hb12
  · skip
    have hrd7t13 := hrd7
    rw [hb12] at hrd7t13
    obtain ⟨hx14, hx15, _, hrd7t13L, _, _, hrd7t13a, hrd7t13b, hrd7t13c, hrd7t13d, hrd7t13e, hrd7t13g, hrd7t13i⟩ := dec2_ok hz hrd7t13
    subst hrd7t13L
    have hrd7t13l : List.length [hx14, hx15] = 2 := rfl
    obtain ⟨blk16, rfl⟩ := hS3.row_at (List.mem_of_getElem? (i := 0) rfl) (by omega)
    refine c_false (b := (!(do6))) (by kernel_rfl) (nb (v := true) hb12) ?_
    refine wp_skip ?_
    refine then_n ?_
    refine wp_seq ?_
    refine c_reg ?_
    refine q_seg (S := (fun x_ => St w x_ [Res.row (Value.slice (some ⟨blk16, 0, none⟩) (List.length [hx14, hx15]) cq11) 3 1 (List.length [hx14, hx15]) ([hx14, hx15].map (Value.int .i64)), Res.box blk2 [Value.int .i64 0, Value.int .i64 0, Value.slice none 0 0, Value.int .i64 0] 32])) [(25, Value.int .i64 dp5), (24, Value.slice A n c)] [.no, .no] True (by kernel_rfl) trivial hS3 ?_
    obtain ⟨by18, bp19, bo20, hrd21⟩ : ∃ (by18 : List Int) (bp19 : Int) (bo20 : Bool), rby zs dp5 (60 : Int) = (by18, bp19, bo20) := ⟨_, _, _, rfl⟩
    refine l_op rfl rfl (fun K hK => op_call (d := some 26) rfl rfl ⟨_, Try.func96, by kernel_rfl, by kernel_rfl⟩ (vs := [Value.slice A n c, Value.int .i64 dp5, Value.int .i64 60]) (by kernel_rfl) (ReadBytes_s_c A n c zs dp5 (60 : Int) w3 (by omega) hz (hS3.rdlow hr) (by omega)) hS3 (fun v22 new23 w17 Rw17 hS17 => hK _ _ ?_))
    clear hK K
    rw [hrd21] at Rw17
    dsimp only at Rw17
    obtain ⟨Aq24, cq25, rfl, rfl⟩ := Rw17
    refine q_seg (S := (fun x_ => St w x_ [Res.row (Value.slice Aq24 (List.length by18) cq25) 5 1 (List.length by18) (by18.map (Value.int .u8)), Res.row (Value.slice (some ⟨blk16, 0, none⟩) (List.length [hx14, hx15]) cq11) 3 1 (List.length [hx14, hx15]) ([hx14, hx15].map (Value.int .i64)), Res.box blk2 [Value.int .i64 0, Value.int .i64 0, Value.slice none 0 0, Value.int .i64 0] 32])) [(9, Value.bool bo20), (8, Value.int .i64 bp19), (7, Value.slice Aq24 (List.length by18) cq25), (29, Value.bool bo20), (28, Value.int .i64 bp19), (27, Value.slice Aq24 (List.length by18) cq25), (23, Value.tuple #[Value.slice Aq24 (List.length by18) cq25, Value.int .i64 bp19, Value.bool bo20])] [.no, .no, .no, .no, .no, .no, .no] True (by kernel_rfl) trivial hS17 ?_
    refine l_nil rfl ?_
    refine then_n ?_
    refine wp_seq ?_
    refine wp_seq ?_
    refine c_reg ?_
    refine q_seg (S := (fun x_ => St w x_ [Res.row (Value.slice Aq24 (List.length by18) cq25) 5 1 (List.length by18) (by18.map (Value.int .u8)), Res.row (Value.slice (some ⟨blk16, 0, none⟩) (List.length [hx14, hx15]) cq11) 3 1 (List.length [hx14, hx15]) ([hx14, hx15].map (Value.int .i64)), Res.box blk2 [Value.int .i64 0, Value.int .i64 0, Value.slice none 0 0, Value.int .i64 0] 32])) [(31, Value.bool (!(bo20))), (30, Value.bool bo20)] [.no, .no] True (by kernel_rfl) trivial hS17 ?_
    refine l_nil rfl ?_
    refine then_n ?_
    rcases Bool.eq_false_or_eq_true (bo20) with hb26 | hb26
    · skip
      have hrd21t27 := hrd21
      rw [hb26] at hrd21t27
      obtain ⟨hrd21t27a, hrd21t27b, hrd21t27c, hrd21t27d, hrd21t27e, _⟩ := rby_ok hz hrd21t27
      refine c_false (b := (!(bo20))) (by kernel_rfl) (nb (v := true) hb26) ?_
      refine wp_skip ?_
      refine then_n ?_
      refine wp_seq ?_
      refine c_reg ?_
      refine q_seg (S := (fun x_ => St w x_ [Res.row (Value.slice Aq24 (List.length by18) cq25) 5 1 (List.length by18) (by18.map (Value.int .u8)), Res.row (Value.slice (some ⟨blk16, 0, none⟩) (List.length [hx14, hx15]) cq11) 3 1 (List.length [hx14, hx15]) ([hx14, hx15].map (Value.int .i64)), Res.box blk2 [Value.int .i64 0, Value.int .i64 0, Value.slice none 0 0, Value.int .i64 0] 32])) [(35, Value.int .i64 bp19), (34, Value.slice A n c)] [.no, .no] True (by kernel_rfl) trivial hS17 ?_
      obtain ⟨rn29, rp30, ro31, hrd32⟩ : ∃ (rn29 : Int) (rp30 : Int) (ro31 : Bool), rv zs bp19 = (rn29, rp30, ro31) := ⟨_, _, _, rfl⟩
      refine l_op rfl rfl (fun K hK => op_callv (d := some 36) rfl rfl ⟨_, Try.func95, by kernel_rfl, by kernel_rfl⟩ (vs := [Value.slice A n c, Value.int .i64 bp19]) (by kernel_rfl) (v := Value.tuple #[Value.int .i64 rn29, Value.int .i64 rp30, Value.bool ro31]) ((by have h_ := ReadUvarint_s_c A n c zs bp19 w17 (by omega) hz (hS17.rdlow hr); rw [hrd32] at h_; exact h_)) hS17 (fun w28 hS28 => hK _ _ ?_))
      clear hK K
      refine q_seg (S := (fun x_ => St w x_ [Res.row (Value.slice Aq24 (List.length by18) cq25) 5 1 (List.length by18) (by18.map (Value.int .u8)), Res.row (Value.slice (some ⟨blk16, 0, none⟩) (List.length [hx14, hx15]) cq11) 3 1 (List.length [hx14, hx15]) ([hx14, hx15].map (Value.int .i64)), Res.box blk2 [Value.int .i64 0, Value.int .i64 0, Value.slice none 0 0, Value.int .i64 0] 32])) [(12, Value.bool ro31), (11, Value.int .i64 rp30), (10, Value.int .i64 rn29), (39, Value.bool ro31), (38, Value.int .i64 rp30), (37, Value.int .i64 rn29), (33, Value.tuple #[Value.int .i64 rn29, Value.int .i64 rp30, Value.bool ro31])] [.no, .no, .no, .no, .no, .no, .no] True (by kernel_rfl) trivial hS28 ?_
      refine l_nil rfl ?_
      refine then_n ?_
      refine wp_seq ?_
      refine c_drawn [] (by kernel_rfl) hS28 (fun w33 hS33 => ?_)
      refine t_seg (S := (fun x_ => St w x_ [Res.row (Value.slice Aq24 (List.length by18) cq25) 5 1 (List.length by18) (by18.map (Value.int .u8)), Res.row (Value.slice (some ⟨blk16, 0, none⟩) (List.length [hx14, hx15]) cq11) 3 1 (List.length [hx14, hx15]) ([hx14, hx15].map (Value.int .i64)), Res.box blk2 [Value.int .i64 0, Value.int .i64 0, Value.slice none 0 0, Value.int .i64 0] 32])) [(0, .no), (3, .no), (6, .no), (7, .no), (1, .no), (4, .no), (2, .v (Value.int .i64 hx14)), (5, .v (Value.int .i64 hx15)), (8, .no)] 2 #[true, true, true, true, true, true, true, true, true, false, false] [(48, Value.agg #[Value.int .i64 hx14, Value.int .i64 hx15, Value.slice Aq24 (List.length by18) cq25, Value.int .i64 rn29]), (45, Value.int .i64 hx15), (42, Value.int .i64 hx14), (44, Value.pointer (some ⟨blk16, 0 + Int.toNat 1 * 1, none⟩)), (41, Value.pointer (some ⟨blk16, 0 + Int.toNat 0 * 1, none⟩)), (47, Value.int .i64 rn29), (46, Value.slice Aq24 (List.length by18) cq25), (43, Value.slice (some ⟨blk16, 0, none⟩) (List.length [hx14, hx15]) cq11), (40, Value.slice (some ⟨blk16, 0, none⟩) (List.length [hx14, hx15]) cq11)] (((0 : Int) ≤ 0) ∧ (0 < (((List.length [hx14, hx15]) : Nat) : Int)) ∧ ((0 : Int) ≤ 1) ∧ (1 < (((List.length [hx14, hx15]) : Nat) : Int)) ∧ (LoadsAt Try.prog (fun x_ => St w x_ [Res.row (Value.slice Aq24 (List.length by18) cq25) 5 1 (List.length by18) (by18.map (Value.int .u8)), Res.row (Value.slice (some ⟨blk16, 0, none⟩) (List.length [hx14, hx15]) cq11) 3 1 (List.length [hx14, hx15]) ([hx14, hx15].map (Value.int .i64)), Res.box blk2 [Value.int .i64 0, Value.int .i64 0, Value.slice none 0 0, Value.int .i64 0] 32]) 3 ⟨blk16, 0 + Int.toNat 0 * 1, none⟩ (Value.int .i64 hx14)) ∧ (LoadsAt Try.prog (fun x_ => St w x_ [Res.row (Value.slice Aq24 (List.length by18) cq25) 5 1 (List.length by18) (by18.map (Value.int .u8)), Res.row (Value.slice (some ⟨blk16, 0, none⟩) (List.length [hx14, hx15]) cq11) 3 1 (List.length [hx14, hx15]) ([hx14, hx15].map (Value.int .i64)), Res.box blk2 [Value.int .i64 0, Value.int .i64 0, Value.slice none 0 0, Value.int .i64 0] 32]) 3 ⟨blk16, 0 + Int.toNat 1 * 1, none⟩ (Value.int .i64 hx15))) (by kernel_rfl) (Qpanic.then Qpanic.bp) rfl (by kernel_rfl) ⟨(by omega), (by omega), (by omega), (by omega), (ld_row (i := 1) rfl rfl (by kernel_rfl)), (ld_row (i := 1) rfl rfl (by kernel_rfl))⟩ hS33 ?_
      refine a_op (i := 9) (fuel := 1) (listed' := #[true, true, true, true, true, true, true, true, true, true, false]) rfl rfl (by kernel_rfl) (by kernel_rfl) rfl (fun K hK => op_alloc (d := some 13) rfl rfl [Value.int .i64 0, Value.int .i64 0, Value.slice none 0 0, Value.int .i64 0] (by kernel_rfl) hS33 (fun blk35 w34 hS34 => hK _ _ (fun _ => hS34.drop) ?_))
      clear hK K
      refine a_op (i := 10) (fuel := 0) (listed' := #[true, true, true, true, true, true, true, true, true, true, true]) rfl rfl (by kernel_rfl) (by kernel_rfl) rfl (fun K hK => op_store (d := none) rfl rfl (i := 0) (b := blk35) (off := 0) (cs := [Value.int .i64 0, Value.int .i64 0, Value.slice none 0 0, Value.int .i64 0]) (bt := 32) (by kernel_rfl) (by kernel_rfl) [Value.int .i64 hx14, Value.int .i64 hx15, Value.slice Aq24 (List.length by18) cq25, Value.int .i64 rn29] (by kernel_rfl) (by kernel_rfl) (Nat.le_of_ble_eq_true (by kernel_rfl)) (by kernel_rfl) [Res.box blk35 [Value.int .i64 hx14, Value.int .i64 hx15, Value.slice Aq24 (List.length by18) cq25, Value.int .i64 rn29] 32, Res.row (Value.slice Aq24 (List.length by18) cq25) 5 1 (List.length by18) (by18.map (Value.int .u8)), Res.row (Value.slice (some ⟨blk16, 0, none⟩) (List.length [hx14, hx15]) cq11) 3 1 (List.length [hx14, hx15]) ([hx14, hx15].map (Value.int .i64)), Res.box blk2 [Value.int .i64 0, Value.int .i64 0, Value.slice none 0 0, Value.int .i64 0] 32] (by kernel_rfl) hS34 (fun w36 hS36 => hK _ _ (fun _ => hS36.drop) ?_))
      clear hK K
      refine a_done (by kernel_rfl) ?_
      refine then_n ?_
      refine wp_seq ?_
      refine wp_seq ?_
      refine c_reg ?_
      refine q_seg (S := (fun x_ => St w x_ [Res.box blk35 [Value.int .i64 hx14, Value.int .i64 hx15, Value.slice Aq24 (List.length by18) cq25, Value.int .i64 rn29] 32, Res.row (Value.slice Aq24 (List.length by18) cq25) 5 1 (List.length by18) (by18.map (Value.int .u8)), Res.row (Value.slice (some ⟨blk16, 0, none⟩) (List.length [hx14, hx15]) cq11) 3 1 (List.length [hx14, hx15]) ([hx14, hx15].map (Value.int .i64)), Res.box blk2 [Value.int .i64 0, Value.int .i64 0, Value.slice none 0 0, Value.int .i64 0] 32])) [(51, Value.bool (!(ro31))), (50, Value.bool (!(ro31))), (49, Value.bool ro31)] [.no, .no, .no] True (by kernel_rfl) trivial hS36 ?_
      rcases Bool.eq_false_or_eq_true (ro31) with hb37 | hb37
      · skip
        have hrd32t38 := hrd32
        rw [hb37] at hrd32t38
        obtain ⟨hrd32t38a, hrd32t38b, hrd32t38c, hrd32t38d, hrd32t38e, hrd32t38g⟩ := rv_bd hz hrd32t38
        refine q_seg (S := (fun x_ => St w x_ [Res.box blk35 [Value.int .i64 hx14, Value.int .i64 hx15, Value.slice Aq24 (List.length by18) cq25, Value.int .i64 rn29] 32, Res.row (Value.slice Aq24 (List.length by18) cq25) 5 1 (List.length by18) (by18.map (Value.int .u8)), Res.row (Value.slice (some ⟨blk16, 0, none⟩) (List.length [hx14, hx15]) cq11) 3 1 (List.length [hx14, hx15]) ([hx14, hx15].map (Value.int .i64)), Res.box blk2 [Value.int .i64 0, Value.int .i64 0, Value.slice none 0 0, Value.int .i64 0] 32])) [(57, Value.bool (!(decide (rp30 = ((n : Nat) : Int))))), (56, Value.bool (!(decide (rp30 = ((n : Nat) : Int))))), (55, Value.bool (!(decide (rp30 = ((n : Nat) : Int))))), (54, Value.int .i64 ((n : Nat) : Int)), (53, Value.slice A n c), (52, Value.int .i64 rp30)] [.no, .no, .no, .no, .v (.bool false), .no] (((!(ro31)) = false) ∧ ((!(ro31)) = false) ∧ ((!(ro31)) = false) ∧ ((!(ro31)) = false) ∧ ((!(ro31)) = false)) (by kernel_rfl) ⟨(nb (v := true) hb37), (nb (v := true) hb37), (nb (v := true) hb37), (nb (v := true) hb37), (nb (v := true) hb37)⟩ hS36 ?_
        rcases Bool.eq_false_or_eq_true (decide (rp30 = ((n : Nat) : Int))) with hb39 | hb39
        · skip
          have hb39p := of_decide_eq_true hb39
          refine q_seg (S := (fun x_ => St w x_ [Res.box blk35 [Value.int .i64 hx14, Value.int .i64 hx15, Value.slice Aq24 (List.length by18) cq25, Value.int .i64 rn29] 32, Res.row (Value.slice Aq24 (List.length by18) cq25) 5 1 (List.length by18) (by18.map (Value.int .u8)), Res.row (Value.slice (some ⟨blk16, 0, none⟩) (List.length [hx14, hx15]) cq11) 3 1 (List.length [hx14, hx15]) ([hx14, hx15].map (Value.int .i64)), Res.box blk2 [Value.int .i64 0, Value.int .i64 0, Value.slice none 0 0, Value.int .i64 0] 32])) [(58, Value.agg #[Value.int .i64 hx14, Value.int .i64 hx15, Value.slice Aq24 (List.length by18) cq25, Value.int .i64 rn29])] [.v (Value.agg #[Value.int .i64 hx14, Value.int .i64 hx15, Value.slice Aq24 (List.length by18) cq25, Value.int .i64 rn29])] (((!(decide (rp30 = ((n : Nat) : Int)))) = false) ∧ (LoadsAt Try.prog (fun x_ => St w x_ [Res.box blk35 [Value.int .i64 hx14, Value.int .i64 hx15, Value.slice Aq24 (List.length by18) cq25, Value.int .i64 rn29] 32, Res.row (Value.slice Aq24 (List.length by18) cq25) 5 1 (List.length by18) (by18.map (Value.int .u8)), Res.row (Value.slice (some ⟨blk16, 0, none⟩) (List.length [hx14, hx15]) cq11) 3 1 (List.length [hx14, hx15]) ([hx14, hx15].map (Value.int .i64)), Res.box blk2 [Value.int .i64 0, Value.int .i64 0, Value.slice none 0 0, Value.int .i64 0] 32]) 32 ⟨blk35, 0, none⟩ (Value.agg #[Value.int .i64 hx14, Value.int .i64 hx15, Value.slice Aq24 (List.length by18) cq25, Value.int .i64 rn29]))) (by kernel_rfl) ⟨(nb (v := true) hb39), (ld_boxN (i := 0) (k := 4) rfl rfl rfl (by kernel_rfl))⟩ hS36 ?_
          refine l_opg rfl (b := (!(decide (rp30 = ((n : Nat) : Int))))) (want := false) (by kernel_rfl) (nb (v := true) hb39) (fun K hK => op_callv (d := some 59) rfl rfl ⟨_, Try.func28, by kernel_rfl, by kernel_rfl⟩ (vs := [Value.agg #[Value.int .i64 hx14, Value.int .i64 hx15, Value.slice Aq24 (List.length by18) cq25, Value.int .i64 rn29]]) (by kernel_rfl) (v := Value.bool (vsec hx14 hx15 (List.length by18) rn29)) (IsValidSecured_s_c hx14 hx15 Aq24 (List.length by18) cq25 rn29 w36 (by omega)) hS36 (fun w40 hS40 => hK _ _ ?_))
          clear hK K
          refine q_seg (S := (fun x_ => St w x_ [Res.box blk35 [Value.int .i64 hx14, Value.int .i64 hx15, Value.slice Aq24 (List.length by18) cq25, Value.int .i64 rn29] 32, Res.row (Value.slice Aq24 (List.length by18) cq25) 5 1 (List.length by18) (by18.map (Value.int .u8)), Res.row (Value.slice (some ⟨blk16, 0, none⟩) (List.length [hx14, hx15]) cq11) 3 1 (List.length [hx14, hx15]) ([hx14, hx15].map (Value.int .i64)), Res.box blk2 [Value.int .i64 0, Value.int .i64 0, Value.slice none 0 0, Value.int .i64 0] 32])) [(61, Value.bool (!(vsec hx14 hx15 (List.length by18) rn29))), (60, Value.bool (!(vsec hx14 hx15 (List.length by18) rn29)))] [.no, .v (.bool false)] (((!(decide (rp30 = ((n : Nat) : Int)))) = false) ∧ ((!(decide (rp30 = ((n : Nat) : Int)))) = false)) (by kernel_rfl) ⟨(nb (v := true) hb39), (nb (v := true) hb39)⟩ hS40 ?_
          refine l_nil rfl ?_
          refine then_n ?_
          rcases Bool.eq_false_or_eq_true (vsec hx14 hx15 (List.length by18) rn29) with hb41 | hb41
          · skip
            refine c_false (b := (!(vsec hx14 hx15 (List.length by18) rn29))) (by kernel_rfl) (nb (v := true) hb41) ?_
            refine wp_skip ?_
            refine then_n ?_
            refine wp_seq ?_
            refine c_reg ?_
            refine q_seg (S := (fun x_ => St w x_ [Res.box blk35 [Value.int .i64 hx14, Value.int .i64 hx15, Value.slice Aq24 (List.length by18) cq25, Value.int .i64 rn29] 32, Res.row (Value.slice Aq24 (List.length by18) cq25) 5 1 (List.length by18) (by18.map (Value.int .u8)), Res.row (Value.slice (some ⟨blk16, 0, none⟩) (List.length [hx14, hx15]) cq11) 3 1 (List.length [hx14, hx15]) ([hx14, hx15].map (Value.int .i64)), Res.box blk2 [Value.int .i64 0, Value.int .i64 0, Value.slice none 0 0, Value.int .i64 0] 32])) [(63, Value.agg #[Value.int .i64 hx14, Value.int .i64 hx15, Value.slice Aq24 (List.length by18) cq25, Value.int .i64 rn29])] [.v (Value.agg #[Value.int .i64 hx14, Value.int .i64 hx15, Value.slice Aq24 (List.length by18) cq25, Value.int .i64 rn29])] ((LoadsAt Try.prog (fun x_ => St w x_ [Res.box blk35 [Value.int .i64 hx14, Value.int .i64 hx15, Value.slice Aq24 (List.length by18) cq25, Value.int .i64 rn29] 32, Res.row (Value.slice Aq24 (List.length by18) cq25) 5 1 (List.length by18) (by18.map (Value.int .u8)), Res.row (Value.slice (some ⟨blk16, 0, none⟩) (List.length [hx14, hx15]) cq11) 3 1 (List.length [hx14, hx15]) ([hx14, hx15].map (Value.int .i64)), Res.box blk2 [Value.int .i64 0, Value.int .i64 0, Value.slice none 0 0, Value.int .i64 0] 32]) 32 ⟨blk35, 0, none⟩ (Value.agg #[Value.int .i64 hx14, Value.int .i64 hx15, Value.slice Aq24 (List.length by18) cq25, Value.int .i64 rn29]))) (by kernel_rfl) (ld_boxN (i := 0) (k := 4) rfl rfl rfl (by kernel_rfl)) hS40 ?_
            refine l_op rfl rfl (fun K hK => op_store (d := none) rfl rfl (i := 3) (b := blk2) (off := 0) (cs := [Value.int .i64 0, Value.int .i64 0, Value.slice none 0 0, Value.int .i64 0]) (bt := 32) (by kernel_rfl) (by kernel_rfl) [Value.int .i64 hx14, Value.int .i64 hx15, Value.slice Aq24 (List.length by18) cq25, Value.int .i64 rn29] (by kernel_rfl) (by kernel_rfl) (Nat.le_of_ble_eq_true (by kernel_rfl)) (by kernel_rfl) [Res.box blk35 [Value.int .i64 hx14, Value.int .i64 hx15, Value.slice Aq24 (List.length by18) cq25, Value.int .i64 rn29] 32, Res.row (Value.slice Aq24 (List.length by18) cq25) 5 1 (List.length by18) (by18.map (Value.int .u8)), Res.row (Value.slice (some ⟨blk16, 0, none⟩) (List.length [hx14, hx15]) cq11) 3 1 (List.length [hx14, hx15]) ([hx14, hx15].map (Value.int .i64)), Res.box blk2 [Value.int .i64 hx14, Value.int .i64 hx15, Value.slice Aq24 (List.length by18) cq25, Value.int .i64 rn29] 32] (by kernel_rfl) hS40 (fun w42 hS42 => hK _ _ ?_))
            clear hK K
            refine q_seg (S := (fun x_ => St w x_ [Res.box blk35 [Value.int .i64 hx14, Value.int .i64 hx15, Value.slice Aq24 (List.length by18) cq25, Value.int .i64 rn29] 32, Res.row (Value.slice Aq24 (List.length by18) cq25) 5 1 (List.length by18) (by18.map (Value.int .u8)), Res.row (Value.slice (some ⟨blk16, 0, none⟩) (List.length [hx14, hx15]) cq11) 3 1 (List.length [hx14, hx15]) ([hx14, hx15].map (Value.int .i64)), Res.box blk2 [Value.int .i64 hx14, Value.int .i64 hx15, Value.slice Aq24 (List.length by18) cq25, Value.int .i64 rn29] 32])) [(3, Value.bool true)] [.no] True (by kernel_rfl) trivial hS42 ?_
            refine l_nil rfl ?_
            refine then_n ?_
            refine wp_ret ?_
            have hS42s1 : St w w42 [Res.row (Value.slice Aq24 (List.length by18) cq25) 5 1 (List.length by18) (by18.map (Value.int .u8))] := (hS42.sub (List.Sublist.cons _ (List.Sublist.cons_cons _ (List.Sublist.cons _ (List.Sublist.cons _ List.Sublist.slnil)))))
            have hR : dsec zs = (hx14, hx15, by18, rn29, true) := dsec_3 (rsec_5 hrd7t13 hrd21t27 hrd32t38 hb41) (by omega)
            exact c_end (S := (fun x_ => St w x_ [Res.box blk35 [Value.int .i64 hx14, Value.int .i64 hx15, Value.slice Aq24 (List.length by18) cq25, Value.int .i64 rn29] 32, Res.row (Value.slice Aq24 (List.length by18) cq25) 5 1 (List.length by18) (by18.map (Value.int .u8)), Res.row (Value.slice (some ⟨blk16, 0, none⟩) (List.length [hx14, hx15]) cq11) 3 1 (List.length [hx14, hx15]) ([hx14, hx15].map (Value.int .i64)), Res.box blk2 [Value.int .i64 hx14, Value.int .i64 hx15, Value.slice Aq24 (List.length by18) cq25, Value.int .i64 rn29] 32])) (rs := [.cell 2 32, .tmp 3]) rfl [Value.agg #[Value.int .i64 hx14, Value.int .i64 hx15, Value.slice Aq24 (List.length by18) cq25, Value.int .i64 rn29]] (v := Value.tuple #[Value.agg #[Value.int .i64 hx14, Value.int .i64 hx15, Value.slice Aq24 (List.length by18) cq25, Value.int .i64 rn29], Value.bool true]) (C := ((LoadsAt Try.prog (fun x_ => St w x_ [Res.box blk35 [Value.int .i64 hx14, Value.int .i64 hx15, Value.slice Aq24 (List.length by18) cq25, Value.int .i64 rn29] 32, Res.row (Value.slice Aq24 (List.length by18) cq25) 5 1 (List.length by18) (by18.map (Value.int .u8)), Res.row (Value.slice (some ⟨blk16, 0, none⟩) (List.length [hx14, hx15]) cq11) 3 1 (List.length [hx14, hx15]) ([hx14, hx15].map (Value.int .i64)), Res.box blk2 [Value.int .i64 hx14, Value.int .i64 hx15, Value.slice Aq24 (List.length by18) cq25, Value.int .i64 rn29] 32]) 32 ⟨blk2, 0, none⟩ (Value.agg #[Value.int .i64 hx14, Value.int .i64 hx15, Value.slice Aq24 (List.length by18) cq25, Value.int .i64 rn29])))) (by kernel_rfl) (ld_boxN (i := 3) (k := 4) rfl rfl rfl (by kernel_rfl)) hS42 (by rw [hR]; dsimp only; exact (hS42s1.eqv (by first | rfl | (rw [hcl]; done) | (simp; done) | (simp [*]; done))).rt ⟨Aq24, cq25, (by first | rfl | (rw [hcl]; done) | (simp; done) | (simp [*]; done)), rfl⟩)
          · skip
            refine c_true (b := (!(vsec hx14 hx15 (List.length by18) rn29))) (by kernel_rfl) (nb (v := false) hb41) ?_
            refine wp_seq ?_
            refine c_reg ?_
            refine q_seg (S := (fun x_ => St w x_ [Res.box blk35 [Value.int .i64 hx14, Value.int .i64 hx15, Value.slice Aq24 (List.length by18) cq25, Value.int .i64 rn29] 32, Res.row (Value.slice Aq24 (List.length by18) cq25) 5 1 (List.length by18) (by18.map (Value.int .u8)), Res.row (Value.slice (some ⟨blk16, 0, none⟩) (List.length [hx14, hx15]) cq11) 3 1 (List.length [hx14, hx15]) ([hx14, hx15].map (Value.int .i64)), Res.box blk2 [Value.int .i64 0, Value.int .i64 0, Value.slice none 0 0, Value.int .i64 0] 32])) [(62, Value.agg #[Value.int .i64 0, Value.int .i64 0, Value.slice none 0 0, Value.int .i64 0])] [.no] True (by kernel_rfl) trivial hS40 ?_
            refine l_op rfl rfl (fun K hK => op_store (d := none) rfl rfl (i := 3) (b := blk2) (off := 0) (cs := [Value.int .i64 0, Value.int .i64 0, Value.slice none 0 0, Value.int .i64 0]) (bt := 32) (by kernel_rfl) (by kernel_rfl) [Value.int .i64 0, Value.int .i64 0, Value.slice none 0 0, Value.int .i64 0] (by kernel_rfl) (by kernel_rfl) (Nat.le_of_ble_eq_true (by kernel_rfl)) (by kernel_rfl) [Res.box blk35 [Value.int .i64 hx14, Value.int .i64 hx15, Value.slice Aq24 (List.length by18) cq25, Value.int .i64 rn29] 32, Res.row (Value.slice Aq24 (List.length by18) cq25) 5 1 (List.length by18) (by18.map (Value.int .u8)), Res.row (Value.slice (some ⟨blk16, 0, none⟩) (List.length [hx14, hx15]) cq11) 3 1 (List.length [hx14, hx15]) ([hx14, hx15].map (Value.int .i64)), Res.box blk2 [Value.int .i64 0, Value.int .i64 0, Value.slice none 0 0, Value.int .i64 0] 32] (by kernel_rfl) hS40 (fun w43 hS43 => hK _ _ ?_))
            clear hK K
            refine q_seg (S := (fun x_ => St w x_ [Res.box blk35 [Value.int .i64 hx14, Value.int .i64 hx15, Value.slice Aq24 (List.length by18) cq25, Value.int .i64 rn29] 32, Res.row (Value.slice Aq24 (List.length by18) cq25) 5 1 (List.length by18) (by18.map (Value.int .u8)), Res.row (Value.slice (some ⟨blk16, 0, none⟩) (List.length [hx14, hx15]) cq11) 3 1 (List.length [hx14, hx15]) ([hx14, hx15].map (Value.int .i64)), Res.box blk2 [Value.int .i64 0, Value.int .i64 0, Value.slice none 0 0, Value.int .i64 0] 32])) [(3, Value.bool false)] [.no] True (by kernel_rfl) trivial hS43 ?_
            refine l_nil rfl ?_
            refine then_n ?_
            refine wp_ret ?_
            refine then_r ?_
            have hS43s2 : St w w43 [Res.row (Value.slice none 0 0) 5 1 0 ([]), Res.box blk35 [Value.int .i64 hx14, Value.int .i64 hx15, Value.slice Aq24 (List.length by18) cq25, Value.int .i64 rn29] 32, Res.row (Value.slice Aq24 (List.length by18) cq25) 5 1 (List.length by18) (by18.map (Value.int .u8)), Res.row (Value.slice (some ⟨blk16, 0, none⟩) (List.length [hx14, hx15]) cq11) 3 1 (List.length [hx14, hx15]) ([hx14, hx15].map (Value.int .i64)), Res.box blk2 [Value.int .i64 0, Value.int .i64 0, Value.slice none 0 0, Value.int .i64 0] 32] := hS43.nilrow 5 1
            have hS43s2s3 : St w w43 [Res.row (Value.slice none 0 0) 5 1 0 ([])] := (hS43s2.sub (List.Sublist.cons_cons _ (List.Sublist.cons _ (List.Sublist.cons _ (List.Sublist.cons _ (List.Sublist.cons _ List.Sublist.slnil))))))
            have hR : dsec zs = (0, 0, [], 0, false) := dsec_1 (rsec_4 hrd7t13 hrd21t27 hrd32t38 hb41)
            exact c_end (S := (fun x_ => St w x_ [Res.box blk35 [Value.int .i64 hx14, Value.int .i64 hx15, Value.slice Aq24 (List.length by18) cq25, Value.int .i64 rn29] 32, Res.row (Value.slice Aq24 (List.length by18) cq25) 5 1 (List.length by18) (by18.map (Value.int .u8)), Res.row (Value.slice (some ⟨blk16, 0, none⟩) (List.length [hx14, hx15]) cq11) 3 1 (List.length [hx14, hx15]) ([hx14, hx15].map (Value.int .i64)), Res.box blk2 [Value.int .i64 0, Value.int .i64 0, Value.slice none 0 0, Value.int .i64 0] 32])) (rs := [.cell 2 32, .tmp 3]) rfl [Value.agg #[Value.int .i64 0, Value.int .i64 0, Value.slice none 0 0, Value.int .i64 0]] (v := Value.tuple #[Value.agg #[Value.int .i64 0, Value.int .i64 0, Value.slice none 0 0, Value.int .i64 0], Value.bool false]) (C := ((LoadsAt Try.prog (fun x_ => St w x_ [Res.box blk35 [Value.int .i64 hx14, Value.int .i64 hx15, Value.slice Aq24 (List.length by18) cq25, Value.int .i64 rn29] 32, Res.row (Value.slice Aq24 (List.length by18) cq25) 5 1 (List.length by18) (by18.map (Value.int .u8)), Res.row (Value.slice (some ⟨blk16, 0, none⟩) (List.length [hx14, hx15]) cq11) 3 1 (List.length [hx14, hx15]) ([hx14, hx15].map (Value.int .i64)), Res.box blk2 [Value.int .i64 0, Value.int .i64 0, Value.slice none 0 0, Value.int .i64 0] 32]) 32 ⟨blk2, 0, none⟩ (Value.agg #[Value.int .i64 0, Value.int .i64 0, Value.slice none 0 0, Value.int .i64 0])))) (by kernel_rfl) (ld_boxN (i := 3) (k := 4) rfl rfl rfl (by kernel_rfl)) hS43 (by rw [hR]; dsimp only; exact (hS43s2s3.eqv (by first | rfl | (rw [hcl]; done) | (simp; done) | (simp [*]; done))).rt ⟨none, 0, (by first | rfl | (rw [hcl]; done) | (simp; done) | (simp [*]; done)), rfl⟩)
        · skip
          have hb39p := of_decide_eq_false hb39
          refine q_seg (S := (fun x_ => St w x_ [Res.box blk35 [Value.int .i64 hx14, Value.int .i64 hx15, Value.slice Aq24 (List.length by18) cq25, Value.int .i64 rn29] 32, Res.row (Value.slice Aq24 (List.length by18) cq25) 5 1 (List.length by18) (by18.map (Value.int .u8)), Res.row (Value.slice (some ⟨blk16, 0, none⟩) (List.length [hx14, hx15]) cq11) 3 1 (List.length [hx14, hx15]) ([hx14, hx15].map (Value.int .i64)), Res.box blk2 [Value.int .i64 0, Value.int .i64 0, Value.slice none 0 0, Value.int .i64 0] 32])) [(61, Value.bool true), (60, undef), (59, undef), (58, undef)] [.skip, .skip, .skip, .v (.bool true)] (((!(decide (rp30 = ((n : Nat) : Int)))) = !false) ∧ ((!(decide (rp30 = ((n : Nat) : Int)))) = !false) ∧ ((!(decide (rp30 = ((n : Nat) : Int)))) = !false) ∧ ((!(decide (rp30 = ((n : Nat) : Int)))) = true)) (by kernel_rfl) ⟨(nb (v := false) hb39), (nb (v := false) hb39), (nb (v := false) hb39), (nb (v := false) hb39)⟩ hS36 ?_
          refine l_nil rfl ?_
          refine then_n ?_
          refine c_true (b := true) (by kernel_rfl) rfl ?_
          refine wp_seq ?_
          refine c_reg ?_
          refine q_seg (S := (fun x_ => St w x_ [Res.box blk35 [Value.int .i64 hx14, Value.int .i64 hx15, Value.slice Aq24 (List.length by18) cq25, Value.int .i64 rn29] 32, Res.row (Value.slice Aq24 (List.length by18) cq25) 5 1 (List.length by18) (by18.map (Value.int .u8)), Res.row (Value.slice (some ⟨blk16, 0, none⟩) (List.length [hx14, hx15]) cq11) 3 1 (List.length [hx14, hx15]) ([hx14, hx15].map (Value.int .i64)), Res.box blk2 [Value.int .i64 0, Value.int .i64 0, Value.slice none 0 0, Value.int .i64 0] 32])) [(62, Value.agg #[Value.int .i64 0, Value.int .i64 0, Value.slice none 0 0, Value.int .i64 0])] [.no] True (by kernel_rfl) trivial hS36 ?_
          refine l_op rfl rfl (fun K hK => op_store (d := none) rfl rfl (i := 3) (b := blk2) (off := 0) (cs := [Value.int .i64 0, Value.int .i64 0, Value.slice none 0 0, Value.int .i64 0]) (bt := 32) (by kernel_rfl) (by kernel_rfl) [Value.int .i64 0, Value.int .i64 0, Value.slice none 0 0, Value.int .i64 0] (by kernel_rfl) (by kernel_rfl) (Nat.le_of_ble_eq_true (by kernel_rfl)) (by kernel_rfl) [Res.box blk35 [Value.int .i64 hx14, Value.int .i64 hx15, Value.slice Aq24 (List.length by18) cq25, Value.int .i64 rn29] 32, Res.row (Value.slice Aq24 (List.length by18) cq25) 5 1 (List.length by18) (by18.map (Value.int .u8)), Res.row (Value.slice (some ⟨blk16, 0, none⟩) (List.length [hx14, hx15]) cq11) 3 1 (List.length [hx14, hx15]) ([hx14, hx15].map (Value.int .i64)), Res.box blk2 [Value.int .i64 0, Value.int .i64 0, Value.slice none 0 0, Value.int .i64 0] 32] (by kernel_rfl) hS36 (fun w44 hS44 => hK _ _ ?_))
          clear hK K
          refine q_seg (S := (fun x_ => St w x_ [Res.box blk35 [Value.int .i64 hx14, Value.int .i64 hx15, Value.slice Aq24 (List.length by18) cq25, Value.int .i64 rn29] 32, Res.row (Value.slice Aq24 (List.length by18) cq25) 5 1 (List.length by18) (by18.map (Value.int .u8)), Res.row (Value.slice (some ⟨blk16, 0, none⟩) (List.length [hx14, hx15]) cq11) 3 1 (List.length [hx14, hx15]) ([hx14, hx15].map (Value.int .i64)), Res.box blk2 [Value.int .i64 0, Value.int .i64 0, Value.slice none 0 0, Value.int .i64 0] 32])) [(3, Value.bool false)] [.no] True (by kernel_rfl) trivial hS44 ?_
          refine l_nil rfl ?_
          refine then_n ?_
          refine wp_ret ?_
          refine then_r ?_
          have hS44s4 : St w w44 [Res.row (Value.slice none 0 0) 5 1 0 ([]), Res.box blk35 [Value.int .i64 hx14, Value.int .i64 hx15, Value.slice Aq24 (List.length by18) cq25, Value.int .i64 rn29] 32, Res.row (Value.slice Aq24 (List.length by18) cq25) 5 1 (List.length by18) (by18.map (Value.int .u8)), Res.row (Value.slice (some ⟨blk16, 0, none⟩) (List.length [hx14, hx15]) cq11) 3 1 (List.length [hx14, hx15]) ([hx14, hx15].map (Value.int .i64)), Res.box blk2 [Value.int .i64 0, Value.int .i64 0, Value.slice none 0 0, Value.int .i64 0] 32] := hS44.nilrow 5 1
          have hS44s4s5 : St w w44 [Res.row (Value.slice none 0 0) 5 1 0 ([])] := (hS44s4.sub (List.Sublist.cons_cons _ (List.Sublist.cons _ (List.Sublist.cons _ (List.Sublist.cons _ (List.Sublist.cons _ List.Sublist.slnil))))))
          have hR : dsec zs = (0, 0, [], 0, false) := by
            cases hv_ : vsec hx14 hx15 (List.length by18) rn29 with
            | true => exact dsec_2 (rsec_5 hrd7t13 hrd21t27 hrd32t38 hv_) (by omega)
            | false => exact dsec_1 (rsec_4 hrd7t13 hrd21t27 hrd32t38 hv_)
          exact c_end (S := (fun x_ => St w x_ [Res.box blk35 [Value.int .i64 hx14, Value.int .i64 hx15, Value.slice Aq24 (List.length by18) cq25, Value.int .i64 rn29] 32, Res.row (Value.slice Aq24 (List.length by18) cq25) 5 1 (List.length by18) (by18.map (Value.int .u8)), Res.row (Value.slice (some ⟨blk16, 0, none⟩) (List.length [hx14, hx15]) cq11) 3 1 (List.length [hx14, hx15]) ([hx14, hx15].map (Value.int .i64)), Res.box blk2 [Value.int .i64 0, Value.int .i64 0, Value.slice none 0 0, Value.int .i64 0] 32])) (rs := [.cell 2 32, .tmp 3]) rfl [Value.agg #[Value.int .i64 0, Value.int .i64 0, Value.slice none 0 0, Value.int .i64 0]] (v := Value.tuple #[Value.agg #[Value.int .i64 0, Value.int .i64 0, Value.slice none 0 0, Value.int .i64 0], Value.bool false]) (C := ((LoadsAt Try.prog (fun x_ => St w x_ [Res.box blk35 [Value.int .i64 hx14, Value.int .i64 hx15, Value.slice Aq24 (List.length by18) cq25, Value.int .i64 rn29] 32, Res.row (Value.slice Aq24 (List.length by18) cq25) 5 1 (List.length by18) (by18.map (Value.int .u8)), Res.row (Value.slice (some ⟨blk16, 0, none⟩) (List.length [hx14, hx15]) cq11) 3 1 (List.length [hx14, hx15]) ([hx14, hx15].map (Value.int .i64)), Res.box blk2 [Value.int .i64 0, Value.int .i64 0, Value.slice none 0 0, Value.int .i64 0] 32]) 32 ⟨blk2, 0, none⟩ (Value.agg #[Value.int .i64 0, Value.int .i64 0, Value.slice none 0 0, Value.int .i64 0])))) (by kernel_rfl) (ld_boxN (i := 3) (k := 4) rfl rfl rfl (by kernel_rfl)) hS44 (by rw [hR]; dsimp only; exact (hS44s4s5.eqv (by first | rfl | (rw [hcl]; done) | (simp; done) | (simp [*]; done))).rt ⟨none, 0, (by first | rfl | (rw [hcl]; done) | (simp; done) | (simp [*]; done)), rfl⟩)
      · skip
        have hrd32f45 := hrd32
        rw [hb37] at hrd32f45
        refine q_seg (S := (fun x_ => St w x_ [Res.box blk35 [Value.int .i64 hx14, Value.int .i64 hx15, Value.slice Aq24 (List.length by18) cq25, Value.int .i64 rn29] 32, Res.row (Value.slice Aq24 (List.length by18) cq25) 5 1 (List.length by18) (by18.map (Value.int .u8)), Res.row (Value.slice (some ⟨blk16, 0, none⟩) (List.length [hx14, hx15]) cq11) 3 1 (List.length [hx14, hx15]) ([hx14, hx15].map (Value.int .i64)), Res.box blk2 [Value.int .i64 0, Value.int .i64 0, Value.slice none 0 0, Value.int .i64 0] 32])) [(61, Value.bool true), (60, undef), (59, undef), (58, undef), (57, Value.bool true), (56, Value.bool true), (55, undef), (54, undef), (53, undef), (52, undef)] [.skip, .skip, .skip, .skip, .v (.bool true), .no, .skip, .skip, .skip, .v (.bool true)] (((!(ro31)) = !false) ∧ ((!(ro31)) = !false) ∧ ((!(ro31)) = !false) ∧ ((!(ro31)) = !false) ∧ ((!(ro31)) = true) ∧ (true = !false) ∧ (true = !false) ∧ (true = !false) ∧ (true = true)) (by kernel_rfl) ⟨(nb (v := false) hb37), (nb (v := false) hb37), (nb (v := false) hb37), (nb (v := false) hb37), (nb (v := false) hb37), rfl, rfl, rfl, rfl⟩ hS36 ?_
        refine l_nil rfl ?_
        refine then_n ?_
        refine c_true (b := true) (by kernel_rfl) rfl ?_
        refine wp_seq ?_
        refine c_reg ?_
        refine q_seg (S := (fun x_ => St w x_ [Res.box blk35 [Value.int .i64 hx14, Value.int .i64 hx15, Value.slice Aq24 (List.length by18) cq25, Value.int .i64 rn29] 32, Res.row (Value.slice Aq24 (List.length by18) cq25) 5 1 (List.length by18) (by18.map (Value.int .u8)), Res.row (Value.slice (some ⟨blk16, 0, none⟩) (List.length [hx14, hx15]) cq11) 3 1 (List.length [hx14, hx15]) ([hx14, hx15].map (Value.int .i64)), Res.box blk2 [Value.int .i64 0, Value.int .i64 0, Value.slice none 0 0, Value.int .i64 0] 32])) [(62, Value.agg #[Value.int .i64 0, Value.int .i64 0, Value.slice none 0 0, Value.int .i64 0])] [.no] True (by kernel_rfl) trivial hS36 ?_
        refine l_op rfl rfl (fun K hK => op_store (d := none) rfl rfl (i := 3) (b := blk2) (off := 0) (cs := [Value.int .i64 0, Value.int .i64 0, Value.slice none 0 0, Value.int .i64 0]) (bt := 32) (by kernel_rfl) (by kernel_rfl) [Value.int .i64 0, Value.int .i64 0, Value.slice none 0 0, Value.int .i64 0] (by kernel_rfl) (by kernel_rfl) (Nat.le_of_ble_eq_true (by kernel_rfl)) (by kernel_rfl) [Res.box blk35 [Value.int .i64 hx14, Value.int .i64 hx15, Value.slice Aq24 (List.length by18) cq25, Value.int .i64 rn29] 32, Res.row (Value.slice Aq24 (List.length by18) cq25) 5 1 (List.length by18) (by18.map (Value.int .u8)), Res.row (Value.slice (some ⟨blk16, 0, none⟩) (List.length [hx14, hx15]) cq11) 3 1 (List.length [hx14, hx15]) ([hx14, hx15].map (Value.int .i64)), Res.box blk2 [Value.int .i64 0, Value.int .i64 0, Value.slice none 0 0, Value.int .i64 0] 32] (by kernel_rfl) hS36 (fun w46 hS46 => hK _ _ ?_))
        clear hK K
        refine q_seg (S := (fun x_ => St w x_ [Res.box blk35 [Value.int .i64 hx14, Value.int .i64 hx15, Value.slice Aq24 (List.length by18) cq25, Value.int .i64 rn29] 32, Res.row (Value.slice Aq24 (List.length by18) cq25) 5 1 (List.length by18) (by18.map (Value.int .u8)), Res.row (Value.slice (some ⟨blk16, 0, none⟩) (List.length [hx14, hx15]) cq11) 3 1 (List.length [hx14, hx15]) ([hx14, hx15].map (Value.int .i64)), Res.box blk2 [Value.int .i64 0, Value.int .i64 0, Value.slice none 0 0, Value.int .i64 0] 32])) [(3, Value.bool false)] [.no] True (by kernel_rfl) trivial hS46 ?_
        refine l_nil rfl ?_
        refine then_n ?_
        refine wp_ret ?_
        refine then_r ?_
        have hS46s6 : St w w46 [Res.row (Value.slice none 0 0) 5 1 0 ([]), Res.box blk35 [Value.int .i64 hx14, Value.int .i64 hx15, Value.slice Aq24 (List.length by18) cq25, Value.int .i64 rn29] 32, Res.row (Value.slice Aq24 (List.length by18) cq25) 5 1 (List.length by18) (by18.map (Value.int .u8)), Res.row (Value.slice (some ⟨blk16, 0, none⟩) (List.length [hx14, hx15]) cq11) 3 1 (List.length [hx14, hx15]) ([hx14, hx15].map (Value.int .i64)), Res.box blk2 [Value.int .i64 0, Value.int .i64 0, Value.slice none 0 0, Value.int .i64 0] 32] := hS46.nilrow 5 1
        have hS46s6s7 : St w w46 [Res.row (Value.slice none 0 0) 5 1 0 ([])] := (hS46s6.sub (List.Sublist.cons_cons _ (List.Sublist.cons _ (List.Sublist.cons _ (List.Sublist.cons _ (List.Sublist.cons _ List.Sublist.slnil))))))
        have hR : dsec zs = (0, 0, [], 0, false) := dsec_1 (rsec_3 hrd7t13 hrd21t27 hrd32f45)
        exact c_end (S := (fun x_ => St w x_ [Res.box blk35 [Value.int .i64 hx14, Value.int .i64 hx15, Value.slice Aq24 (List.length by18) cq25, Value.int .i64 rn29] 32, Res.row (Value.slice Aq24 (List.length by18) cq25) 5 1 (List.length by18) (by18.map (Value.int .u8)), Res.row (Value.slice (some ⟨blk16, 0, none⟩) (List.length [hx14, hx15]) cq11) 3 1 (List.length [hx14, hx15]) ([hx14, hx15].map (Value.int .i64)), Res.box blk2 [Value.int .i64 0, Value.int .i64 0, Value.slice none 0 0, Value.int .i64 0] 32])) (rs := [.cell 2 32, .tmp 3]) rfl [Value.agg #[Value.int .i64 0, Value.int .i64 0, Value.slice none 0 0, Value.int .i64 0]] (v := Value.tuple #[Value.agg #[Value.int .i64 0, Value.int .i64 0, Value.slice none 0 0, Value.int .i64 0], Value.bool false]) (C := ((LoadsAt Try.prog (fun x_ => St w x_ [Res.box blk35 [Value.int .i64 hx14, Value.int .i64 hx15, Value.slice Aq24 (List.length by18) cq25, Value.int .i64 rn29] 32, Res.row (Value.slice Aq24 (List.length by18) cq25) 5 1 (List.length by18) (by18.map (Value.int .u8)), Res.row (Value.slice (some ⟨blk16, 0, none⟩) (List.length [hx14, hx15]) cq11) 3 1 (List.length [hx14, hx15]) ([hx14, hx15].map (Value.int .i64)), Res.box blk2 [Value.int .i64 0, Value.int .i64 0, Value.slice none 0 0, Value.int .i64 0] 32]) 32 ⟨blk2, 0, none⟩ (Value.agg #[Value.int .i64 0, Value.int .i64 0, Value.slice none 0 0, Value.int .i64 0])))) (by kernel_rfl) (ld_boxN (i := 3) (k := 4) rfl rfl rfl (by kernel_rfl)) hS46 (by rw [hR]; dsimp only; exact (hS46s6s7.eqv (by first | rfl | (rw [hcl]; done) | (simp; done) | (simp [*]; done))).rt ⟨none, 0, (by first | rfl | (rw [hcl]; done) | (simp; done) | (simp [*]; done)), rfl⟩)
    · skip
      have hrd21f47 := hrd21
      rw [hb26] at hrd21f47
      refine c_true (b := (!(bo20))) (by kernel_rfl) (nb (v := false) hb26) ?_
      refine wp_seq ?_
      refine c_reg ?_
      refine q_seg (S := (fun x_ => St w x_ [Res.row (Value.slice Aq24 (List.length by18) cq25) 5 1 (List.length by18) (by18.map (Value.int .u8)), Res.row (Value.slice (some ⟨blk16, 0, none⟩) (List.length [hx14, hx15]) cq11) 3 1 (List.length [hx14, hx15]) ([hx14, hx15].map (Value.int .i64)), Res.box blk2 [Value.int .i64 0, Value.int .i64 0, Value.slice none 0 0, Value.int .i64 0] 32])) [(32, Value.agg #[Value.int .i64 0, Value.int .i64 0, Value.slice none 0 0, Value.int .i64 0])] [.no] True (by kernel_rfl) trivial hS17 ?_
      refine l_op rfl rfl (fun K hK => op_store (d := none) rfl rfl (i := 2) (b := blk2) (off := 0) (cs := [Value.int .i64 0, Value.int .i64 0, Value.slice none 0 0, Value.int .i64 0]) (bt := 32) (by kernel_rfl) (by kernel_rfl) [Value.int .i64 0, Value.int .i64 0, Value.slice none 0 0, Value.int .i64 0] (by kernel_rfl) (by kernel_rfl) (Nat.le_of_ble_eq_true (by kernel_rfl)) (by kernel_rfl) [Res.row (Value.slice Aq24 (List.length by18) cq25) 5 1 (List.length by18) (by18.map (Value.int .u8)), Res.row (Value.slice (some ⟨blk16, 0, none⟩) (List.length [hx14, hx15]) cq11) 3 1 (List.length [hx14, hx15]) ([hx14, hx15].map (Value.int .i64)), Res.box blk2 [Value.int .i64 0, Value.int .i64 0, Value.slice none 0 0, Value.int .i64 0] 32] (by kernel_rfl) hS17 (fun w48 hS48 => hK _ _ ?_))
      clear hK K
      refine q_seg (S := (fun x_ => St w x_ [Res.row (Value.slice Aq24 (List.length by18) cq25) 5 1 (List.length by18) (by18.map (Value.int .u8)), Res.row (Value.slice (some ⟨blk16, 0, none⟩) (List.length [hx14, hx15]) cq11) 3 1 (List.length [hx14, hx15]) ([hx14, hx15].map (Value.int .i64)), Res.box blk2 [Value.int .i64 0, Value.int .i64 0, Value.slice none 0 0, Value.int .i64 0] 32])) [(3, Value.bool false)] [.no] True (by kernel_rfl) trivial hS48 ?_
      refine l_nil rfl ?_
      refine then_n ?_
      refine wp_ret ?_
      refine then_r ?_
      have hS48s8 : St w w48 [Res.row (Value.slice none 0 0) 5 1 0 ([]), Res.row (Value.slice Aq24 (List.length by18) cq25) 5 1 (List.length by18) (by18.map (Value.int .u8)), Res.row (Value.slice (some ⟨blk16, 0, none⟩) (List.length [hx14, hx15]) cq11) 3 1 (List.length [hx14, hx15]) ([hx14, hx15].map (Value.int .i64)), Res.box blk2 [Value.int .i64 0, Value.int .i64 0, Value.slice none 0 0, Value.int .i64 0] 32] := hS48.nilrow 5 1
      have hS48s8s9 : St w w48 [Res.row (Value.slice none 0 0) 5 1 0 ([])] := (hS48s8.sub (List.Sublist.cons_cons _ (List.Sublist.cons _ (List.Sublist.cons _ (List.Sublist.cons _ List.Sublist.slnil)))))
      have hR : dsec zs = (0, 0, [], 0, false) := dsec_1 (rsec_2 hrd7t13 hrd21f47)
      exact c_end (S := (fun x_ => St w x_ [Res.row (Value.slice Aq24 (List.length by18) cq25) 5 1 (List.length by18) (by18.map (Value.int .u8)), Res.row (Value.slice (some ⟨blk16, 0, none⟩) (List.length [hx14, hx15]) cq11) 3 1 (List.length [hx14, hx15]) ([hx14, hx15].map (Value.int .i64)), Res.box blk2 [Value.int .i64 0, Value.int .i64 0, Value.slice none 0 0, Value.int .i64 0] 32])) (rs := [.cell 2 32, .tmp 3]) rfl [Value.agg #[Value.int .i64 0, Value.int .i64 0, Value.slice none 0 0, Value.int .i64 0]] (v := Value.tuple #[Value.agg #[Value.int .i64 0, Value.int .i64 0, Value.slice none 0 0, Value.int .i64 0], Value.bool false]) (C := ((LoadsAt Try.prog (fun x_ => St w x_ [Res.row (Value.slice Aq24 (List.length by18) cq25) 5 1 (List.length by18) (by18.map (Value.int .u8)), Res.row (Value.slice (some ⟨blk16, 0, none⟩) (List.length [hx14, hx15]) cq11) 3 1 (List.length [hx14, hx15]) ([hx14, hx15].map (Value.int .i64)), Res.box blk2 [Value.int .i64 0, Value.int .i64 0, Value.slice none 0 0, Value.int .i64 0] 32]) 32 ⟨blk2, 0, none⟩ (Value.agg #[Value.int .i64 0, Value.int .i64 0, Value.slice none 0 0, Value.int .i64 0])))) (by kernel_rfl) (ld_boxN (i := 2) (k := 4) rfl rfl rfl (by kernel_rfl)) hS48 (by rw [hR]; dsimp only; exact (hS48s8s9.eqv (by first | rfl | (rw [hcl]; done) | (simp; done) | (simp [*]; done))).rt ⟨none, 0, (by first | rfl | (rw [hcl]; done) | (simp; done) | (simp [*]; done)), rfl⟩)
  · skip
    have hrd7f49 := hrd7
    rw [hb12] at hrd7f49
    refine c_true (b := (!(do6))) (by kernel_rfl) (nb (v := false) hb12) ?_
    refine wp_seq ?_
    refine c_reg ?_
    refine q_seg (S := (fun x_ => St w x_ [Res.row (Value.slice Aq10 (List.length dl4) cq11) 3 1 (List.length dl4) (dl4.map (Value.int .i64)), Res.box blk2 [Value.int .i64 0, Value.int .i64 0, Value.slice none 0 0, Value.int .i64 0] 32])) [(22, Value.agg #[Value.int .i64 0, Value.int .i64 0, Value.slice none 0 0, Value.int .i64 0])] [.no] True (by kernel_rfl) trivial hS3 ?_
    refine l_op rfl rfl (fun K hK => op_store (d := none) rfl rfl (i := 1) (b := blk2) (off := 0) (cs := [Value.int .i64 0, Value.int .i64 0, Value.slice none 0 0, Value.int .i64 0]) (bt := 32) (by kernel_rfl) (by kernel_rfl) [Value.int .i64 0, Value.int .i64 0, Value.slice none 0 0, Value.int .i64 0] (by kernel_rfl) (by kernel_rfl) (Nat.le_of_ble_eq_true (by kernel_rfl)) (by kernel_rfl) [Res.row (Value.slice Aq10 (List.length dl4) cq11) 3 1 (List.length dl4) (dl4.map (Value.int .i64)), Res.box blk2 [Value.int .i64 0, Value.int .i64 0, Value.slice none 0 0, Value.int .i64 0] 32] (by kernel_rfl) hS3 (fun w50 hS50 => hK _ _ ?_))
    clear hK K
    refine q_seg (S := (fun x_ => St w x_ [Res.row (Value.slice Aq10 (List.length dl4) cq11) 3 1 (List.length dl4) (dl4.map (Value.int .i64)), Res.box blk2 [Value.int .i64 0, Value.int .i64 0, Value.slice none 0 0, Value.int .i64 0] 32])) [(3, Value.bool false)] [.no] True (by kernel_rfl) trivial hS50 ?_
    refine l_nil rfl ?_
    refine then_n ?_
    refine wp_ret ?_
    refine then_r ?_
    have hS50s10 : St w w50 [Res.row (Value.slice none 0 0) 5 1 0 ([]), Res.row (Value.slice Aq10 (List.length dl4) cq11) 3 1 (List.length dl4) (dl4.map (Value.int .i64)), Res.box blk2 [Value.int .i64 0, Value.int .i64 0, Value.slice none 0 0, Value.int .i64 0] 32] := hS50.nilrow 5 1
    have hS50s10s11 : St w w50 [Res.row (Value.slice none 0 0) 5 1 0 ([])] := (hS50s10.sub (List.Sublist.cons_cons _ (List.Sublist.cons _ (List.Sublist.cons _ List.Sublist.slnil))))
    have hR : dsec zs = (0, 0, [], 0, false) := dsec_1 (rsec_1 hrd7f49)
    exact c_end (S := (fun x_ => St w x_ [Res.row (Value.slice Aq10 (List.length dl4) cq11) 3 1 (List.length dl4) (dl4.map (Value.int .i64)), Res.box blk2 [Value.int .i64 0, Value.int .i64 0, Value.slice none 0 0, Value.int .i64 0] 32])) (rs := [.cell 2 32, .tmp 3]) rfl [Value.agg #[Value.int .i64 0, Value.int .i64 0, Value.slice none 0 0, Value.int .i64 0]] (v := Value.tuple #[Value.agg #[Value.int .i64 0, Value.int .i64 0, Value.slice none 0 0, Value.int .i64 0], Value.bool false]) (C := ((LoadsAt Try.prog (fun x_ => St w x_ [Res.row (Value.slice Aq10 (List.length dl4) cq11) 3 1 (List.length dl4) (dl4.map (Value.int .i64)), Res.box blk2 [Value.int .i64 0, Value.int .i64 0, Value.slice none 0 0, Value.int .i64 0] 32]) 32 ⟨blk2, 0, none⟩ (Value.agg #[Value.int .i64 0, Value.int .i64 0, Value.slice none 0 0, Value.int .i64 0])))) (by kernel_rfl) (ld_boxN (i := 1) (k := 4) rfl rfl rfl (by kernel_rfl)) hS50 (by rw [hR]; dsimp only; exact (hS50s10s11.eqv (by first | rfl | (rw [hcl]; done) | (simp; done) | (simp [*]; done))).rt ⟨none, 0, (by first | rfl | (rw [hcl]; done) | (simp; done) | (simp [*]; done)), rfl⟩)
theorem DecodeRadio_i_c (A : Option Addr) (n c : Nat) (zs : List Int) (w : World) (hn : n ≤ 1000000000) (hz : okz .u8 zs) (hr : Rd w w.heap.size A n (zs.map (Value.int .u8))) (hnc : n ≤ c) : Calls Try.prog 25 #[.slice A n c] w (Ret w (fun v new => ∃ (A_ : Option Addr) (c_ : Nat), v = .tuple #[.agg #[.int .i64 (drad zs).1, .int .i64 (drad zs).2.1, .int .i64 (drad zs).2.2.1, .int .i64 (drad zs).2.2.2.1, .slice A_ (List.length (drad zs).2.2.2.2.1) c_, .int .i64 (drad zs).2.2.2.2.2.1], .bool (drad zs).2.2.2.2.2.2] ∧ new = [Res.row (.slice A_ (List.length (drad zs).2.2.2.2.1) c_) 5 1 (List.length (drad zs).2.2.2.2.1) ((drad zs).2.2.2.2.1.map (Value.int .u8))])) := by
  have hln := hr.len
  refine calls_FA Try.func25 rfl (n := 55) rfl (l := [(0, Value.slice A n c)]) rfl (by simp) (fun g => ?_)
  have hS := St.init w
  refine wp_seq ?_
  refine c_reg ?_
  refine l_op rfl rfl (fun K hK => op_alloc (d := some 2) rfl rfl [Value.int .i64 0, Value.int .i64 0, Value.int .i64 0, Value.int .i64 0, Value.slice none 0 0, Value.int .i64 0] (by kernel_rfl) hS (fun blk2 w1 hS1 => hK _ _ ?_))
  clear hK K
  refine q_seg (S := (fun x_ => St w x_ [Res.box blk2 [Value.int .i64 0, Value.int .i64 0, Value.int .i64 0, Value.int .i64 0, Value.slice none 0 0, Value.int .i64 0] 34])) [(3, Value.bool false)] [.no] True (by kernel_rfl) trivial hS1 ?_
  refine l_nil rfl ?_
  refine then_n ?_
  refine wp_seq ?_
  refine c_reg ?_
  refine q_seg (S := (fun x_ => St w x_ [Res.box blk2 [Value.int .i64 0, Value.int .i64 0, Value.int .i64 0, Value.int .i64 0, Value.slice none 0 0, Value.int .i64 0] 34])) [(9, Value.slice A n c)] [.no] True (by kernel_rfl) trivial hS1 ?_
  obtain ⟨dl4, dp5, do6, hrd7⟩ : ∃ (dl4 : List Int) (dp5 : Int) (do6 : Bool), dec2 zs (0 : Int) = (dl4, dp5, do6) := ⟨_, _, _, rfl⟩
  refine l_op rfl rfl (fun K hK => op_call (d := some 10) rfl rfl ⟨_, Try.func58, by kernel_rfl, by kernel_rfl⟩ (vs := [Value.slice A n c, Value.int .i64 0, Value.int .i64 2]) (by kernel_rfl) (DecodeInts_i_c A n c zs (0 : Int) w1 (by omega) hz (hS1.rdlow hr)) hS1 (fun v8 new9 w3 Rw3 hS3 => hK _ _ ?_))
  clear hK K
  rw [hrd7] at Rw3
  dsimp only at Rw3
  obtain ⟨Aq10, cq11, rfl, rfl⟩ := Rw3
  refine q_seg (S := (fun x_ => St w x_ [Res.row (Value.slice Aq10 (List.length dl4) cq11) 3 1 (List.length dl4) (dl4.map (Value.int .i64)), Res.box blk2 [Value.int .i64 0, Value.int .i64 0, Value.int .i64 0, Value.int .i64 0, Value.slice none 0 0, Value.int .i64 0] 34])) [(6, Value.bool do6), (5, Value.int .i64 dp5), (4, Value.slice Aq10 (List.length dl4) cq11), (13, Value.bool do6), (12, Value.int .i64 dp5), (11, Value.slice Aq10 (List.length dl4) cq11), (8, Value.tuple #[Value.slice Aq10 (List.length dl4) cq11, Value.int .i64 dp5, Value.bool do6])] [.no, .no, .no, .no, .no, .no, .no] True (by kernel_rfl) trivial hS3 ?_
  refine l_nil rfl ?_
  refine then_n ?_
  refine wp_seq ?_
  refine wp_seq ?_
  refine c_reg ?_
  refine q_seg (S := (fun x_ => St w x_ [Res.row (Value.slice Aq10 (List.length dl4) cq11) 3 1 (List.length dl4) (dl4.map (Value.int .i64)), Res.box blk2 [Value.int .i64 0, Value.int .i64 0, Value.int .i64 0, Value.int .i64 0, Value.slice none 0 0, Value.int .i64 0] 34])) [(16, Value.bool (!(do6))), (15, Value.bool (!(do6))), (14, Value.bool do6)] [.no, .no, .no] True (by kernel_rfl) trivial hS3 ?_
  rcases Bool.eq_false_or_eq_true (do6) with hb12 | hb12
  · skip
    have hrd7t13 := hrd7
    rw [hb12] at hrd7t13
    obtain ⟨hx14, hx15, _, hrd7t13L, _, _, hrd7t13a, hrd7t13b, hrd7t13c, hrd7t13d, hrd7t13e, hrd7t13g, hrd7t13i⟩ := dec2_ok hz hrd7t13
    subst hrd7t13L
    have hrd7t13l : List.length [hx14, hx15] = 2 := rfl
    obtain ⟨blk16, rfl⟩ := hS3.row_at (List.mem_of_getElem? (i := 0) rfl) (by omega)
    refine q_seg (S := (fun x_ => St w x_ [Res.row (Value.slice (some ⟨blk16, 0, none⟩) (List.length [hx14, hx15]) cq11) 3 1 (List.length [hx14, hx15]) ([hx14, hx15].map (Value.int .i64)), Res.box blk2 [Value.int .i64 0, Value.int .i64 0, Value.int .i64 0, Value.int .i64 0, Value.slice none 0 0, Value.int .i64 0] 34])) [(19, Value.int .i64 hx14), (18, Value.pointer (some ⟨blk16, 0 + Int.toNat 0 * 1, none⟩)), (17, Value.slice (some ⟨blk16, 0, none⟩) (List.length [hx14, hx15]) cq11)] [.no, .no, .v (Value.int .i64 hx14)] (((!(do6)) = false) ∧ ((!(do6)) = false) ∧ ((0 : Int) ≤ 0) ∧ (0 < (((List.length [hx14, hx15]) : Nat) : Int)) ∧ ((!(do6)) = false) ∧ (LoadsAt Try.prog (fun x_ => St w x_ [Res.row (Value.slice (some ⟨blk16, 0, none⟩) (List.length [hx14, hx15]) cq11) 3 1 (List.length [hx14, hx15]) ([hx14, hx15].map (Value.int .i64)), Res.box blk2 [Value.int .i64 0, Value.int .i64 0, Value.int .i64 0, Value.int .i64 0, Value.slice none 0 0, Value.int .i64 0] 34]) 3 ⟨blk16, 0 + Int.toNat 0 * 1, none⟩ (Value.int .i64 hx14))) (by kernel_rfl) ⟨(nb (v := true) hb12), (nb (v := true) hb12), (by omega), (by omega), (nb (v := true) hb12), (ld_row (i := 0) rfl rfl (by kernel_rfl))⟩ hS3 ?_
    refine l_opg rfl (b := (!(do6))) (want := false) (by kernel_rfl) (nb (v := true) hb12) (fun K hK => op_callv (d := some 20) rfl rfl ⟨_, Try.func59, by kernel_rfl, by kernel_rfl⟩ (vs := [Value.int .i64 hx14, Value.int .i64 0, Value.int .i64 100000]) (by kernel_rfl) (v := Value.bool (inR hx14 0 100000)) (InRange_c hx14 0 100000 _) hS3 (fun w17 hS17 => hK _ _ ?_))
    clear hK K
    refine q_seg (S := (fun x_ => St w x_ [Res.row (Value.slice (some ⟨blk16, 0, none⟩) (List.length [hx14, hx15]) cq11) 3 1 (List.length [hx14, hx15]) ([hx14, hx15].map (Value.int .i64)), Res.box blk2 [Value.int .i64 0, Value.int .i64 0, Value.int .i64 0, Value.int .i64 0, Value.slice none 0 0, Value.int .i64 0] 34])) [(23, Value.bool (!(inR hx14 0 100000))), (22, Value.bool (!(inR hx14 0 100000))), (21, Value.bool (!(inR hx14 0 100000)))] [.no, .v (.bool false), .no] (((!(do6)) = false) ∧ ((!(do6)) = false)) (by kernel_rfl) ⟨(nb (v := true) hb12), (nb (v := true) hb12)⟩ hS17 ?_
    rcases Bool.eq_false_or_eq_true (inR hx14 0 100000) with hb18 | hb18
    · skip
      obtain ⟨hb18p, hb18q⟩ := inR_iff.1 hb18
      refine q_seg (S := (fun x_ => St w x_ [Res.row (Value.slice (some ⟨blk16, 0, none⟩) (List.length [hx14, hx15]) cq11) 3 1 (List.length [hx14, hx15]) ([hx14, hx15].map (Value.int .i64)), Res.box blk2 [Value.int .i64 0, Value.int .i64 0, Value.int .i64 0, Value.int .i64 0, Value.slice none 0 0, Value.int .i64 0] 34])) [(26, Value.int .i64 hx15), (25, Value.pointer (some ⟨blk16, 0 + Int.toNat 1 * 1, none⟩)), (24, Value.slice (some ⟨blk16, 0, none⟩) (List.length [hx14, hx15]) cq11)] [.no, .no, .v (Value.int .i64 hx15)] (((!(inR hx14 0 100000)) = false) ∧ ((!(inR hx14 0 100000)) = false) ∧ ((0 : Int) ≤ 1) ∧ (1 < (((List.length [hx14, hx15]) : Nat) : Int)) ∧ ((!(inR hx14 0 100000)) = false) ∧ (LoadsAt Try.prog (fun x_ => St w x_ [Res.row (Value.slice (some ⟨blk16, 0, none⟩) (List.length [hx14, hx15]) cq11) 3 1 (List.length [hx14, hx15]) ([hx14, hx15].map (Value.int .i64)), Res.box blk2 [Value.int .i64 0, Value.int .i64 0, Value.int .i64 0, Value.int .i64 0, Value.slice none 0 0, Value.int .i64 0] 34]) 3 ⟨blk16, 0 + Int.toNat 1 * 1, none⟩ (Value.int .i64 hx15))) (by kernel_rfl) ⟨(nb (v := true) hb18), (nb (v := true) hb18), (by omega), (by omega), (nb (v := true) hb18), (ld_row (i := 0) rfl rfl (by kernel_rfl))⟩ hS17 ?_
      refine l_opg rfl (b := (!(inR hx14 0 100000))) (want := false) (by kernel_rfl) (nb (v := true) hb18) (fun K hK => op_callv (d := some 27) rfl rfl ⟨_, Try.func59, by kernel_rfl, by kernel_rfl⟩ (vs := [Value.int .i64 hx15, Value.int .i64 0, Value.int .i64 100000]) (by kernel_rfl) (v := Value.bool (inR hx15 0 100000)) (InRange_c hx15 0 100000 _) hS17 (fun w19 hS19 => hK _ _ ?_))
      clear hK K
      refine q_seg (S := (fun x_ => St w x_ [Res.row (Value.slice (some ⟨blk16, 0, none⟩) (List.length [hx14, hx15]) cq11) 3 1 (List.length [hx14, hx15]) ([hx14, hx15].map (Value.int .i64)), Res.box blk2 [Value.int .i64 0, Value.int .i64 0, Value.int .i64 0, Value.int .i64 0, Value.slice none 0 0, Value.int .i64 0] 34])) [(29, Value.bool (!(inR hx15 0 100000))), (28, Value.bool (!(inR hx15 0 100000)))] [.no, .v (.bool false)] (((!(inR hx14 0 100000)) = false) ∧ ((!(inR hx14 0 100000)) = false)) (by kernel_rfl) ⟨(nb (v := true) hb18), (nb (v := true) hb18)⟩ hS19 ?_
      refine l_nil rfl ?_
      refine then_n ?_
      rcases Bool.eq_false_or_eq_true (inR hx15 0 100000) with hb20 | hb20
      · skip
        obtain ⟨hb20p, hb20q⟩ := inR_iff.1 hb20
        refine c_false (b := (!(inR hx15 0 100000))) (by kernel_rfl) (nb (v := true) hb20) ?_
        refine wp_skip ?_
        refine then_n ?_
        refine wp_seq ?_
        refine c_reg ?_
        refine q_seg (S := (fun x_ => St w x_ [Res.row (Value.slice (some ⟨blk16, 0, none⟩) (List.length [hx14, hx15]) cq11) 3 1 (List.length [hx14, hx15]) ([hx14, hx15].map (Value.int .i64)), Res.box blk2 [Value.int .i64 0, Value.int .i64 0, Value.int .i64 0, Value.int .i64 0, Value.slice none 0 0, Value.int .i64 0] 34])) [(33, Value.int .i64 dp5), (32, Value.slice A n c)] [.no, .no] True (by kernel_rfl) trivial hS19 ?_
        obtain ⟨sd22, sc23, sz24, sm25, sr26, so27, hrd28⟩ : ∃ (sd22 : Int) (sc23 : Int) (sz24 : List Int) (sm25 : Int) (sr26 : Int) (so27 : Bool), rsec zs dp5 = (sd22, sc23, sz24, sm25, sr26, so27) := ⟨_, _, _, _, _, _, rfl⟩
        refine l_op rfl rfl (fun K hK => op_call (d := some 34) rfl rfl ⟨_, Try.func60, by kernel_rfl, by kernel_rfl⟩ (vs := [Value.slice A n c, Value.int .i64 dp5]) (by kernel_rfl) (readSecured_i_c A n c zs dp5 w19 (by omega) hz (hS19.rdlow hr) (by omega)) hS19 (fun v29 new30 w21 Rw21 hS21 => hK _ _ ?_))
        clear hK K
        rw [hrd28] at Rw21
        dsimp only at Rw21
        obtain ⟨Aq31, cq32, rfl, rfl⟩ := Rw21
        obtain ⟨hrd28o, hrd28A⟩ := rsec_all hz hrd28
        refine q_seg (S := (fun x_ => St w x_ [Res.row (Value.slice Aq31 (List.length sz24) cq32) 5 1 (List.length sz24) (sz24.map (Value.int .u8)), Res.row (Value.slice (some ⟨blk16, 0, none⟩) (List.length [hx14, hx15]) cq11) 3 1 (List.length [hx14, hx15]) ([hx14, hx15].map (Value.int .i64)), Res.box blk2 [Value.int .i64 0, Value.int .i64 0, Value.int .i64 0, Value.int .i64 0, Value.slice none 0 0, Value.int .i64 0] 34])) [(37, Value.bool so27), (36, Value.int .i64 sr26), (35, Value.agg #[Value.int .i64 sd22, Value.int .i64 sc23, Value.slice Aq31 (List.length sz24) cq32, Value.int .i64 sm25]), (31, Value.tuple #[Value.agg #[Value.int .i64 sd22, Value.int .i64 sc23, Value.slice Aq31 (List.length sz24) cq32, Value.int .i64 sm25], Value.int .i64 sr26, Value.bool so27])] [.no, .no, .no, .no] True (by kernel_rfl) trivial hS21 ?_
        refine l_op rfl rfl (fun K hK => op_alloc (d := some 7) rfl rfl [Value.int .i64 0, Value.int .i64 0, Value.slice none 0 0, Value.int .i64 0] (by kernel_rfl) hS21 (fun blk34 w33 hS33 => hK _ _ ?_))
        clear hK K
        refine l_op rfl rfl (fun K hK => op_store (d := none) rfl rfl (i := 0) (b := blk34) (off := 0) (cs := [Value.int .i64 0, Value.int .i64 0, Value.slice none 0 0, Value.int .i64 0]) (bt := 32) (by kernel_rfl) (by kernel_rfl) [Value.int .i64 sd22, Value.int .i64 sc23, Value.slice Aq31 (List.length sz24) cq32, Value.int .i64 sm25] (by kernel_rfl) (by kernel_rfl) (Nat.le_of_ble_eq_true (by kernel_rfl)) (by kernel_rfl) [Res.box blk34 [Value.int .i64 sd22, Value.int .i64 sc23, Value.slice Aq31 (List.length sz24) cq32, Value.int .i64 sm25] 32, Res.row (Value.slice Aq31 (List.length sz24) cq32) 5 1 (List.length sz24) (sz24.map (Value.int .u8)), Res.row (Value.slice (some ⟨blk16, 0, none⟩) (List.length [hx14, hx15]) cq11) 3 1 (List.length [hx14, hx15]) ([hx14, hx15].map (Value.int .i64)), Res.box blk2 [Value.int .i64 0, Value.int .i64 0, Value.int .i64 0, Value.int .i64 0, Value.slice none 0 0, Value.int .i64 0] 34] (by kernel_rfl) hS33 (fun w35 hS35 => hK _ _ ?_))
        clear hK K
        refine q_seg (S := (fun x_ => St w x_ [Res.box blk34 [Value.int .i64 sd22, Value.int .i64 sc23, Value.slice Aq31 (List.length sz24) cq32, Value.int .i64 sm25] 32, Res.row (Value.slice Aq31 (List.length sz24) cq32) 5 1 (List.length sz24) (sz24.map (Value.int .u8)), Res.row (Value.slice (some ⟨blk16, 0, none⟩) (List.length [hx14, hx15]) cq11) 3 1 (List.length [hx14, hx15]) ([hx14, hx15].map (Value.int .i64)), Res.box blk2 [Value.int .i64 0, Value.int .i64 0, Value.int .i64 0, Value.int .i64 0, Value.slice none 0 0, Value.int .i64 0] 34])) [(6, Value.bool so27), (5, Value.int .i64 sr26)] [.no, .no] True (by kernel_rfl) trivial hS35 ?_
        refine l_nil rfl ?_
        refine then_n ?_
        refine wp_seq ?_
        refine wp_seq ?_
        refine c_reg ?_
        refine q_seg (S := (fun x_ => St w x_ [Res.box blk34 [Value.int .i64 sd22, Value.int .i64 sc23, Value.slice Aq31 (List.length sz24) cq32, Value.int .i64 sm25] 32, Res.row (Value.slice Aq31 (List.length sz24) cq32) 5 1 (List.length sz24) (sz24.map (Value.int .u8)), Res.row (Value.slice (some ⟨blk16, 0, none⟩) (List.length [hx14, hx15]) cq11) 3 1 (List.length [hx14, hx15]) ([hx14, hx15].map (Value.int .i64)), Res.box blk2 [Value.int .i64 0, Value.int .i64 0, Value.int .i64 0, Value.int .i64 0, Value.slice none 0 0, Value.int .i64 0] 34])) [(40, Value.bool (!(so27))), (39, Value.bool (!(so27))), (38, Value.bool so27)] [.no, .no, .no] True (by kernel_rfl) trivial hS35 ?_
        rcases Bool.eq_false_or_eq_true (so27) with hb36 | hb36
        · skip
          have hrd28t37 := hrd28
          rw [hb36] at hrd28t37
          obtain ⟨hrd28t37a, hrd28t37b, hrd28t37c, hrd28t37d, hrd28t37e, _⟩ := rsec_ok hz hrd28t37
          refine q_seg (S := (fun x_ => St w x_ [Res.box blk34 [Value.int .i64 sd22, Value.int .i64 sc23, Value.slice Aq31 (List.length sz24) cq32, Value.int .i64 sm25] 32, Res.row (Value.slice Aq31 (List.length sz24) cq32) 5 1 (List.length sz24) (sz24.map (Value.int .u8)), Res.row (Value.slice (some ⟨blk16, 0, none⟩) (List.length [hx14, hx15]) cq11) 3 1 (List.length [hx14, hx15]) ([hx14, hx15].map (Value.int .i64)), Res.box blk2 [Value.int .i64 0, Value.int .i64 0, Value.int .i64 0, Value.int .i64 0, Value.slice none 0 0, Value.int .i64 0] 34])) [(45, Value.bool (!(decide (sr26 = ((n : Nat) : Int))))), (44, Value.bool (!(decide (sr26 = ((n : Nat) : Int))))), (43, Value.int .i64 ((n : Nat) : Int)), (42, Value.slice A n c), (41, Value.int .i64 sr26)] [.no, .no, .no, .no, .v (.bool false)] (((!(so27)) = false) ∧ ((!(so27)) = false) ∧ ((!(so27)) = false) ∧ ((!(so27)) = false) ∧ ((!(so27)) = false)) (by kernel_rfl) ⟨(nb (v := true) hb36), (nb (v := true) hb36), (nb (v := true) hb36), (nb (v := true) hb36), (nb (v := true) hb36)⟩ hS35 ?_
          refine l_nil rfl ?_
          refine then_n ?_
          rcases Bool.eq_false_or_eq_true (decide (sr26 = ((n : Nat) : Int))) with hb38 | hb38
          · skip
            have hb38p := of_decide_eq_true hb38
            refine c_false (b := (!(decide (sr26 = ((n : Nat) : Int))))) (by kernel_rfl) (nb (v := true) hb38) ?_
            refine wp_skip ?_
            refine then_n ?_
            refine wp_seq ?_
            refine c_drawnS (S := (fun x_ => St w x_ [Res.box blk34 [Value.int .i64 sd22, Value.int .i64 sc23, Value.slice Aq31 (List.length sz24) cq32, Value.int .i64 sm25] 32, Res.row (Value.slice Aq31 (List.length sz24) cq32) 5 1 (List.length sz24) (sz24.map (Value.int .u8)), Res.row (Value.slice (some ⟨blk16, 0, none⟩) (List.length [hx14, hx15]) cq11) 3 1 (List.length [hx14, hx15]) ([hx14, hx15].map (Value.int .i64))])) [] (by kernel_rfl) hS35 (fun w39 hS39 => ?_)
            refine t_seg (S := (fun x_ => St w x_ [Res.box blk34 [Value.int .i64 sd22, Value.int .i64 sc23, Value.slice Aq31 (List.length sz24) cq32, Value.int .i64 sm25] 32, Res.row (Value.slice Aq31 (List.length sz24) cq32) 5 1 (List.length sz24) (sz24.map (Value.int .u8)), Res.row (Value.slice (some ⟨blk16, 0, none⟩) (List.length [hx14, hx15]) cq11) 3 1 (List.length [hx14, hx15]) ([hx14, hx15].map (Value.int .i64))])) [(0, .no), (3, .no), (6, .v (Value.agg #[Value.int .i64 sd22, Value.int .i64 sc23, Value.slice Aq31 (List.length sz24) cq32, Value.int .i64 sm25])), (1, .no), (4, .no), (2, .v (Value.int .i64 hx14)), (5, .v (Value.int .i64 hx15)), (7, .no)] 2 #[true, true, true, true, true, true, true, true, false, false] [(54, Value.agg #[Value.int .i64 hx14, Value.int .i64 hx15, Value.int .i64 sd22, Value.int .i64 sc23, Value.slice Aq31 (List.length sz24) cq32, Value.int .i64 sm25]), (52, Value.int .i64 hx15), (49, Value.int .i64 hx14), (51, Value.pointer (some ⟨blk16, 0 + Int.toNat 1 * 1, none⟩)), (48, Value.pointer (some ⟨blk16, 0 + Int.toNat 0 * 1, none⟩)), (53, Value.agg #[Value.int .i64 sd22, Value.int .i64 sc23, Value.slice Aq31 (List.length sz24) cq32, Value.int .i64 sm25]), (50, Value.slice (some ⟨blk16, 0, none⟩) (List.length [hx14, hx15]) cq11), (47, Value.slice (some ⟨blk16, 0, none⟩) (List.length [hx14, hx15]) cq11)] ((LoadsAt Try.prog (fun x_ => St w x_ [Res.box blk34 [Value.int .i64 sd22, Value.int .i64 sc23, Value.slice Aq31 (List.length sz24) cq32, Value.int .i64 sm25] 32, Res.row (Value.slice Aq31 (List.length sz24) cq32) 5 1 (List.length sz24) (sz24.map (Value.int .u8)), Res.row (Value.slice (some ⟨blk16, 0, none⟩) (List.length [hx14, hx15]) cq11) 3 1 (List.length [hx14, hx15]) ([hx14, hx15].map (Value.int .i64))]) 32 ⟨blk34, 0, none⟩ (Value.agg #[Value.int .i64 sd22, Value.int .i64 sc23, Value.slice Aq31 (List.length sz24) cq32, Value.int .i64 sm25])) ∧ ((0 : Int) ≤ 0) ∧ (0 < (((List.length [hx14, hx15]) : Nat) : Int)) ∧ ((0 : Int) ≤ 1) ∧ (1 < (((List.length [hx14, hx15]) : Nat) : Int)) ∧ (LoadsAt Try.prog (fun x_ => St w x_ [Res.box blk34 [Value.int .i64 sd22, Value.int .i64 sc23, Value.slice Aq31 (List.length sz24) cq32, Value.int .i64 sm25] 32, Res.row (Value.slice Aq31 (List.length sz24) cq32) 5 1 (List.length sz24) (sz24.map (Value.int .u8)), Res.row (Value.slice (some ⟨blk16, 0, none⟩) (List.length [hx14, hx15]) cq11) 3 1 (List.length [hx14, hx15]) ([hx14, hx15].map (Value.int .i64))]) 3 ⟨blk16, 0 + Int.toNat 0 * 1, none⟩ (Value.int .i64 hx14)) ∧ (LoadsAt Try.prog (fun x_ => St w x_ [Res.box blk34 [Value.int .i64 sd22, Value.int .i64 sc23, Value.slice Aq31 (List.length sz24) cq32, Value.int .i64 sm25] 32, Res.row (Value.slice Aq31 (List.length sz24) cq32) 5 1 (List.length sz24) (sz24.map (Value.int .u8)), Res.row (Value.slice (some ⟨blk16, 0, none⟩) (List.length [hx14, hx15]) cq11) 3 1 (List.length [hx14, hx15]) ([hx14, hx15].map (Value.int .i64))]) 3 ⟨blk16, 0 + Int.toNat 1 * 1, none⟩ (Value.int .i64 hx15))) (by kernel_rfl) (Qpanic.then Qpanic.bp) rfl (by kernel_rfl) ⟨(ld_boxN (i := 0) (k := 4) rfl rfl rfl (by kernel_rfl)), (by omega), (by omega), (by omega), (by omega), (ld_row (i := 2) rfl rfl (by kernel_rfl)), (ld_row (i := 2) rfl rfl (by kernel_rfl))⟩ (hS39.sub (List.Sublist.cons_cons _ (List.Sublist.cons_cons _ (List.Sublist.cons_cons _ (List.Sublist.cons _ List.Sublist.slnil))))) ?_
            refine a_op (i := 8) (fuel := 1) (listed' := #[true, true, true, true, true, true, true, true, true, false]) rfl rfl (by kernel_rfl) (by kernel_rfl) rfl (fun K hK => op_store (d := none) rfl rfl (i := 3) (b := blk2) (off := 0) (cs := [Value.int .i64 0, Value.int .i64 0, Value.int .i64 0, Value.int .i64 0, Value.slice none 0 0, Value.int .i64 0]) (bt := 34) (by kernel_rfl) (by kernel_rfl) [Value.int .i64 hx14, Value.int .i64 hx15, Value.int .i64 sd22, Value.int .i64 sc23, Value.slice Aq31 (List.length sz24) cq32, Value.int .i64 sm25] (by kernel_rfl) (by kernel_rfl) (Nat.le_of_ble_eq_true (by kernel_rfl)) (by kernel_rfl) [Res.box blk34 [Value.int .i64 sd22, Value.int .i64 sc23, Value.slice Aq31 (List.length sz24) cq32, Value.int .i64 sm25] 32, Res.row (Value.slice Aq31 (List.length sz24) cq32) 5 1 (List.length sz24) (sz24.map (Value.int .u8)), Res.row (Value.slice (some ⟨blk16, 0, none⟩) (List.length [hx14, hx15]) cq11) 3 1 (List.length [hx14, hx15]) ([hx14, hx15].map (Value.int .i64)), Res.box blk2 [Value.int .i64 hx14, Value.int .i64 hx15, Value.int .i64 sd22, Value.int .i64 sc23, Value.slice Aq31 (List.length sz24) cq32, Value.int .i64 sm25] 34] (by kernel_rfl) hS39 (fun w40 hS40 => hK _ _ (fun _ => (hS40.sub (List.Sublist.cons_cons _ (List.Sublist.cons_cons _ (List.Sublist.cons_cons _ (List.Sublist.cons _ List.Sublist.slnil)))))) ?_))
            clear hK K
            refine t_seg (S := (fun x_ => St w x_ [Res.box blk34 [Value.int .i64 sd22, Value.int .i64 sc23, Value.slice Aq31 (List.length sz24) cq32, Value.int .i64 sm25] 32, Res.row (Value.slice Aq31 (List.length sz24) cq32) 5 1 (List.length sz24) (sz24.map (Value.int .u8)), Res.row (Value.slice (some ⟨blk16, 0, none⟩) (List.length [hx14, hx15]) cq11) 3 1 (List.length [hx14, hx15]) ([hx14, hx15].map (Value.int .i64))])) [(9, .no)] 0 #[true, true, true, true, true, true, true, true, true, true] [(3, Value.bool true)] True (by kernel_rfl) (Qpanic.then Qpanic.bp) rfl (by kernel_rfl) trivial (hS40.sub (List.Sublist.cons_cons _ (List.Sublist.cons_cons _ (List.Sublist.cons_cons _ (List.Sublist.cons _ List.Sublist.slnil))))) ?_
            refine a_done (by kernel_rfl) ?_
            refine then_n ?_
            refine wp_ret ?_
            have hS40s1 : St w w40 [Res.row (Value.slice Aq31 (List.length sz24) cq32) 5 1 (List.length sz24) (sz24.map (Value.int .u8))] := (hS40.sub (List.Sublist.cons _ (List.Sublist.cons_cons _ (List.Sublist.cons _ (List.Sublist.cons _ List.Sublist.slnil)))))
            have hR : drad zs = (hx14, hx15, sd22, sc23, sz24, sm25, true) := drad_5 hrd7t13 (inR_true (by omega) (by omega)) (inR_true (by omega) (by omega)) hrd28t37 (by omega)
            exact c_end (S := (fun x_ => St w x_ [Res.box blk34 [Value.int .i64 sd22, Value.int .i64 sc23, Value.slice Aq31 (List.length sz24) cq32, Value.int .i64 sm25] 32, Res.row (Value.slice Aq31 (List.length sz24) cq32) 5 1 (List.length sz24) (sz24.map (Value.int .u8)), Res.row (Value.slice (some ⟨blk16, 0, none⟩) (List.length [hx14, hx15]) cq11) 3 1 (List.length [hx14, hx15]) ([hx14, hx15].map (Value.int .i64)), Res.box blk2 [Value.int .i64 hx14, Value.int .i64 hx15, Value.int .i64 sd22, Value.int .i64 sc23, Value.slice Aq31 (List.length sz24) cq32, Value.int .i64 sm25] 34])) (rs := [.cell 2 34, .tmp 3]) rfl [Value.agg #[Value.int .i64 hx14, Value.int .i64 hx15, Value.int .i64 sd22, Value.int .i64 sc23, Value.slice Aq31 (List.length sz24) cq32, Value.int .i64 sm25]] (v := Value.tuple #[Value.agg #[Value.int .i64 hx14, Value.int .i64 hx15, Value.int .i64 sd22, Value.int .i64 sc23, Value.slice Aq31 (List.length sz24) cq32, Value.int .i64 sm25], Value.bool true]) (C := ((LoadsAt Try.prog (fun x_ => St w x_ [Res.box blk34 [Value.int .i64 sd22, Value.int .i64 sc23, Value.slice Aq31 (List.length sz24) cq32, Value.int .i64 sm25] 32, Res.row (Value.slice Aq31 (List.length sz24) cq32) 5 1 (List.length sz24) (sz24.map (Value.int .u8)), Res.row (Value.slice (some ⟨blk16, 0, none⟩) (List.length [hx14, hx15]) cq11) 3 1 (List.length [hx14, hx15]) ([hx14, hx15].map (Value.int .i64)), Res.box blk2 [Value.int .i64 hx14, Value.int .i64 hx15, Value.int .i64 sd22, Value.int .i64 sc23, Value.slice Aq31 (List.length sz24) cq32, Value.int .i64 sm25] 34]) 34 ⟨blk2, 0, none⟩ (Value.agg #[Value.int .i64 hx14, Value.int .i64 hx15, Value.int .i64 sd22, Value.int .i64 sc23, Value.slice Aq31 (List.length sz24) cq32, Value.int .i64 sm25])))) (by kernel_rfl) (ld_boxN (i := 3) (k := 6) rfl rfl rfl (by kernel_rfl)) hS40 (by rw [hR]; dsimp only; exact (hS40s1.eqv (by first | rfl | (rw [hcl]; done) | (simp; done) | (simp [*]; done))).rt ⟨Aq31, cq32, (by first | rfl | (rw [hcl]; done) | (simp; done) | (simp [*]; done)), rfl⟩)
          · skip
            have hb38p := of_decide_eq_false hb38
            refine c_true (b := (!(decide (sr26 = ((n : Nat) : Int))))) (by kernel_rfl) (nb (v := false) hb38) ?_
            refine wp_seq ?_
            refine c_reg ?_
            refine q_seg (S := (fun x_ => St w x_ [Res.box blk34 [Value.int .i64 sd22, Value.int .i64 sc23, Value.slice Aq31 (List.length sz24) cq32, Value.int .i64 sm25] 32, Res.row (Value.slice Aq31 (List.length sz24) cq32) 5 1 (List.length sz24) (sz24.map (Value.int .u8)), Res.row (Value.slice (some ⟨blk16, 0, none⟩) (List.length [hx14, hx15]) cq11) 3 1 (List.length [hx14, hx15]) ([hx14, hx15].map (Value.int .i64)), Res.box blk2 [Value.int .i64 0, Value.int .i64 0, Value.int .i64 0, Value.int .i64 0, Value.slice none 0 0, Value.int .i64 0] 34])) [(46, Value.agg #[Value.int .i64 0, Value.int .i64 0, Value.int .i64 0, Value.int .i64 0, Value.slice none 0 0, Value.int .i64 0])] [.no] True (by kernel_rfl) trivial hS35 ?_
            refine l_op rfl rfl (fun K hK => op_store (d := none) rfl rfl (i := 3) (b := blk2) (off := 0) (cs := [Value.int .i64 0, Value.int .i64 0, Value.int .i64 0, Value.int .i64 0, Value.slice none 0 0, Value.int .i64 0]) (bt := 34) (by kernel_rfl) (by kernel_rfl) [Value.int .i64 0, Value.int .i64 0, Value.int .i64 0, Value.int .i64 0, Value.slice none 0 0, Value.int .i64 0] (by kernel_rfl) (by kernel_rfl) (Nat.le_of_ble_eq_true (by kernel_rfl)) (by kernel_rfl) [Res.box blk34 [Value.int .i64 sd22, Value.int .i64 sc23, Value.slice Aq31 (List.length sz24) cq32, Value.int .i64 sm25] 32, Res.row (Value.slice Aq31 (List.length sz24) cq32) 5 1 (List.length sz24) (sz24.map (Value.int .u8)), Res.row (Value.slice (some ⟨blk16, 0, none⟩) (List.length [hx14, hx15]) cq11) 3 1 (List.length [hx14, hx15]) ([hx14, hx15].map (Value.int .i64)), Res.box blk2 [Value.int .i64 0, Value.int .i64 0, Value.int .i64 0, Value.int .i64 0, Value.slice none 0 0, Value.int .i64 0] 34] (by kernel_rfl) hS35 (fun w41 hS41 => hK _ _ ?_))
            clear hK K
            refine q_seg (S := (fun x_ => St w x_ [Res.box blk34 [Value.int .i64 sd22, Value.int .i64 sc23, Value.slice Aq31 (List.length sz24) cq32, Value.int .i64 sm25] 32, Res.row (Value.slice Aq31 (List.length sz24) cq32) 5 1 (List.length sz24) (sz24.map (Value.int .u8)), Res.row (Value.slice (some ⟨blk16, 0, none⟩) (List.length [hx14, hx15]) cq11) 3 1 (List.length [hx14, hx15]) ([hx14, hx15].map (Value.int .i64)), Res.box blk2 [Value.int .i64 0, Value.int .i64 0, Value.int .i64 0, Value.int .i64 0, Value.slice none 0 0, Value.int .i64 0] 34])) [(3, Value.bool false)] [.no] True (by kernel_rfl) trivial hS41 ?_
            refine l_nil rfl ?_
            refine then_n ?_
            refine wp_ret ?_
            refine then_r ?_
            have hS41s2 : St w w41 [Res.row (Value.slice none 0 0) 5 1 0 ([]), Res.box blk34 [Value.int .i64 sd22, Value.int .i64 sc23, Value.slice Aq31 (List.length sz24) cq32, Value.int .i64 sm25] 32, Res.row (Value.slice Aq31 (List.length sz24) cq32) 5 1 (List.length sz24) (sz24.map (Value.int .u8)), Res.row (Value.slice (some ⟨blk16, 0, none⟩) (List.length [hx14, hx15]) cq11) 3 1 (List.length [hx14, hx15]) ([hx14, hx15].map (Value.int .i64)), Res.box blk2 [Value.int .i64 0, Value.int .i64 0, Value.int .i64 0, Value.int .i64 0, Value.slice none 0 0, Value.int .i64 0] 34] := hS41.nilrow 5 1
            have hS41s2s3 : St w w41 [Res.row (Value.slice none 0 0) 5 1 0 ([])] := (hS41s2.sub (List.Sublist.cons_cons _ (List.Sublist.cons _ (List.Sublist.cons _ (List.Sublist.cons _ (List.Sublist.cons _ List.Sublist.slnil))))))
            have hR : drad zs = (0, 0, 0, 0, [], 0, false) := drad_4 hrd7t13 (inR_true (by omega) (by omega)) (inR_true (by omega) (by omega)) hrd28t37 (by omega)
            exact c_end (S := (fun x_ => St w x_ [Res.box blk34 [Value.int .i64 sd22, Value.int .i64 sc23, Value.slice Aq31 (List.length sz24) cq32, Value.int .i64 sm25] 32, Res.row (Value.slice Aq31 (List.length sz24) cq32) 5 1 (List.length sz24) (sz24.map (Value.int .u8)), Res.row (Value.slice (some ⟨blk16, 0, none⟩) (List.length [hx14, hx15]) cq11) 3 1 (List.length [hx14, hx15]) ([hx14, hx15].map (Value.int .i64)), Res.box blk2 [Value.int .i64 0, Value.int .i64 0, Value.int .i64 0, Value.int .i64 0, Value.slice none 0 0, Value.int .i64 0] 34])) (rs := [.cell 2 34, .tmp 3]) rfl [Value.agg #[Value.int .i64 0, Value.int .i64 0, Value.int .i64 0, Value.int .i64 0, Value.slice none 0 0, Value.int .i64 0]] (v := Value.tuple #[Value.agg #[Value.int .i64 0, Value.int .i64 0, Value.int .i64 0, Value.int .i64 0, Value.slice none 0 0, Value.int .i64 0], Value.bool false]) (C := ((LoadsAt Try.prog (fun x_ => St w x_ [Res.box blk34 [Value.int .i64 sd22, Value.int .i64 sc23, Value.slice Aq31 (List.length sz24) cq32, Value.int .i64 sm25] 32, Res.row (Value.slice Aq31 (List.length sz24) cq32) 5 1 (List.length sz24) (sz24.map (Value.int .u8)), Res.row (Value.slice (some ⟨blk16, 0, none⟩) (List.length [hx14, hx15]) cq11) 3 1 (List.length [hx14, hx15]) ([hx14, hx15].map (Value.int .i64)), Res.box blk2 [Value.int .i64 0, Value.int .i64 0, Value.int .i64 0, Value.int .i64 0, Value.slice none 0 0, Value.int .i64 0] 34]) 34 ⟨blk2, 0, none⟩ (Value.agg #[Value.int .i64 0, Value.int .i64 0, Value.int .i64 0, Value.int .i64 0, Value.slice none 0 0, Value.int .i64 0])))) (by kernel_rfl) (ld_boxN (i := 3) (k := 6) rfl rfl rfl (by kernel_rfl)) hS41 (by rw [hR]; dsimp only; exact (hS41s2s3.eqv (by first | rfl | (rw [hcl]; done) | (simp; done) | (simp [*]; done))).rt ⟨none, 0, (by first | rfl | (rw [hcl]; done) | (simp; done) | (simp [*]; done)), rfl⟩)
        · skip
          have hrd28f42 := hrd28
          rw [hb36] at hrd28f42
          refine q_seg (S := (fun x_ => St w x_ [Res.box blk34 [Value.int .i64 sd22, Value.int .i64 sc23, Value.slice Aq31 (List.length sz24) cq32, Value.int .i64 sm25] 32, Res.row (Value.slice Aq31 (List.length sz24) cq32) 5 1 (List.length sz24) (sz24.map (Value.int .u8)), Res.row (Value.slice (some ⟨blk16, 0, none⟩) (List.length [hx14, hx15]) cq11) 3 1 (List.length [hx14, hx15]) ([hx14, hx15].map (Value.int .i64)), Res.box blk2 [Value.int .i64 0, Value.int .i64 0, Value.int .i64 0, Value.int .i64 0, Value.slice none 0 0, Value.int .i64 0] 34])) [(45, Value.bool true), (44, undef), (43, undef), (42, undef), (41, undef)] [.skip, .skip, .skip, .skip, .v (.bool true)] (((!(so27)) = !false) ∧ ((!(so27)) = !false) ∧ ((!(so27)) = !false) ∧ ((!(so27)) = !false) ∧ ((!(so27)) = true)) (by kernel_rfl) ⟨(nb (v := false) hb36), (nb (v := false) hb36), (nb (v := false) hb36), (nb (v := false) hb36), (nb (v := false) hb36)⟩ hS35 ?_
          refine l_nil rfl ?_
          refine then_n ?_
          refine c_true (b := true) (by kernel_rfl) rfl ?_
          refine wp_seq ?_
          refine c_reg ?_
          refine q_seg (S := (fun x_ => St w x_ [Res.box blk34 [Value.int .i64 sd22, Value.int .i64 sc23, Value.slice Aq31 (List.length sz24) cq32, Value.int .i64 sm25] 32, Res.row (Value.slice Aq31 (List.length sz24) cq32) 5 1 (List.length sz24) (sz24.map (Value.int .u8)), Res.row (Value.slice (some ⟨blk16, 0, none⟩) (List.length [hx14, hx15]) cq11) 3 1 (List.length [hx14, hx15]) ([hx14, hx15].map (Value.int .i64)), Res.box blk2 [Value.int .i64 0, Value.int .i64 0, Value.int .i64 0, Value.int .i64 0, Value.slice none 0 0, Value.int .i64 0] 34])) [(46, Value.agg #[Value.int .i64 0, Value.int .i64 0, Value.int .i64 0, Value.int .i64 0, Value.slice none 0 0, Value.int .i64 0])] [.no] True (by kernel_rfl) trivial hS35 ?_
          refine l_op rfl rfl (fun K hK => op_store (d := none) rfl rfl (i := 3) (b := blk2) (off := 0) (cs := [Value.int .i64 0, Value.int .i64 0, Value.int .i64 0, Value.int .i64 0, Value.slice none 0 0, Value.int .i64 0]) (bt := 34) (by kernel_rfl) (by kernel_rfl) [Value.int .i64 0, Value.int .i64 0, Value.int .i64 0, Value.int .i64 0, Value.slice none 0 0, Value.int .i64 0] (by kernel_rfl) (by kernel_rfl) (Nat.le_of_ble_eq_true (by kernel_rfl)) (by kernel_rfl) [Res.box blk34 [Value.int .i64 sd22, Value.int .i64 sc23, Value.slice Aq31 (List.length sz24) cq32, Value.int .i64 sm25] 32, Res.row (Value.slice Aq31 (List.length sz24) cq32) 5 1 (List.length sz24) (sz24.map (Value.int .u8)), Res.row (Value.slice (some ⟨blk16, 0, none⟩) (List.length [hx14, hx15]) cq11) 3 1 (List.length [hx14, hx15]) ([hx14, hx15].map (Value.int .i64)), Res.box blk2 [Value.int .i64 0, Value.int .i64 0, Value.int .i64 0, Value.int .i64 0, Value.slice none 0 0, Value.int .i64 0] 34] (by kernel_rfl) hS35 (fun w43 hS43 => hK _ _ ?_))
          clear hK K
          refine q_seg (S := (fun x_ => St w x_ [Res.box blk34 [Value.int .i64 sd22, Value.int .i64 sc23, Value.slice Aq31 (List.length sz24) cq32, Value.int .i64 sm25] 32, Res.row (Value.slice Aq31 (List.length sz24) cq32) 5 1 (List.length sz24) (sz24.map (Value.int .u8)), Res.row (Value.slice (some ⟨blk16, 0, none⟩) (List.length [hx14, hx15]) cq11) 3 1 (List.length [hx14, hx15]) ([hx14, hx15].map (Value.int .i64)), Res.box blk2 [Value.int .i64 0, Value.int .i64 0, Value.int .i64 0, Value.int .i64 0, Value.slice none 0 0, Value.int .i64 0] 34])) [(3, Value.bool false)] [.no] True (by kernel_rfl) trivial hS43 ?_
          refine l_nil rfl ?_
          refine then_n ?_
          refine wp_ret ?_
          refine then_r ?_
          have hS43s4 : St w w43 [Res.row (Value.slice none 0 0) 5 1 0 ([]), Res.box blk34 [Value.int .i64 sd22, Value.int .i64 sc23, Value.slice Aq31 (List.length sz24) cq32, Value.int .i64 sm25] 32, Res.row (Value.slice Aq31 (List.length sz24) cq32) 5 1 (List.length sz24) (sz24.map (Value.int .u8)), Res.row (Value.slice (some ⟨blk16, 0, none⟩) (List.length [hx14, hx15]) cq11) 3 1 (List.length [hx14, hx15]) ([hx14, hx15].map (Value.int .i64)), Res.box blk2 [Value.int .i64 0, Value.int .i64 0, Value.int .i64 0, Value.int .i64 0, Value.slice none 0 0, Value.int .i64 0] 34] := hS43.nilrow 5 1
          have hS43s4s5 : St w w43 [Res.row (Value.slice none 0 0) 5 1 0 ([])] := (hS43s4.sub (List.Sublist.cons_cons _ (List.Sublist.cons _ (List.Sublist.cons _ (List.Sublist.cons _ (List.Sublist.cons _ List.Sublist.slnil))))))
          have hR : drad zs = (0, 0, 0, 0, [], 0, false) := drad_3 hrd7t13 (inR_true (by omega) (by omega)) (inR_true (by omega) (by omega)) hrd28f42
          exact c_end (S := (fun x_ => St w x_ [Res.box blk34 [Value.int .i64 sd22, Value.int .i64 sc23, Value.slice Aq31 (List.length sz24) cq32, Value.int .i64 sm25] 32, Res.row (Value.slice Aq31 (List.length sz24) cq32) 5 1 (List.length sz24) (sz24.map (Value.int .u8)), Res.row (Value.slice (some ⟨blk16, 0, none⟩) (List.length [hx14, hx15]) cq11) 3 1 (List.length [hx14, hx15]) ([hx14, hx15].map (Value.int .i64)), Res.box blk2 [Value.int .i64 0, Value.int .i64 0, Value.int .i64 0, Value.int .i64 0, Value.slice none 0 0, Value.int .i64 0] 34])) (rs := [.cell 2 34, .tmp 3]) rfl [Value.agg #[Value.int .i64 0, Value.int .i64 0, Value.int .i64 0, Value.int .i64 0, Value.slice none 0 0, Value.int .i64 0]] (v := Value.tuple #[Value.agg #[Value.int .i64 0, Value.int .i64 0, Value.int .i64 0, Value.int .i64 0, Value.slice none 0 0, Value.int .i64 0], Value.bool false]) (C := ((LoadsAt Try.prog (fun x_ => St w x_ [Res.box blk34 [Value.int .i64 sd22, Value.int .i64 sc23, Value.slice Aq31 (List.length sz24) cq32, Value.int .i64 sm25] 32, Res.row (Value.slice Aq31 (List.length sz24) cq32) 5 1 (List.length sz24) (sz24.map (Value.int .u8)), Res.row (Value.slice (some ⟨blk16, 0, none⟩) (List.length [hx14, hx15]) cq11) 3 1 (List.length [hx14, hx15]) ([hx14, hx15].map (Value.int .i64)), Res.box blk2 [Value.int .i64 0, Value.int .i64 0, Value.int .i64 0, Value.int .i64 0, Value.slice none 0 0, Value.int .i64 0] 34]) 34 ⟨blk2, 0, none⟩ (Value.agg #[Value.int .i64 0, Value.int .i64 0, Value.int .i64 0, Value.int .i64 0, Value.slice none 0 0, Value.int .i64 0])))) (by kernel_rfl) (ld_boxN (i := 3) (k := 6) rfl rfl rfl (by kernel_rfl)) hS43 (by rw [hR]; dsimp only; exact (hS43s4s5.eqv (by first | rfl | (rw [hcl]; done) | (simp; done) | (simp [*]; done))).rt ⟨none, 0, (by first | rfl | (rw [hcl]; done) | (simp; done) | (simp [*]; done)), rfl⟩)
      · skip
        have hb20p := inR_neg hb20
        refine c_true (b := (!(inR hx15 0 100000))) (by kernel_rfl) (nb (v := false) hb20) ?_
        refine wp_seq ?_
        refine c_reg ?_
        refine q_seg (S := (fun x_ => St w x_ [Res.row (Value.slice (some ⟨blk16, 0, none⟩) (List.length [hx14, hx15]) cq11) 3 1 (List.length [hx14, hx15]) ([hx14, hx15].map (Value.int .i64)), Res.box blk2 [Value.int .i64 0, Value.int .i64 0, Value.int .i64 0, Value.int .i64 0, Value.slice none 0 0, Value.int .i64 0] 34])) [(30, Value.agg #[Value.int .i64 0, Value.int .i64 0, Value.int .i64 0, Value.int .i64 0, Value.slice none 0 0, Value.int .i64 0])] [.no] True (by kernel_rfl) trivial hS19 ?_
        refine l_op rfl rfl (fun K hK => op_store (d := none) rfl rfl (i := 1) (b := blk2) (off := 0) (cs := [Value.int .i64 0, Value.int .i64 0, Value.int .i64 0, Value.int .i64 0, Value.slice none 0 0, Value.int .i64 0]) (bt := 34) (by kernel_rfl) (by kernel_rfl) [Value.int .i64 0, Value.int .i64 0, Value.int .i64 0, Value.int .i64 0, Value.slice none 0 0, Value.int .i64 0] (by kernel_rfl) (by kernel_rfl) (Nat.le_of_ble_eq_true (by kernel_rfl)) (by kernel_rfl) [Res.row (Value.slice (some ⟨blk16, 0, none⟩) (List.length [hx14, hx15]) cq11) 3 1 (List.length [hx14, hx15]) ([hx14, hx15].map (Value.int .i64)), Res.box blk2 [Value.int .i64 0, Value.int .i64 0, Value.int .i64 0, Value.int .i64 0, Value.slice none 0 0, Value.int .i64 0] 34] (by kernel_rfl) hS19 (fun w44 hS44 => hK _ _ ?_))
        clear hK K
        refine q_seg (S := (fun x_ => St w x_ [Res.row (Value.slice (some ⟨blk16, 0, none⟩) (List.length [hx14, hx15]) cq11) 3 1 (List.length [hx14, hx15]) ([hx14, hx15].map (Value.int .i64)), Res.box blk2 [Value.int .i64 0, Value.int .i64 0, Value.int .i64 0, Value.int .i64 0, Value.slice none 0 0, Value.int .i64 0] 34])) [(3, Value.bool false)] [.no] True (by kernel_rfl) trivial hS44 ?_
        refine l_nil rfl ?_
        refine then_n ?_
        refine wp_ret ?_
        refine then_r ?_
        have hS44s6 : St w w44 [Res.row (Value.slice none 0 0) 5 1 0 ([]), Res.row (Value.slice (some ⟨blk16, 0, none⟩) (List.length [hx14, hx15]) cq11) 3 1 (List.length [hx14, hx15]) ([hx14, hx15].map (Value.int .i64)), Res.box blk2 [Value.int .i64 0, Value.int .i64 0, Value.int .i64 0, Value.int .i64 0, Value.slice none 0 0, Value.int .i64 0] 34] := hS44.nilrow 5 1
        have hS44s6s7 : St w w44 [Res.row (Value.slice none 0 0) 5 1 0 ([])] := (hS44s6.sub (List.Sublist.cons_cons _ (List.Sublist.cons _ (List.Sublist.cons _ List.Sublist.slnil))))
        have hR : drad zs = (0, 0, 0, 0, [], 0, false) := drad_2 hrd7t13 (by rw [inR_iff, inR_iff]; omega)
        exact c_end (S := (fun x_ => St w x_ [Res.row (Value.slice (some ⟨blk16, 0, none⟩) (List.length [hx14, hx15]) cq11) 3 1 (List.length [hx14, hx15]) ([hx14, hx15].map (Value.int .i64)), Res.box blk2 [Value.int .i64 0, Value.int .i64 0, Value.int .i64 0, Value.int .i64 0, Value.slice none 0 0, Value.int .i64 0] 34])) (rs := [.cell 2 34, .tmp 3]) rfl [Value.agg #[Value.int .i64 0, Value.int .i64 0, Value.int .i64 0, Value.int .i64 0, Value.slice none 0 0, Value.int .i64 0]] (v := Value.tuple #[Value.agg #[Value.int .i64 0, Value.int .i64 0, Value.int .i64 0, Value.int .i64 0, Value.slice none 0 0, Value.int .i64 0], Value.bool false]) (C := ((LoadsAt Try.prog (fun x_ => St w x_ [Res.row (Value.slice (some ⟨blk16, 0, none⟩) (List.length [hx14, hx15]) cq11) 3 1 (List.length [hx14, hx15]) ([hx14, hx15].map (Value.int .i64)), Res.box blk2 [Value.int .i64 0, Value.int .i64 0, Value.int .i64 0, Value.int .i64 0, Value.slice none 0 0, Value.int .i64 0] 34]) 34 ⟨blk2, 0, none⟩ (Value.agg #[Value.int .i64 0, Value.int .i64 0, Value.int .i64 0, Value.int .i64 0, Value.slice none 0 0, Value.int .i64 0])))) (by kernel_rfl) (ld_boxN (i := 1) (k := 6) rfl rfl rfl (by kernel_rfl)) hS44 (by rw [hR]; dsimp only; exact (hS44s6s7.eqv (by first | rfl | (rw [hcl]; done) | (simp; done) | (simp [*]; done))).rt ⟨none, 0, (by first | rfl | (rw [hcl]; done) | (simp; done) | (simp [*]; done)), rfl⟩)
    · skip
      have hb18p := inR_neg hb18
      refine q_seg (S := (fun x_ => St w x_ [Res.row (Value.slice (some ⟨blk16, 0, none⟩) (List.length [hx14, hx15]) cq11) 3 1 (List.length [hx14, hx15]) ([hx14, hx15].map (Value.int .i64)), Res.box blk2 [Value.int .i64 0, Value.int .i64 0, Value.int .i64 0, Value.int .i64 0, Value.slice none 0 0, Value.int .i64 0] 34])) [(29, Value.bool true), (28, undef), (27, undef), (26, undef), (25, undef), (24, undef)] [.skip, .skip, .skip, .skip, .skip, .v (.bool true)] (((!(inR hx14 0 100000)) = !false) ∧ ((!(inR hx14 0 100000)) = !false) ∧ ((!(inR hx14 0 100000)) = !false) ∧ ((!(inR hx14 0 100000)) = !false) ∧ ((!(inR hx14 0 100000)) = !false) ∧ ((!(inR hx14 0 100000)) = true)) (by kernel_rfl) ⟨(nb (v := false) hb18), (nb (v := false) hb18), (nb (v := false) hb18), (nb (v := false) hb18), (nb (v := false) hb18), (nb (v := false) hb18)⟩ hS17 ?_
      refine l_nil rfl ?_
      refine then_n ?_
      refine c_true (b := true) (by kernel_rfl) rfl ?_
      refine wp_seq ?_
      refine c_reg ?_
      refine q_seg (S := (fun x_ => St w x_ [Res.row (Value.slice (some ⟨blk16, 0, none⟩) (List.length [hx14, hx15]) cq11) 3 1 (List.length [hx14, hx15]) ([hx14, hx15].map (Value.int .i64)), Res.box blk2 [Value.int .i64 0, Value.int .i64 0, Value.int .i64 0, Value.int .i64 0, Value.slice none 0 0, Value.int .i64 0] 34])) [(30, Value.agg #[Value.int .i64 0, Value.int .i64 0, Value.int .i64 0, Value.int .i64 0, Value.slice none 0 0, Value.int .i64 0])] [.no] True (by kernel_rfl) trivial hS17 ?_
      refine l_op rfl rfl (fun K hK => op_store (d := none) rfl rfl (i := 1) (b := blk2) (off := 0) (cs := [Value.int .i64 0, Value.int .i64 0, Value.int .i64 0, Value.int .i64 0, Value.slice none 0 0, Value.int .i64 0]) (bt := 34) (by kernel_rfl) (by kernel_rfl) [Value.int .i64 0, Value.int .i64 0, Value.int .i64 0, Value.int .i64 0, Value.slice none 0 0, Value.int .i64 0] (by kernel_rfl) (by kernel_rfl) (Nat.le_of_ble_eq_true (by kernel_rfl)) (by kernel_rfl) [Res.row (Value.slice (some ⟨blk16, 0, none⟩) (List.length [hx14, hx15]) cq11) 3 1 (List.length [hx14, hx15]) ([hx14, hx15].map (Value.int .i64)), Res.box blk2 [Value.int .i64 0, Value.int .i64 0, Value.int .i64 0, Value.int .i64 0, Value.slice none 0 0, Value.int .i64 0] 34] (by kernel_rfl) hS17 (fun w45 hS45 => hK _ _ ?_))
      clear hK K
      refine q_seg (S := (fun x_ => St w x_ [Res.row (Value.slice (some ⟨blk16, 0, none⟩) (List.length [hx14, hx15]) cq11) 3 1 (List.length [hx14, hx15]) ([hx14, hx15].map (Value.int .i64)), Res.box blk2 [Value.int .i64 0, Value.int .i64 0, Value.int .i64 0, Value.int .i64 0, Value.slice none 0 0, Value.int .i64 0] 34])) [(3, Value.bool false)] [.no] True (by kernel_rfl) trivial hS45 ?_
      refine l_nil rfl ?_
      refine then_n ?_
      refine wp_ret ?_
      refine then_r ?_
      have hS45s8 : St w w45 [Res.row (Value.slice none 0 0) 5 1 0 ([]), Res.row (Value.slice (some ⟨blk16, 0, none⟩) (List.length [hx14, hx15]) cq11) 3 1 (List.length [hx14, hx15]) ([hx14, hx15].map (Value.int .i64)), Res.box blk2 [Value.int .i64 0, Value.int .i64 0, Value.int .i64 0, Value.int .i64 0, Value.slice none 0 0, Value.int .i64 0] 34] := hS45.nilrow 5 1
      have hS45s8s9 : St w w45 [Res.row (Value.slice none 0 0) 5 1 0 ([])] := (hS45s8.sub (List.Sublist.cons_cons _ (List.Sublist.cons _ (List.Sublist.cons _ List.Sublist.slnil))))
      have hR : drad zs = (0, 0, 0, 0, [], 0, false) := drad_2 hrd7t13 (by rw [inR_iff, inR_iff]; omega)
      exact c_end (S := (fun x_ => St w x_ [Res.row (Value.slice (some ⟨blk16, 0, none⟩) (List.length [hx14, hx15]) cq11) 3 1 (List.length [hx14, hx15]) ([hx14, hx15].map (Value.int .i64)), Res.box blk2 [Value.int .i64 0, Value.int .i64 0, Value.int .i64 0, Value.int .i64 0, Value.slice none 0 0, Value.int .i64 0] 34])) (rs := [.cell 2 34, .tmp 3]) rfl [Value.agg #[Value.int .i64 0, Value.int .i64 0, Value.int .i64 0, Value.int .i64 0, Value.slice none 0 0, Value.int .i64 0]] (v := Value.tuple #[Value.agg #[Value.int .i64 0, Value.int .i64 0, Value.int .i64 0, Value.int .i64 0, Value.slice none 0 0, Value.int .i64 0], Value.bool false]) (C := ((LoadsAt Try.prog (fun x_ => St w x_ [Res.row (Value.slice (some ⟨blk16, 0, none⟩) (List.length [hx14, hx15]) cq11) 3 1 (List.length [hx14, hx15]) ([hx14, hx15].map (Value.int .i64)), Res.box blk2 [Value.int .i64 0, Value.int .i64 0, Value.int .i64 0, Value.int .i64 0, Value.slice none 0 0, Value.int .i64 0] 34]) 34 ⟨blk2, 0, none⟩ (Value.agg #[Value.int .i64 0, Value.int .i64 0, Value.int .i64 0, Value.int .i64 0, Value.slice none 0 0, Value.int .i64 0])))) (by kernel_rfl) (ld_boxN (i := 1) (k := 6) rfl rfl rfl (by kernel_rfl)) hS45 (by rw [hR]; dsimp only; exact (hS45s8s9.eqv (by first | rfl | (rw [hcl]; done) | (simp; done) | (simp [*]; done))).rt ⟨none, 0, (by first | rfl | (rw [hcl]; done) | (simp; done) | (simp [*]; done)), rfl⟩)
  · skip
    have hrd7f46 := hrd7
    rw [hb12] at hrd7f46
    refine q_seg (S := (fun x_ => St w x_ [Res.row (Value.slice Aq10 (List.length dl4) cq11) 3 1 (List.length dl4) (dl4.map (Value.int .i64)), Res.box blk2 [Value.int .i64 0, Value.int .i64 0, Value.int .i64 0, Value.int .i64 0, Value.slice none 0 0, Value.int .i64 0] 34])) [(29, Value.bool true), (28, undef), (27, undef), (26, undef), (25, undef), (24, undef), (23, Value.bool true), (22, Value.bool true), (21, undef), (20, undef), (19, undef), (18, undef), (17, undef)] [.skip, .skip, .skip, .skip, .skip, .v (.bool true), .no, .skip, .skip, .skip, .skip, .skip, .v (.bool true)] (((!(do6)) = !false) ∧ ((!(do6)) = !false) ∧ ((!(do6)) = !false) ∧ ((!(do6)) = !false) ∧ ((!(do6)) = !false) ∧ ((!(do6)) = true) ∧ (true = !false) ∧ (true = !false) ∧ (true = !false) ∧ (true = !false) ∧ (true = !false) ∧ (true = true)) (by kernel_rfl) ⟨(nb (v := false) hb12), (nb (v := false) hb12), (nb (v := false) hb12), (nb (v := false) hb12), (nb (v := false) hb12), (nb (v := false) hb12), rfl, rfl, rfl, rfl, rfl, rfl⟩ hS3 ?_
    refine l_nil rfl ?_
    refine then_n ?_
    refine c_true (b := true) (by kernel_rfl) rfl ?_
    refine wp_seq ?_
    refine c_reg ?_
    refine q_seg (S := (fun x_ => St w x_ [Res.row (Value.slice Aq10 (List.length dl4) cq11) 3 1 (List.length dl4) (dl4.map (Value.int .i64)), Res.box blk2 [Value.int .i64 0, Value.int .i64 0, Value.int .i64 0, Value.int .i64 0, Value.slice none 0 0, Value.int .i64 0] 34])) [(30, Value.agg #[Value.int .i64 0, Value.int .i64 0, Value.int .i64 0, Value.int .i64 0, Value.slice none 0 0, Value.int .i64 0])] [.no] True (by kernel_rfl) trivial hS3 ?_
    refine l_op rfl rfl (fun K hK => op_store (d := none) rfl rfl (i := 1) (b := blk2) (off := 0) (cs := [Value.int .i64 0, Value.int .i64 0, Value.int .i64 0, Value.int .i64 0, Value.slice none 0 0, Value.int .i64 0]) (bt := 34) (by kernel_rfl) (by kernel_rfl) [Value.int .i64 0, Value.int .i64 0, Value.int .i64 0, Value.int .i64 0, Value.slice none 0 0, Value.int .i64 0] (by kernel_rfl) (by kernel_rfl) (Nat.le_of_ble_eq_true (by kernel_rfl)) (by kernel_rfl) [Res.row (Value.slice Aq10 (List.length dl4) cq11) 3 1 (List.length dl4) (dl4.map (Value.int .i64)), Res.box blk2 [Value.int .i64 0, Value.int .i64 0, Value.int .i64 0, Value.int .i64 0, Value.slice none 0 0, Value.int .i64 0] 34] (by kernel_rfl) hS3 (fun w47 hS47 => hK _ _ ?_))
    clear hK K
    refine q_seg (S := (fun x_ => St w x_ [Res.row (Value.slice Aq10 (List.length dl4) cq11) 3 1 (List.length dl4) (dl4.map (Value.int .i64)), Res.box blk2 [Value.int .i64 0, Value.int .i64 0, Value.int .i64 0, Value.int .i64 0, Value.slice none 0 0, Value.int .i64 0] 34])) [(3, Value.bool false)] [.no] True (by kernel_rfl) trivial hS47 ?_
    refine l_nil rfl ?_
    refine then_n ?_
    refine wp_ret ?_
    refine then_r ?_
    have hS47s10 : St w w47 [Res.row (Value.slice none 0 0) 5 1 0 ([]), Res.row (Value.slice Aq10 (List.length dl4) cq11) 3 1 (List.length dl4) (dl4.map (Value.int .i64)), Res.box blk2 [Value.int .i64 0, Value.int .i64 0, Value.int .i64 0, Value.int .i64 0, Value.slice none 0 0, Value.int .i64 0] 34] := hS47.nilrow 5 1
    have hS47s10s11 : St w w47 [Res.row (Value.slice none 0 0) 5 1 0 ([])] := (hS47s10.sub (List.Sublist.cons_cons _ (List.Sublist.cons _ (List.Sublist.cons _ List.Sublist.slnil))))
    have hR : drad zs = (0, 0, 0, 0, [], 0, false) := drad_1 hrd7f46
    exact c_end (S := (fun x_ => St w x_ [Res.row (Value.slice Aq10 (List.length dl4) cq11) 3 1 (List.length dl4) (dl4.map (Value.int .i64)), Res.box blk2 [Value.int .i64 0, Value.int .i64 0, Value.int .i64 0, Value.int .i64 0, Value.slice none 0 0, Value.int .i64 0] 34])) (rs := [.cell 2 34, .tmp 3]) rfl [Value.agg #[Value.int .i64 0, Value.int .i64 0, Value.int .i64 0, Value.int .i64 0, Value.slice none 0 0, Value.int .i64 0]] (v := Value.tuple #[Value.agg #[Value.int .i64 0, Value.int .i64 0, Value.int .i64 0, Value.int .i64 0, Value.slice none 0 0, Value.int .i64 0], Value.bool false]) (C := ((LoadsAt Try.prog (fun x_ => St w x_ [Res.row (Value.slice Aq10 (List.length dl4) cq11) 3 1 (List.length dl4) (dl4.map (Value.int .i64)), Res.box blk2 [Value.int .i64 0, Value.int .i64 0, Value.int .i64 0, Value.int .i64 0, Value.slice none 0 0, Value.int .i64 0] 34]) 34 ⟨blk2, 0, none⟩ (Value.agg #[Value.int .i64 0, Value.int .i64 0, Value.int .i64 0, Value.int .i64 0, Value.slice none 0 0, Value.int .i64 0])))) (by kernel_rfl) (ld_boxN (i := 1) (k := 6) rfl rfl rfl (by kernel_rfl)) hS47 (by rw [hR]; dsimp only; exact (hS47s10s11.eqv (by first | rfl | (rw [hcl]; done) | (simp; done) | (simp [*]; done))).rt ⟨none, 0, (by first | rfl | (rw [hcl]; done) | (simp; done) | (simp [*]; done)), rfl⟩)
theorem DecodeRadio_s_c (A : Option Addr) (n c : Nat) (zs : List Int) (w : World) (hn : n ≤ 1000000000) (hz : okz .u8 zs) (hr : Rd w w.heap.size A n (zs.map (Value.int .u8))) (hnc : n ≤ c) : Calls Try.prog 27 #[.slice A n c] w (Ret w (fun v new => ∃ (A_ : Option Addr) (c_ : Nat), v = .tuple #[.agg #[.int .i64 (drad zs).1, .int .i64 (drad zs).2.1, .int .i64 (drad zs).2.2.1, .int .i64 (drad zs).2.2.2.1, .slice A_ (List.length (drad zs).2.2.2.2.1) c_, .int .i64 (drad zs).2.2.2.2.2.1], .bool (drad zs).2.2.2.2.2.2] ∧ new = [Res.row (.slice A_ (List.length (drad zs).2.2.2.2.1) c_) 5 1 (List.length (drad zs).2.2.2.2.1) ((drad zs).2.2.2.2.1.map (Value.int .u8))])) := by
  have hln := hr.len
  refine calls_FA Try.func27 rfl (n := 48) rfl (l := [(0, Value.slice A n c)]) rfl (by simp) (fun g => ?_)
  have hS := St.init w
  refine wp_seq ?_
  refine c_reg ?_
  refine l_op rfl rfl (fun K hK => op_alloc (d := some 2) rfl rfl [Value.int .i64 0, Value.int .i64 0, Value.int .i64 0, Value.int .i64 0, Value.slice none 0 0, Value.int .i64 0] (by kernel_rfl) hS (fun blk2 w1 hS1 => hK _ _ ?_))
  clear hK K
  refine q_seg (S := (fun x_ => St w x_ [Res.box blk2 [Value.int .i64 0, Value.int .i64 0, Value.int .i64 0, Value.int .i64 0, Value.slice none 0 0, Value.int .i64 0] 34])) [(3, Value.bool false)] [.no] True (by kernel_rfl) trivial hS1 ?_
  refine l_nil rfl ?_
  refine then_n ?_
  refine wp_seq ?_
  refine c_reg ?_
  refine q_seg (S := (fun x_ => St w x_ [Res.box blk2 [Value.int .i64 0, Value.int .i64 0, Value.int .i64 0, Value.int .i64 0, Value.slice none 0 0, Value.int .i64 0] 34])) [(10, Value.slice A n c)] [.no] True (by kernel_rfl) trivial hS1 ?_
  obtain ⟨dl4, dp5, do6, hrd7⟩ : ∃ (dl4 : List Int) (dp5 : Int) (do6 : Bool), dec2 zs (0 : Int) = (dl4, dp5, do6) := ⟨_, _, _, rfl⟩
  refine l_op rfl rfl (fun K hK => op_call (d := some 11) rfl rfl ⟨_, Try.func64, by kernel_rfl, by kernel_rfl⟩ (vs := [Value.slice A n c, Value.int .i64 0, Value.int .i64 2]) (by kernel_rfl) (DecodeInts_s_c A n c zs (0 : Int) w1 (by omega) hz (hS1.rdlow hr)) hS1 (fun v8 new9 w3 Rw3 hS3 => hK _ _ ?_))
  clear hK K
  rw [hrd7] at Rw3
  dsimp only at Rw3
  obtain ⟨Aq10, cq11, rfl, rfl⟩ := Rw3
  refine q_seg (S := (fun x_ => St w x_ [Res.row (Value.slice Aq10 (List.length dl4) cq11) 3 1 (List.length dl4) (dl4.map (Value.int .i64)), Res.box blk2 [Value.int .i64 0, Value.int .i64 0, Value.int .i64 0, Value.int .i64 0, Value.slice none 0 0, Value.int .i64 0] 34])) [(6, Value.bool do6), (5, Value.int .i64 dp5), (4, Value.slice Aq10 (List.length dl4) cq11), (14, Value.bool do6), (13, Value.int .i64 dp5), (12, Value.slice Aq10 (List.length dl4) cq11), (9, Value.tuple #[Value.slice Aq10 (List.length dl4) cq11, Value.int .i64 dp5, Value.bool do6])] [.no, .no, .no, .no, .no, .no, .no] True (by kernel_rfl) trivial hS3 ?_
  refine l_nil rfl ?_
  refine then_n ?_
  refine wp_seq ?_
  refine wp_seq ?_
  refine c_reg ?_
  refine q_seg (S := (fun x_ => St w x_ [Res.row (Value.slice Aq10 (List.length dl4) cq11) 3 1 (List.length dl4) (dl4.map (Value.int .i64)), Res.box blk2 [Value.int .i64 0, Value.int .i64 0, Value.int .i64 0, Value.int .i64 0, Value.slice none 0 0, Value.int .i64 0] 34])) [(17, Value.bool (!(do6))), (16, Value.bool (!(do6))), (15, Value.bool do6)] [.no, .no, .no] True (by kernel_rfl) trivial hS3 ?_
  rcases Bool.eq_false_or_eq_true (do6) with hb12 | hb12
  · skip
    have hrd7t13 := hrd7
    rw [hb12] at hrd7t13
    obtain ⟨hx14, hx15, _, hrd7t13L, _, _, hrd7t13a, hrd7t13b, hrd7t13c, hrd7t13d, hrd7t13e, hrd7t13g, hrd7t13i⟩ := dec2_ok hz hrd7t13
    subst hrd7t13L
    have hrd7t13l : List.length [hx14, hx15] = 2 := rfl
    obtain ⟨blk16, rfl⟩ := hS3.row_at (List.mem_of_getElem? (i := 0) rfl) (by omega)
    refine q_seg (S := (fun x_ => St w x_ [Res.row (Value.slice (some ⟨blk16, 0, none⟩) (List.length [hx14, hx15]) cq11) 3 1 (List.length [hx14, hx15]) ([hx14, hx15].map (Value.int .i64)), Res.box blk2 [Value.int .i64 0, Value.int .i64 0, Value.int .i64 0, Value.int .i64 0, Value.slice none 0 0, Value.int .i64 0] 34])) [(23, Value.bool (decide ((100000 : Int) < hx14))), (22, Value.bool (decide ((100000 : Int) < hx14))), (21, Value.bool (decide ((100000 : Int) < hx14))), (20, Value.int .i64 hx14), (19, Value.pointer (some ⟨blk16, 0 + Int.toNat 0 * 1, none⟩)), (18, Value.slice (some ⟨blk16, 0, none⟩) (List.length [hx14, hx15]) cq11)] [.no, .no, .v (Value.int .i64 hx14), .no, .v (.bool false), .no] (((!(do6)) = false) ∧ ((!(do6)) = false) ∧ ((0 : Int) ≤ 0) ∧ (0 < (((List.length [hx14, hx15]) : Nat) : Int)) ∧ ((!(do6)) = false) ∧ (LoadsAt Try.prog (fun x_ => St w x_ [Res.row (Value.slice (some ⟨blk16, 0, none⟩) (List.length [hx14, hx15]) cq11) 3 1 (List.length [hx14, hx15]) ([hx14, hx15].map (Value.int .i64)), Res.box blk2 [Value.int .i64 0, Value.int .i64 0, Value.int .i64 0, Value.int .i64 0, Value.slice none 0 0, Value.int .i64 0] 34]) 3 ⟨blk16, 0 + Int.toNat 0 * 1, none⟩ (Value.int .i64 hx14)) ∧ ((!(do6)) = false) ∧ ((!(do6)) = false)) (by kernel_rfl) ⟨(nb (v := true) hb12), (nb (v := true) hb12), (by omega), (by omega), (nb (v := true) hb12), (ld_row (i := 0) rfl rfl (by kernel_rfl)), (nb (v := true) hb12), (nb (v := true) hb12)⟩ hS3 ?_
    rcases Bool.eq_false_or_eq_true (decide ((100000 : Int) < hx14)) with hb17 | hb17
    · skip
      have hb17p := of_decide_eq_true hb17
      refine q_seg (S := (fun x_ => St w x_ [Res.row (Value.slice (some ⟨blk16, 0, none⟩) (List.length [hx14, hx15]) cq11) 3 1 (List.length [hx14, hx15]) ([hx14, hx15].map (Value.int .i64)), Res.box blk2 [Value.int .i64 0, Value.int .i64 0, Value.int .i64 0, Value.int .i64 0, Value.slice none 0 0, Value.int .i64 0] 34])) [(28, Value.bool true), (27, undef), (26, undef), (25, undef), (24, undef)] [.skip, .skip, .skip, .skip, .v (.bool true)] (((decide ((100000 : Int) < hx14)) = !false) ∧ ((decide ((100000 : Int) < hx14)) = !false) ∧ ((decide ((100000 : Int) < hx14)) = !false) ∧ ((decide ((100000 : Int) < hx14)) = !false) ∧ ((decide ((100000 : Int) < hx14)) = true)) (by kernel_rfl) ⟨hb17, hb17, hb17, hb17, hb17⟩ hS3 ?_
      refine l_nil rfl ?_
      refine then_n ?_
      refine c_true (b := true) (by kernel_rfl) rfl ?_
      refine wp_seq ?_
      refine c_reg ?_
      refine q_seg (S := (fun x_ => St w x_ [Res.row (Value.slice (some ⟨blk16, 0, none⟩) (List.length [hx14, hx15]) cq11) 3 1 (List.length [hx14, hx15]) ([hx14, hx15].map (Value.int .i64)), Res.box blk2 [Value.int .i64 0, Value.int .i64 0, Value.int .i64 0, Value.int .i64 0, Value.slice none 0 0, Value.int .i64 0] 34])) [(29, Value.agg #[Value.int .i64 0, Value.int .i64 0, Value.int .i64 0, Value.int .i64 0, Value.slice none 0 0, Value.int .i64 0])] [.no] True (by kernel_rfl) trivial hS3 ?_
      refine l_op rfl rfl (fun K hK => op_store (d := none) rfl rfl (i := 1) (b := blk2) (off := 0) (cs := [Value.int .i64 0, Value.int .i64 0, Value.int .i64 0, Value.int .i64 0, Value.slice none 0 0, Value.int .i64 0]) (bt := 34) (by kernel_rfl) (by kernel_rfl) [Value.int .i64 0, Value.int .i64 0, Value.int .i64 0, Value.int .i64 0, Value.slice none 0 0, Value.int .i64 0] (by kernel_rfl) (by kernel_rfl) (Nat.le_of_ble_eq_true (by kernel_rfl)) (by kernel_rfl) [Res.row (Value.slice (some ⟨blk16, 0, none⟩) (List.length [hx14, hx15]) cq11) 3 1 (List.length [hx14, hx15]) ([hx14, hx15].map (Value.int .i64)), Res.box blk2 [Value.int .i64 0, Value.int .i64 0, Value.int .i64 0, Value.int .i64 0, Value.slice none 0 0, Value.int .i64 0] 34] (by kernel_rfl) hS3 (fun w18 hS18 => hK _ _ ?_))
      clear hK K
      refine q_seg (S := (fun x_ => St w x_ [Res.row (Value.slice (some ⟨blk16, 0, none⟩) (List.length [hx14, hx15]) cq11) 3 1 (List.length [hx14, hx15]) ([hx14, hx15].map (Value.int .i64)), Res.box blk2 [Value.int .i64 0, Value.int .i64 0, Value.int .i64 0, Value.int .i64 0, Value.slice none 0 0, Value.int .i64 0] 34])) [(3, Value.bool false)] [.no] True (by kernel_rfl) trivial hS18 ?_
      refine l_nil rfl ?_
      refine then_n ?_
      refine wp_ret ?_
      refine then_r ?_
      have hS18s1 : St w w18 [Res.row (Value.slice none 0 0) 5 1 0 ([]), Res.row (Value.slice (some ⟨blk16, 0, none⟩) (List.length [hx14, hx15]) cq11) 3 1 (List.length [hx14, hx15]) ([hx14, hx15].map (Value.int .i64)), Res.box blk2 [Value.int .i64 0, Value.int .i64 0, Value.int .i64 0, Value.int .i64 0, Value.slice none 0 0, Value.int .i64 0] 34] := hS18.nilrow 5 1
      have hS18s1s2 : St w w18 [Res.row (Value.slice none 0 0) 5 1 0 ([])] := (hS18s1.sub (List.Sublist.cons_cons _ (List.Sublist.cons _ (List.Sublist.cons _ List.Sublist.slnil))))
      have hR : drad zs = (0, 0, 0, 0, [], 0, false) := drad_2 hrd7t13 (by rw [inR_iff, inR_iff]; omega)
      exact c_end (S := (fun x_ => St w x_ [Res.row (Value.slice (some ⟨blk16, 0, none⟩) (List.length [hx14, hx15]) cq11) 3 1 (List.length [hx14, hx15]) ([hx14, hx15].map (Value.int .i64)), Res.box blk2 [Value.int .i64 0, Value.int .i64 0, Value.int .i64 0, Value.int .i64 0, Value.slice none 0 0, Value.int .i64 0] 34])) (rs := [.cell 2 34, .tmp 3]) rfl [Value.agg #[Value.int .i64 0, Value.int .i64 0, Value.int .i64 0, Value.int .i64 0, Value.slice none 0 0, Value.int .i64 0]] (v := Value.tuple #[Value.agg #[Value.int .i64 0, Value.int .i64 0, Value.int .i64 0, Value.int .i64 0, Value.slice none 0 0, Value.int .i64 0], Value.bool false]) (C := ((LoadsAt Try.prog (fun x_ => St w x_ [Res.row (Value.slice (some ⟨blk16, 0, none⟩) (List.length [hx14, hx15]) cq11) 3 1 (List.length [hx14, hx15]) ([hx14, hx15].map (Value.int .i64)), Res.box blk2 [Value.int .i64 0, Value.int .i64 0, Value.int .i64 0, Value.int .i64 0, Value.slice none 0 0, Value.int .i64 0] 34]) 34 ⟨blk2, 0, none⟩ (Value.agg #[Value.int .i64 0, Value.int .i64 0, Value.int .i64 0, Value.int .i64 0, Value.slice none 0 0, Value.int .i64 0])))) (by kernel_rfl) (ld_boxN (i := 1) (k := 6) rfl rfl rfl (by kernel_rfl)) hS18 (by rw [hR]; dsimp only; exact (hS18s1s2.eqv (by first | rfl | (rw [hcl]; done) | (simp; done) | (simp [*]; done))).rt ⟨none, 0, (by first | rfl | (rw [hcl]; done) | (simp; done) | (simp [*]; done)), rfl⟩)
    · skip
      have hb17p := of_decide_eq_false hb17
      refine q_seg (S := (fun x_ => St w x_ [Res.row (Value.slice (some ⟨blk16, 0, none⟩) (List.length [hx14, hx15]) cq11) 3 1 (List.length [hx14, hx15]) ([hx14, hx15].map (Value.int .i64)), Res.box blk2 [Value.int .i64 0, Value.int .i64 0, Value.int .i64 0, Value.int .i64 0, Value.slice none 0 0, Value.int .i64 0] 34])) [(28, Value.bool (decide ((100000 : Int) < hx15))), (27, Value.bool (decide ((100000 : Int) < hx15))), (26, Value.int .i64 hx15), (25, Value.pointer (some ⟨blk16, 0 + Int.toNat 1 * 1, none⟩)), (24, Value.slice (some ⟨blk16, 0, none⟩) (List.length [hx14, hx15]) cq11)] [.no, .no, .v (Value.int .i64 hx15), .no, .v (.bool false)] (((decide ((100000 : Int) < hx14)) = false) ∧ ((decide ((100000 : Int) < hx14)) = false) ∧ ((0 : Int) ≤ 1) ∧ (1 < (((List.length [hx14, hx15]) : Nat) : Int)) ∧ ((decide ((100000 : Int) < hx14)) = false) ∧ (LoadsAt Try.prog (fun x_ => St w x_ [Res.row (Value.slice (some ⟨blk16, 0, none⟩) (List.length [hx14, hx15]) cq11) 3 1 (List.length [hx14, hx15]) ([hx14, hx15].map (Value.int .i64)), Res.box blk2 [Value.int .i64 0, Value.int .i64 0, Value.int .i64 0, Value.int .i64 0, Value.slice none 0 0, Value.int .i64 0] 34]) 3 ⟨blk16, 0 + Int.toNat 1 * 1, none⟩ (Value.int .i64 hx15)) ∧ ((decide ((100000 : Int) < hx14)) = false) ∧ ((decide ((100000 : Int) < hx14)) = false)) (by kernel_rfl) ⟨hb17, hb17, (by omega), (by omega), hb17, (ld_row (i := 0) rfl rfl (by kernel_rfl)), hb17, hb17⟩ hS3 ?_
      refine l_nil rfl ?_
      refine then_n ?_
      rcases Bool.eq_false_or_eq_true (decide ((100000 : Int) < hx15)) with hb19 | hb19
      · skip
        have hb19p := of_decide_eq_true hb19
        refine c_true (b := (decide ((100000 : Int) < hx15))) (by kernel_rfl) hb19 ?_
        refine wp_seq ?_
        refine c_reg ?_
        refine q_seg (S := (fun x_ => St w x_ [Res.row (Value.slice (some ⟨blk16, 0, none⟩) (List.length [hx14, hx15]) cq11) 3 1 (List.length [hx14, hx15]) ([hx14, hx15].map (Value.int .i64)), Res.box blk2 [Value.int .i64 0, Value.int .i64 0, Value.int .i64 0, Value.int .i64 0, Value.slice none 0 0, Value.int .i64 0] 34])) [(29, Value.agg #[Value.int .i64 0, Value.int .i64 0, Value.int .i64 0, Value.int .i64 0, Value.slice none 0 0, Value.int .i64 0])] [.no] True (by kernel_rfl) trivial hS3 ?_
        refine l_op rfl rfl (fun K hK => op_store (d := none) rfl rfl (i := 1) (b := blk2) (off := 0) (cs := [Value.int .i64 0, Value.int .i64 0, Value.int .i64 0, Value.int .i64 0, Value.slice none 0 0, Value.int .i64 0]) (bt := 34) (by kernel_rfl) (by kernel_rfl) [Value.int .i64 0, Value.int .i64 0, Value.int .i64 0, Value.int .i64 0, Value.slice none 0 0, Value.int .i64 0] (by kernel_rfl) (by kernel_rfl) (Nat.le_of_ble_eq_true (by kernel_rfl)) (by kernel_rfl) [Res.row (Value.slice (some ⟨blk16, 0, none⟩) (List.length [hx14, hx15]) cq11) 3 1 (List.length [hx14, hx15]) ([hx14, hx15].map (Value.int .i64)), Res.box blk2 [Value.int .i64 0, Value.int .i64 0, Value.int .i64 0, Value.int .i64 0, Value.slice none 0 0, Value.int .i64 0] 34] (by kernel_rfl) hS3 (fun w20 hS20 => hK _ _ ?_))
        clear hK K
        refine q_seg (S := (fun x_ => St w x_ [Res.row (Value.slice (some ⟨blk16, 0, none⟩) (List.length [hx14, hx15]) cq11) 3 1 (List.length [hx14, hx15]) ([hx14, hx15].map (Value.int .i64)), Res.box blk2 [Value.int .i64 0, Value.int .i64 0, Value.int .i64 0, Value.int .i64 0, Value.slice none 0 0, Value.int .i64 0] 34])) [(3, Value.bool false)] [.no] True (by kernel_rfl) trivial hS20 ?_
        refine l_nil rfl ?_
        refine then_n ?_
        refine wp_ret ?_
        refine then_r ?_
        have hS20s3 : St w w20 [Res.row (Value.slice none 0 0) 5 1 0 ([]), Res.row (Value.slice (some ⟨blk16, 0, none⟩) (List.length [hx14, hx15]) cq11) 3 1 (List.length [hx14, hx15]) ([hx14, hx15].map (Value.int .i64)), Res.box blk2 [Value.int .i64 0, Value.int .i64 0, Value.int .i64 0, Value.int .i64 0, Value.slice none 0 0, Value.int .i64 0] 34] := hS20.nilrow 5 1
        have hS20s3s4 : St w w20 [Res.row (Value.slice none 0 0) 5 1 0 ([])] := (hS20s3.sub (List.Sublist.cons_cons _ (List.Sublist.cons _ (List.Sublist.cons _ List.Sublist.slnil))))
        have hR : drad zs = (0, 0, 0, 0, [], 0, false) := drad_2 hrd7t13 (by rw [inR_iff, inR_iff]; omega)
        exact c_end (S := (fun x_ => St w x_ [Res.row (Value.slice (some ⟨blk16, 0, none⟩) (List.length [hx14, hx15]) cq11) 3 1 (List.length [hx14, hx15]) ([hx14, hx15].map (Value.int .i64)), Res.box blk2 [Value.int .i64 0, Value.int .i64 0, Value.int .i64 0, Value.int .i64 0, Value.slice none 0 0, Value.int .i64 0] 34])) (rs := [.cell 2 34, .tmp 3]) rfl [Value.agg #[Value.int .i64 0, Value.int .i64 0, Value.int .i64 0, Value.int .i64 0, Value.slice none 0 0, Value.int .i64 0]] (v := Value.tuple #[Value.agg #[Value.int .i64 0, Value.int .i64 0, Value.int .i64 0, Value.int .i64 0, Value.slice none 0 0, Value.int .i64 0], Value.bool false]) (C := ((LoadsAt Try.prog (fun x_ => St w x_ [Res.row (Value.slice (some ⟨blk16, 0, none⟩) (List.length [hx14, hx15]) cq11) 3 1 (List.length [hx14, hx15]) ([hx14, hx15].map (Value.int .i64)), Res.box blk2 [Value.int .i64 0, Value.int .i64 0, Value.int .i64 0, Value.int .i64 0, Value.slice none 0 0, Value.int .i64 0] 34]) 34 ⟨blk2, 0, none⟩ (Value.agg #[Value.int .i64 0, Value.int .i64 0, Value.int .i64 0, Value.int .i64 0, Value.slice none 0 0, Value.int .i64 0])))) (by kernel_rfl) (ld_boxN (i := 1) (k := 6) rfl rfl rfl (by kernel_rfl)) hS20 (by rw [hR]; dsimp only; exact (hS20s3s4.eqv (by first | rfl | (rw [hcl]; done) | (simp; done) | (simp [*]; done))).rt ⟨none, 0, (by first | rfl | (rw [hcl]; done) | (simp; done) | (simp [*]; done)), rfl⟩)
      · skip
        have hb19p := of_decide_eq_false hb19
        refine c_false (b := (decide ((100000 : Int) < hx15))) (by kernel_rfl) hb19 ?_
        refine wp_skip ?_
        refine then_n ?_
        refine wp_seq ?_
        refine c_reg ?_
        refine q_seg (S := (fun x_ => St w x_ [Res.row (Value.slice (some ⟨blk16, 0, none⟩) (List.length [hx14, hx15]) cq11) 3 1 (List.length [hx14, hx15]) ([hx14, hx15].map (Value.int .i64)), Res.box blk2 [Value.int .i64 0, Value.int .i64 0, Value.int .i64 0, Value.int .i64 0, Value.slice none 0 0, Value.int .i64 0] 34])) [(33, Value.slice (cutA A c (Int.toNat dp5) 1) (n - (Int.toNat dp5)) (c - (Int.toNat dp5))), (32, Value.int .i64 dp5), (31, Value.slice A n c)] [.no, .no, .no] (((0 : Int) ≤ dp5) ∧ (dp5 ≤ ((n : Nat) : Int)) ∧ (((n : Nat) : Int) ≤ ((c : Nat) : Int)) ∧ (n ≤ c)) (by kernel_rfl) ⟨(by omega), (by omega), (by omega), (by omega)⟩ hS3 ?_
        obtain ⟨sd22, sc23, sz24, sm25, so26, hrd27⟩ : ∃ (sd22 : Int) (sc23 : Int) (sz24 : List Int) (sm25 : Int) (so26 : Bool), dsec (zs.drop (Int.toNat dp5)) = (sd22, sc23, sz24, sm25, so26) := ⟨_, _, _, _, _, rfl⟩
        refine l_op rfl rfl (fun K hK => op_call (d := some 34) rfl rfl ⟨_, Try.func65, by kernel_rfl, by kernel_rfl⟩ (vs := [Value.slice (cutA A c (Int.toNat dp5) 1) (n - (Int.toNat dp5)) (c - (Int.toNat dp5))]) (by kernel_rfl) (DecodeSecured_s_c (cutA A c (Int.toNat dp5) 1) (n - (Int.toNat dp5)) (c - (Int.toNat dp5)) (zs.drop (Int.toNat dp5)) w3 (by omega) (fun z hz_ => hz z (List.mem_of_mem_drop hz_)) (hS3.rdlow (by have h_ := rd_cut8 (l := Int.toNat dp5) (r := n) hr (by omega) (Nat.le_refl _) hnc; rw [List.take_of_length_le (by omega)] at h_; exact h_)) (by omega)) hS3 (fun v28 new29 w21 Rw21 hS21 => hK _ _ ?_))
        clear hK K
        rw [hrd27] at Rw21
        dsimp only at Rw21
        obtain ⟨Aq30, cq31, rfl, rfl⟩ := Rw21
        obtain ⟨hrd27o, hrd27A⟩ := dsec_all (fun z hz_ => hz z (List.mem_of_mem_drop hz_)) hrd27
        refine q_seg (S := (fun x_ => St w x_ [Res.row (Value.slice Aq30 (List.length sz24) cq31) 5 1 (List.length sz24) (sz24.map (Value.int .u8)), Res.row (Value.slice (some ⟨blk16, 0, none⟩) (List.length [hx14, hx15]) cq11) 3 1 (List.length [hx14, hx15]) ([hx14, hx15].map (Value.int .i64)), Res.box blk2 [Value.int .i64 0, Value.int .i64 0, Value.int .i64 0, Value.int .i64 0, Value.slice none 0 0, Value.int .i64 0] 34])) [(36, Value.bool so26), (35, Value.agg #[Value.int .i64 sd22, Value.int .i64 sc23, Value.slice Aq30 (List.length sz24) cq31, Value.int .i64 sm25]), (30, Value.tuple #[Value.agg #[Value.int .i64 sd22, Value.int .i64 sc23, Value.slice Aq30 (List.length sz24) cq31, Value.int .i64 sm25], Value.bool so26])] [.no, .no, .no] True (by kernel_rfl) trivial hS21 ?_
        refine l_op rfl rfl (fun K hK => op_alloc (d := some 7) rfl rfl [Value.int .i64 0, Value.int .i64 0, Value.slice none 0 0, Value.int .i64 0] (by kernel_rfl) hS21 (fun blk33 w32 hS32 => hK _ _ ?_))
        clear hK K
        refine l_op rfl rfl (fun K hK => op_store (d := none) rfl rfl (i := 0) (b := blk33) (off := 0) (cs := [Value.int .i64 0, Value.int .i64 0, Value.slice none 0 0, Value.int .i64 0]) (bt := 32) (by kernel_rfl) (by kernel_rfl) [Value.int .i64 sd22, Value.int .i64 sc23, Value.slice Aq30 (List.length sz24) cq31, Value.int .i64 sm25] (by kernel_rfl) (by kernel_rfl) (Nat.le_of_ble_eq_true (by kernel_rfl)) (by kernel_rfl) [Res.box blk33 [Value.int .i64 sd22, Value.int .i64 sc23, Value.slice Aq30 (List.length sz24) cq31, Value.int .i64 sm25] 32, Res.row (Value.slice Aq30 (List.length sz24) cq31) 5 1 (List.length sz24) (sz24.map (Value.int .u8)), Res.row (Value.slice (some ⟨blk16, 0, none⟩) (List.length [hx14, hx15]) cq11) 3 1 (List.length [hx14, hx15]) ([hx14, hx15].map (Value.int .i64)), Res.box blk2 [Value.int .i64 0, Value.int .i64 0, Value.int .i64 0, Value.int .i64 0, Value.slice none 0 0, Value.int .i64 0] 34] (by kernel_rfl) hS32 (fun w34 hS34 => hK _ _ ?_))
        clear hK K
        refine q_seg (S := (fun x_ => St w x_ [Res.box blk33 [Value.int .i64 sd22, Value.int .i64 sc23, Value.slice Aq30 (List.length sz24) cq31, Value.int .i64 sm25] 32, Res.row (Value.slice Aq30 (List.length sz24) cq31) 5 1 (List.length sz24) (sz24.map (Value.int .u8)), Res.row (Value.slice (some ⟨blk16, 0, none⟩) (List.length [hx14, hx15]) cq11) 3 1 (List.length [hx14, hx15]) ([hx14, hx15].map (Value.int .i64)), Res.box blk2 [Value.int .i64 0, Value.int .i64 0, Value.int .i64 0, Value.int .i64 0, Value.slice none 0 0, Value.int .i64 0] 34])) [(8, Value.bool so26)] [.no] True (by kernel_rfl) trivial hS34 ?_
        refine l_nil rfl ?_
        refine then_n ?_
        refine wp_seq ?_
        refine wp_seq ?_
        refine c_reg ?_
        refine q_seg (S := (fun x_ => St w x_ [Res.box blk33 [Value.int .i64 sd22, Value.int .i64 sc23, Value.slice Aq30 (List.length sz24) cq31, Value.int .i64 sm25] 32, Res.row (Value.slice Aq30 (List.length sz24) cq31) 5 1 (List.length sz24) (sz24.map (Value.int .u8)), Res.row (Value.slice (some ⟨blk16, 0, none⟩) (List.length [hx14, hx15]) cq11) 3 1 (List.length [hx14, hx15]) ([hx14, hx15].map (Value.int .i64)), Res.box blk2 [Value.int .i64 0, Value.int .i64 0, Value.int .i64 0, Value.int .i64 0, Value.slice none 0 0, Value.int .i64 0] 34])) [(38, Value.bool (!(so26))), (37, Value.bool so26)] [.no, .no] True (by kernel_rfl) trivial hS34 ?_
        refine l_nil rfl ?_
        refine then_n ?_
        rcases Bool.eq_false_or_eq_true (so26) with hb35 | hb35
        · skip
          have hrd27t36 := hrd27
          rw [hb35] at hrd27t36
          refine c_false (b := (!(so26))) (by kernel_rfl) (nb (v := true) hb35) ?_
          refine wp_skip ?_
          refine then_n ?_
          refine wp_seq ?_
          refine c_drawnS (S := (fun x_ => St w x_ [Res.box blk33 [Value.int .i64 sd22, Value.int .i64 sc23, Value.slice Aq30 (List.length sz24) cq31, Value.int .i64 sm25] 32, Res.row (Value.slice Aq30 (List.length sz24) cq31) 5 1 (List.length sz24) (sz24.map (Value.int .u8)), Res.row (Value.slice (some ⟨blk16, 0, none⟩) (List.length [hx14, hx15]) cq11) 3 1 (List.length [hx14, hx15]) ([hx14, hx15].map (Value.int .i64))])) [] (by kernel_rfl) hS34 (fun w37 hS37 => ?_)
          refine t_seg (S := (fun x_ => St w x_ [Res.box blk33 [Value.int .i64 sd22, Value.int .i64 sc23, Value.slice Aq30 (List.length sz24) cq31, Value.int .i64 sm25] 32, Res.row (Value.slice Aq30 (List.length sz24) cq31) 5 1 (List.length sz24) (sz24.map (Value.int .u8)), Res.row (Value.slice (some ⟨blk16, 0, none⟩) (List.length [hx14, hx15]) cq11) 3 1 (List.length [hx14, hx15]) ([hx14, hx15].map (Value.int .i64))])) [(0, .no), (3, .no), (6, .v (Value.agg #[Value.int .i64 sd22, Value.int .i64 sc23, Value.slice Aq30 (List.length sz24) cq31, Value.int .i64 sm25])), (1, .no), (4, .no), (2, .v (Value.int .i64 hx14)), (5, .v (Value.int .i64 hx15)), (7, .no)] 2 #[true, true, true, true, true, true, true, true, false, false] [(47, Value.agg #[Value.int .i64 hx14, Value.int .i64 hx15, Value.int .i64 sd22, Value.int .i64 sc23, Value.slice Aq30 (List.length sz24) cq31, Value.int .i64 sm25]), (45, Value.int .i64 hx15), (42, Value.int .i64 hx14), (44, Value.pointer (some ⟨blk16, 0 + Int.toNat 1 * 1, none⟩)), (41, Value.pointer (some ⟨blk16, 0 + Int.toNat 0 * 1, none⟩)), (46, Value.agg #[Value.int .i64 sd22, Value.int .i64 sc23, Value.slice Aq30 (List.length sz24) cq31, Value.int .i64 sm25]), (43, Value.slice (some ⟨blk16, 0, none⟩) (List.length [hx14, hx15]) cq11), (40, Value.slice (some ⟨blk16, 0, none⟩) (List.length [hx14, hx15]) cq11)] ((LoadsAt Try.prog (fun x_ => St w x_ [Res.box blk33 [Value.int .i64 sd22, Value.int .i64 sc23, Value.slice Aq30 (List.length sz24) cq31, Value.int .i64 sm25] 32, Res.row (Value.slice Aq30 (List.length sz24) cq31) 5 1 (List.length sz24) (sz24.map (Value.int .u8)), Res.row (Value.slice (some ⟨blk16, 0, none⟩) (List.length [hx14, hx15]) cq11) 3 1 (List.length [hx14, hx15]) ([hx14, hx15].map (Value.int .i64))]) 32 ⟨blk33, 0, none⟩ (Value.agg #[Value.int .i64 sd22, Value.int .i64 sc23, Value.slice Aq30 (List.length sz24) cq31, Value.int .i64 sm25])) ∧ ((0 : Int) ≤ 0) ∧ (0 < (((List.length [hx14, hx15]) : Nat) : Int)) ∧ ((0 : Int) ≤ 1) ∧ (1 < (((List.length [hx14, hx15]) : Nat) : Int)) ∧ (LoadsAt Try.prog (fun x_ => St w x_ [Res.box blk33 [Value.int .i64 sd22, Value.int .i64 sc23, Value.slice Aq30 (List.length sz24) cq31, Value.int .i64 sm25] 32, Res.row (Value.slice Aq30 (List.length sz24) cq31) 5 1 (List.length sz24) (sz24.map (Value.int .u8)), Res.row (Value.slice (some ⟨blk16, 0, none⟩) (List.length [hx14, hx15]) cq11) 3 1 (List.length [hx14, hx15]) ([hx14, hx15].map (Value.int .i64))]) 3 ⟨blk16, 0 + Int.toNat 0 * 1, none⟩ (Value.int .i64 hx14)) ∧ (LoadsAt Try.prog (fun x_ => St w x_ [Res.box blk33 [Value.int .i64 sd22, Value.int .i64 sc23, Value.slice Aq30 (List.length sz24) cq31, Value.int .i64 sm25] 32, Res.row (Value.slice Aq30 (List.length sz24) cq31) 5 1 (List.length sz24) (sz24.map (Value.int .u8)), Res.row (Value.slice (some ⟨blk16, 0, none⟩) (List.length [hx14, hx15]) cq11) 3 1 (List.length [hx14, hx15]) ([hx14, hx15].map (Value.int .i64))]) 3 ⟨blk16, 0 + Int.toNat 1 * 1, none⟩ (Value.int .i64 hx15))) (by kernel_rfl) (Qpanic.then Qpanic.bp) rfl (by kernel_rfl) ⟨(ld_boxN (i := 0) (k := 4) rfl rfl rfl (by kernel_rfl)), (by omega), (by omega), (by omega), (by omega), (ld_row (i := 2) rfl rfl (by kernel_rfl)), (ld_row (i := 2) rfl rfl (by kernel_rfl))⟩ (hS37.sub (List.Sublist.cons_cons _ (List.Sublist.cons_cons _ (List.Sublist.cons_cons _ (List.Sublist.cons _ List.Sublist.slnil))))) ?_
          refine a_op (i := 8) (fuel := 1) (listed' := #[true, true, true, true, true, true, true, true, true, false]) rfl rfl (by kernel_rfl) (by kernel_rfl) rfl (fun K hK => op_store (d := none) rfl rfl (i := 3) (b := blk2) (off := 0) (cs := [Value.int .i64 0, Value.int .i64 0, Value.int .i64 0, Value.int .i64 0, Value.slice none 0 0, Value.int .i64 0]) (bt := 34) (by kernel_rfl) (by kernel_rfl) [Value.int .i64 hx14, Value.int .i64 hx15, Value.int .i64 sd22, Value.int .i64 sc23, Value.slice Aq30 (List.length sz24) cq31, Value.int .i64 sm25] (by kernel_rfl) (by kernel_rfl) (Nat.le_of_ble_eq_true (by kernel_rfl)) (by kernel_rfl) [Res.box blk33 [Value.int .i64 sd22, Value.int .i64 sc23, Value.slice Aq30 (List.length sz24) cq31, Value.int .i64 sm25] 32, Res.row (Value.slice Aq30 (List.length sz24) cq31) 5 1 (List.length sz24) (sz24.map (Value.int .u8)), Res.row (Value.slice (some ⟨blk16, 0, none⟩) (List.length [hx14, hx15]) cq11) 3 1 (List.length [hx14, hx15]) ([hx14, hx15].map (Value.int .i64)), Res.box blk2 [Value.int .i64 hx14, Value.int .i64 hx15, Value.int .i64 sd22, Value.int .i64 sc23, Value.slice Aq30 (List.length sz24) cq31, Value.int .i64 sm25] 34] (by kernel_rfl) hS37 (fun w38 hS38 => hK _ _ (fun _ => (hS38.sub (List.Sublist.cons_cons _ (List.Sublist.cons_cons _ (List.Sublist.cons_cons _ (List.Sublist.cons _ List.Sublist.slnil)))))) ?_))
          clear hK K
          refine t_seg (S := (fun x_ => St w x_ [Res.box blk33 [Value.int .i64 sd22, Value.int .i64 sc23, Value.slice Aq30 (List.length sz24) cq31, Value.int .i64 sm25] 32, Res.row (Value.slice Aq30 (List.length sz24) cq31) 5 1 (List.length sz24) (sz24.map (Value.int .u8)), Res.row (Value.slice (some ⟨blk16, 0, none⟩) (List.length [hx14, hx15]) cq11) 3 1 (List.length [hx14, hx15]) ([hx14, hx15].map (Value.int .i64))])) [(9, .no)] 0 #[true, true, true, true, true, true, true, true, true, true] [(3, Value.bool true)] True (by kernel_rfl) (Qpanic.then Qpanic.bp) rfl (by kernel_rfl) trivial (hS38.sub (List.Sublist.cons_cons _ (List.Sublist.cons_cons _ (List.Sublist.cons_cons _ (List.Sublist.cons _ List.Sublist.slnil))))) ?_
          refine a_done (by kernel_rfl) ?_
          refine then_n ?_
          refine wp_ret ?_
          have hS38s5 : St w w38 [Res.row (Value.slice Aq30 (List.length sz24) cq31) 5 1 (List.length sz24) (sz24.map (Value.int .u8))] := (hS38.sub (List.Sublist.cons _ (List.Sublist.cons_cons _ (List.Sublist.cons _ (List.Sublist.cons _ List.Sublist.slnil)))))
          have hR : drad zs = (hx14, hx15, sd22, sc23, sz24, sm25, true) := drad_cut hz hrd7t13 (inR_true (by omega) (by omega)) (inR_true (by omega) (by omega)) hrd27t36
          exact c_end (S := (fun x_ => St w x_ [Res.box blk33 [Value.int .i64 sd22, Value.int .i64 sc23, Value.slice Aq30 (List.length sz24) cq31, Value.int .i64 sm25] 32, Res.row (Value.slice Aq30 (List.length sz24) cq31) 5 1 (List.length sz24) (sz24.map (Value.int .u8)), Res.row (Value.slice (some ⟨blk16, 0, none⟩) (List.length [hx14, hx15]) cq11) 3 1 (List.length [hx14, hx15]) ([hx14, hx15].map (Value.int .i64)), Res.box blk2 [Value.int .i64 hx14, Value.int .i64 hx15, Value.int .i64 sd22, Value.int .i64 sc23, Value.slice Aq30 (List.length sz24) cq31, Value.int .i64 sm25] 34])) (rs := [.cell 2 34, .tmp 3]) rfl [Value.agg #[Value.int .i64 hx14, Value.int .i64 hx15, Value.int .i64 sd22, Value.int .i64 sc23, Value.slice Aq30 (List.length sz24) cq31, Value.int .i64 sm25]] (v := Value.tuple #[Value.agg #[Value.int .i64 hx14, Value.int .i64 hx15, Value.int .i64 sd22, Value.int .i64 sc23, Value.slice Aq30 (List.length sz24) cq31, Value.int .i64 sm25], Value.bool true]) (C := ((LoadsAt Try.prog (fun x_ => St w x_ [Res.box blk33 [Value.int .i64 sd22, Value.int .i64 sc23, Value.slice Aq30 (List.length sz24) cq31, Value.int .i64 sm25] 32, Res.row (Value.slice Aq30 (List.length sz24) cq31) 5 1 (List.length sz24) (sz24.map (Value.int .u8)), Res.row (Value.slice (some ⟨blk16, 0, none⟩) (List.length [hx14, hx15]) cq11) 3 1 (List.length [hx14, hx15]) ([hx14, hx15].map (Value.int .i64)), Res.box blk2 [Value.int .i64 hx14, Value.int .i64 hx15, Value.int .i64 sd22, Value.int .i64 sc23, Value.slice Aq30 (List.length sz24) cq31, Value.int .i64 sm25] 34]) 34 ⟨blk2, 0, none⟩ (Value.agg #[Value.int .i64 hx14, Value.int .i64 hx15, Value.int .i64 sd22, Value.int .i64 sc23, Value.slice Aq30 (List.length sz24) cq31, Value.int .i64 sm25])))) (by kernel_rfl) (ld_boxN (i := 3) (k := 6) rfl rfl rfl (by kernel_rfl)) hS38 (by rw [hR]; dsimp only; exact (hS38s5.eqv (by first | rfl | (rw [hcl]; done) | (simp; done) | (simp [*]; done))).rt ⟨Aq30, cq31, (by first | rfl | (rw [hcl]; done) | (simp; done) | (simp [*]; done)), rfl⟩)
        · skip
          have hrd27f39 := hrd27
          rw [hb35] at hrd27f39
          refine c_true (b := (!(so26))) (by kernel_rfl) (nb (v := false) hb35) ?_
          refine wp_seq ?_
          refine c_reg ?_
          refine q_seg (S := (fun x_ => St w x_ [Res.box blk33 [Value.int .i64 sd22, Value.int .i64 sc23, Value.slice Aq30 (List.length sz24) cq31, Value.int .i64 sm25] 32, Res.row (Value.slice Aq30 (List.length sz24) cq31) 5 1 (List.length sz24) (sz24.map (Value.int .u8)), Res.row (Value.slice (some ⟨blk16, 0, none⟩) (List.length [hx14, hx15]) cq11) 3 1 (List.length [hx14, hx15]) ([hx14, hx15].map (Value.int .i64)), Res.box blk2 [Value.int .i64 0, Value.int .i64 0, Value.int .i64 0, Value.int .i64 0, Value.slice none 0 0, Value.int .i64 0] 34])) [(39, Value.agg #[Value.int .i64 0, Value.int .i64 0, Value.int .i64 0, Value.int .i64 0, Value.slice none 0 0, Value.int .i64 0])] [.no] True (by kernel_rfl) trivial hS34 ?_
          refine l_op rfl rfl (fun K hK => op_store (d := none) rfl rfl (i := 3) (b := blk2) (off := 0) (cs := [Value.int .i64 0, Value.int .i64 0, Value.int .i64 0, Value.int .i64 0, Value.slice none 0 0, Value.int .i64 0]) (bt := 34) (by kernel_rfl) (by kernel_rfl) [Value.int .i64 0, Value.int .i64 0, Value.int .i64 0, Value.int .i64 0, Value.slice none 0 0, Value.int .i64 0] (by kernel_rfl) (by kernel_rfl) (Nat.le_of_ble_eq_true (by kernel_rfl)) (by kernel_rfl) [Res.box blk33 [Value.int .i64 sd22, Value.int .i64 sc23, Value.slice Aq30 (List.length sz24) cq31, Value.int .i64 sm25] 32, Res.row (Value.slice Aq30 (List.length sz24) cq31) 5 1 (List.length sz24) (sz24.map (Value.int .u8)), Res.row (Value.slice (some ⟨blk16, 0, none⟩) (List.length [hx14, hx15]) cq11) 3 1 (List.length [hx14, hx15]) ([hx14, hx15].map (Value.int .i64)), Res.box blk2 [Value.int .i64 0, Value.int .i64 0, Value.int .i64 0, Value.int .i64 0, Value.slice none 0 0, Value.int .i64 0] 34] (by kernel_rfl) hS34 (fun w40 hS40 => hK _ _ ?_))
          clear hK K
          refine q_seg (S := (fun x_ => St w x_ [Res.box blk33 [Value.int .i64 sd22, Value.int .i64 sc23, Value.slice Aq30 (List.length sz24) cq31, Value.int .i64 sm25] 32, Res.row (Value.slice Aq30 (List.length sz24) cq31) 5 1 (List.length sz24) (sz24.map (Value.int .u8)), Res.row (Value.slice (some ⟨blk16, 0, none⟩) (List.length [hx14, hx15]) cq11) 3 1 (List.length [hx14, hx15]) ([hx14, hx15].map (Value.int .i64)), Res.box blk2 [Value.int .i64 0, Value.int .i64 0, Value.int .i64 0, Value.int .i64 0, Value.slice none 0 0, Value.int .i64 0] 34])) [(3, Value.bool false)] [.no] True (by kernel_rfl) trivial hS40 ?_
          refine l_nil rfl ?_
          refine then_n ?_
          refine wp_ret ?_
          refine then_r ?_
          have hS40s6 : St w w40 [Res.row (Value.slice none 0 0) 5 1 0 ([]), Res.box blk33 [Value.int .i64 sd22, Value.int .i64 sc23, Value.slice Aq30 (List.length sz24) cq31, Value.int .i64 sm25] 32, Res.row (Value.slice Aq30 (List.length sz24) cq31) 5 1 (List.length sz24) (sz24.map (Value.int .u8)), Res.row (Value.slice (some ⟨blk16, 0, none⟩) (List.length [hx14, hx15]) cq11) 3 1 (List.length [hx14, hx15]) ([hx14, hx15].map (Value.int .i64)), Res.box blk2 [Value.int .i64 0, Value.int .i64 0, Value.int .i64 0, Value.int .i64 0, Value.slice none 0 0, Value.int .i64 0] 34] := hS40.nilrow 5 1
          have hS40s6s7 : St w w40 [Res.row (Value.slice none 0 0) 5 1 0 ([])] := (hS40s6.sub (List.Sublist.cons_cons _ (List.Sublist.cons _ (List.Sublist.cons _ (List.Sublist.cons _ (List.Sublist.cons _ List.Sublist.slnil))))))
          have hR : drad zs = (0, 0, 0, 0, [], 0, false) := drad_cut hz hrd7t13 (inR_true (by omega) (by omega)) (inR_true (by omega) (by omega)) hrd27f39
          exact c_end (S := (fun x_ => St w x_ [Res.box blk33 [Value.int .i64 sd22, Value.int .i64 sc23, Value.slice Aq30 (List.length sz24) cq31, Value.int .i64 sm25] 32, Res.row (Value.slice Aq30 (List.length sz24) cq31) 5 1 (List.length sz24) (sz24.map (Value.int .u8)), Res.row (Value.slice (some ⟨blk16, 0, none⟩) (List.length [hx14, hx15]) cq11) 3 1 (List.length [hx14, hx15]) ([hx14, hx15].map (Value.int .i64)), Res.box blk2 [Value.int .i64 0, Value.int .i64 0, Value.int .i64 0, Value.int .i64 0, Value.slice none 0 0, Value.int .i64 0] 34])) (rs := [.cell 2 34, .tmp 3]) rfl [Value.agg #[Value.int .i64 0, Value.int .i64 0, Value.int .i64 0, Value.int .i64 0, Value.slice none 0 0, Value.int .i64 0]] (v := Value.tuple #[Value.agg #[Value.int .i64 0, Value.int .i64 0, Value.int .i64 0, Value.int .i64 0, Value.slice none 0 0, Value.int .i64 0], Value.bool false]) (C := ((LoadsAt Try.prog (fun x_ => St w x_ [Res.box blk33 [Value.int .i64 sd22, Value.int .i64 sc23, Value.slice Aq30 (List.length sz24) cq31, Value.int .i64 sm25] 32, Res.row (Value.slice Aq30 (List.length sz24) cq31) 5 1 (List.length sz24) (sz24.map (Value.int .u8)), Res.row (Value.slice (some ⟨blk16, 0, none⟩) (List.length [hx14, hx15]) cq11) 3 1 (List.length [hx14, hx15]) ([hx14, hx15].map (Value.int .i64)), Res.box blk2 [Value.int .i64 0, Value.int .i64 0, Value.int .i64 0, Value.int .i64 0, Value.slice none 0 0, Value.int .i64 0] 34]) 34 ⟨blk2, 0, none⟩ (Value.agg #[Value.int .i64 0, Value.int .i64 0, Value.int .i64 0, Value.int .i64 0, Value.slice none 0 0, Value.int .i64 0])))) (by kernel_rfl) (ld_boxN (i := 3) (k := 6) rfl rfl rfl (by kernel_rfl)) hS40 (by rw [hR]; dsimp only; exact (hS40s6s7.eqv (by first | rfl | (rw [hcl]; done) | (simp; done) | (simp [*]; done))).rt ⟨none, 0, (by first | rfl | (rw [hcl]; done) | (simp; done) | (simp [*]; done)), rfl⟩)
  · skip
    have hrd7f41 := hrd7
    rw [hb12] at hrd7f41
    refine q_seg (S := (fun x_ => St w x_ [Res.row (Value.slice Aq10 (List.length dl4) cq11) 3 1 (List.length dl4) (dl4.map (Value.int .i64)), Res.box blk2 [Value.int .i64 0, Value.int .i64 0, Value.int .i64 0, Value.int .i64 0, Value.slice none 0 0, Value.int .i64 0] 34])) [(28, Value.bool true), (27, undef), (26, undef), (25, undef), (24, undef), (23, Value.bool true), (22, Value.bool true), (21, undef), (20, undef), (19, undef), (18, undef)] [.skip, .skip, .skip, .skip, .v (.bool true), .no, .skip, .skip, .skip, .skip, .v (.bool true)] (((!(do6)) = !false) ∧ ((!(do6)) = !false) ∧ ((!(do6)) = !false) ∧ ((!(do6)) = !false) ∧ ((!(do6)) = true) ∧ (true = !false) ∧ (true = !false) ∧ (true = !false) ∧ (true = !false) ∧ (true = true)) (by kernel_rfl) ⟨(nb (v := false) hb12), (nb (v := false) hb12), (nb (v := false) hb12), (nb (v := false) hb12), (nb (v := false) hb12), rfl, rfl, rfl, rfl, rfl⟩ hS3 ?_
    refine l_nil rfl ?_
    refine then_n ?_
    refine c_true (b := true) (by kernel_rfl) rfl ?_
    refine wp_seq ?_
    refine c_reg ?_
    refine q_seg (S := (fun x_ => St w x_ [Res.row (Value.slice Aq10 (List.length dl4) cq11) 3 1 (List.length dl4) (dl4.map (Value.int .i64)), Res.box blk2 [Value.int .i64 0, Value.int .i64 0, Value.int .i64 0, Value.int .i64 0, Value.slice none 0 0, Value.int .i64 0] 34])) [(29, Value.agg #[Value.int .i64 0, Value.int .i64 0, Value.int .i64 0, Value.int .i64 0, Value.slice none 0 0, Value.int .i64 0])] [.no] True (by kernel_rfl) trivial hS3 ?_
    refine l_op rfl rfl (fun K hK => op_store (d := none) rfl rfl (i := 1) (b := blk2) (off := 0) (cs := [Value.int .i64 0, Value.int .i64 0, Value.int .i64 0, Value.int .i64 0, Value.slice none 0 0, Value.int .i64 0]) (bt := 34) (by kernel_rfl) (by kernel_rfl) [Value.int .i64 0, Value.int .i64 0, Value.int .i64 0, Value.int .i64 0, Value.slice none 0 0, Value.int .i64 0] (by kernel_rfl) (by kernel_rfl) (Nat.le_of_ble_eq_true (by kernel_rfl)) (by kernel_rfl) [Res.row (Value.slice Aq10 (List.length dl4) cq11) 3 1 (List.length dl4) (dl4.map (Value.int .i64)), Res.box blk2 [Value.int .i64 0, Value.int .i64 0, Value.int .i64 0, Value.int .i64 0, Value.slice none 0 0, Value.int .i64 0] 34] (by kernel_rfl) hS3 (fun w42 hS42 => hK _ _ ?_))
    clear hK K
    refine q_seg (S := (fun x_ => St w x_ [Res.row (Value.slice Aq10 (List.length dl4) cq11) 3 1 (List.length dl4) (dl4.map (Value.int .i64)), Res.box blk2 [Value.int .i64 0, Value.int .i64 0, Value.int .i64 0, Value.int .i64 0, Value.slice none 0 0, Value.int .i64 0] 34])) [(3, Value.bool false)] [.no] True (by kernel_rfl) trivial hS42 ?_
    refine l_nil rfl ?_
    refine then_n ?_
    refine wp_ret ?_
    refine then_r ?_
    have hS42s8 : St w w42 [Res.row (Value.slice none 0 0) 5 1 0 ([]), Res.row (Value.slice Aq10 (List.length dl4) cq11) 3 1 (List.length dl4) (dl4.map (Value.int .i64)), Res.box blk2 [Value.int .i64 0, Value.int .i64 0, Value.int .i64 0, Value.int .i64 0, Value.slice none 0 0, Value.int .i64 0] 34] := hS42.nilrow 5 1
    have hS42s8s9 : St w w42 [Res.row (Value.slice none 0 0) 5 1 0 ([])] := (hS42s8.sub (List.Sublist.cons_cons _ (List.Sublist.cons _ (List.Sublist.cons _ List.Sublist.slnil))))
    have hR : drad zs = (0, 0, 0, 0, [], 0, false) := drad_1 hrd7f41
    exact c_end (S := (fun x_ => St w x_ [Res.row (Value.slice Aq10 (List.length dl4) cq11) 3 1 (List.length dl4) (dl4.map (Value.int .i64)), Res.box blk2 [Value.int .i64 0, Value.int .i64 0, Value.int .i64 0, Value.int .i64 0, Value.slice none 0 0, Value.int .i64 0] 34])) (rs := [.cell 2 34, .tmp 3]) rfl [Value.agg #[Value.int .i64 0, Value.int .i64 0, Value.int .i64 0, Value.int .i64 0, Value.slice none 0 0, Value.int .i64 0]] (v := Value.tuple #[Value.agg #[Value.int .i64 0, Value.int .i64 0, Value.int .i64 0, Value.int .i64 0, Value.slice none 0 0, Value.int .i64 0], Value.bool false]) (C := ((LoadsAt Try.prog (fun x_ => St w x_ [Res.row (Value.slice Aq10 (List.length dl4) cq11) 3 1 (List.length dl4) (dl4.map (Value.int .i64)), Res.box blk2 [Value.int .i64 0, Value.int .i64 0, Value.int .i64 0, Value.int .i64 0, Value.slice none 0 0, Value.int .i64 0] 34]) 34 ⟨blk2, 0, none⟩ (Value.agg #[Value.int .i64 0, Value.int .i64 0, Value.int .i64 0, Value.int .i64 0, Value.slice none 0 0, Value.int .i64 0])))) (by kernel_rfl) (ld_boxN (i := 1) (k := 6) rfl rfl rfl (by kernel_rfl)) hS42 (by rw [hR]; dsimp only; exact (hS42s8s9.eqv (by first | rfl | (rw [hcl]; done) | (simp; done) | (simp [*]; done))).rt ⟨none, 0, (by first | rfl | (rw [hcl]; done) | (simp; done) | (simp [*]; done)), rfl⟩)
end Go.Proofs.Ytfkeiegajaofdaa
