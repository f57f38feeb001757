/-
  Marks of windows.
-/
import Derived.Test.YtchkiohikhfecaaGRv
namespace Go.Proofs.Ytchkiohikhfecaa
open Go.RowKit
set_option maxRecDepth 100000

theorem markNumberedPacketSW_c (A : Option Addr) (n c : Nat) (k0 : Int) (L : List (Int × List Int)) (ys : List It) (tl : List Res) (w0 w : World) (hS : St w0 w (Res.win (Value.slice A n c) 37 2 n (flat true ys) :: ((ys.map (It.row .u8 5)) ++ tl))) (hL : ys.map (con true) = L) (hLn : L.length = n) (hk1 : 0 ≤ k0) (hk2 : k0 + ((totL true L : Nat) : Int) ≤ 1099511627776) : Calls Try.prog 74 #[.slice A n c, .int .i64 k0] w (fun e w' => ∃ v own', e = .returned v ∧ St w0 w' own' ∧ (v = .int .i64 (k0 + ((totL true L : Nat) : Int)) ∧ own' = (Res.win (Value.slice A n c) 37 2 n (flat true (mkI (IntKind.wrap .u8) true k0 ys)) :: (((mkI (IntKind.wrap .u8) true k0 ys).map (It.row .u8 5)) ++ tl)))) := by
  subst hL
  have hln : ys.length = n := by rw [← hLn, List.length_map]
  have hcap := hS.win_cap (i := 0) rfl
  unfold maxLen at hcap
  have htc := tot_con true ys
  refine calls_FA Try.func74 rfl (n := 27) rfl (l := [(0, Value.slice A n c), (1, Value.int .i64 k0)]) rfl (by simp) (fun g => ?_)
  refine wp_seq ?_
  refine c_reg ?_
  refine q_seg (S := (fun x_ => St w0 x_ (Res.win (Value.slice A n c) 37 2 n (flat true ys) :: ((ys.map (It.row .u8 5)) ++ tl)))) [(4, Value.int .i64 0)] [.no] True (by kernel_rfl) trivial hS ?_
  refine l_nil rfl ?_
  refine then_n ?_
  refine wp_seq ?_
  refine wp_seq ?_
  refine c_reg ?_
  refine q_seg (S := (fun x_ => St w0 x_ (Res.win (Value.slice A n c) 37 2 n (flat true ys) :: ((ys.map (It.row .u8 5)) ++ tl)))) [(5, Value.int .i64 0)] [.no] True (by kernel_rfl) trivial hS ?_
  refine l_nil rfl ?_
  refine then_n ?_
  refine wp_block ?_
  refine c_loop (X := Nat) (fun (k : Nat) => [(0, Value.slice A n c), (1, Value.int .i64 (k0 + ((tot true (ys.take k) : Nat) : Int))), (5, Value.int .i64 ((k : Nat) : Int))]) (fun (k : Nat) (wr : World) => (k ≤ n) ∧ St w0 wr (Res.win (Value.slice A n c) 37 2 n (flat true (zat (IntKind.wrap .u8) true k0 ys k)) :: (((zat (IntKind.wrap .u8) true k0 ys k).map (It.row .u8 5)) ++ tl))) (fun (k : Nat) => n - k) 0 ?_ ?_ ?_
  · exact (agree_cons (by kernel_rfl) (agree_eq (v0 := Value.int .i64 k0) (by kernel_rfl) (congrArg (Value.int .i64) (by simp [tot])) (agree_cons (by kernel_rfl) agree_nil)))
  · exact ⟨Nat.zero_le _, (hS.eqv (by rw [zat_zero]))⟩
  rintro k g2 w1 ⟨hkn, hS1⟩
  refine wp_seq ?_
  refine wp_seq ?_
  refine c_reg ?_
  refine q_seg (S := (fun x_ => St w0 x_ (Res.win (Value.slice A n c) 37 2 n (flat true (zat (IntKind.wrap .u8) true k0 ys k)) :: (((zat (IntKind.wrap .u8) true k0 ys k).map (It.row .u8 5)) ++ tl)))) [(9, Value.bool (decide (((k : Nat) : Int) < ((n : Nat) : Int)))), (8, Value.int .i64 ((n : Nat) : Int)), (7, Value.slice A n c), (6, Value.int .i64 ((k : Nat) : Int))] [.no, .no, .no, .no] True (by kernel_rfl) trivial hS1 ?_
  refine l_nil rfl ?_
  refine then_n ?_
  rcases Bool.eq_false_or_eq_true (decide (((k : Nat) : Int) < ((n : Nat) : Int))) with hb3 | hb3
  · skip
    have hb3p := of_decide_eq_true hb3
    obtain ⟨y, hyk, hym⟩ := get_of_lt (l := ys) (k := k) (by omega)
    obtain ⟨blk4, blk4o, rfl⟩ := hS1.win_at (List.mem_of_getElem? (i := 0) rfl) (by omega)
    have hto := tot_le (p := true) ys (k + 1)
    have htt := tot_take (p := true) hyk
    have hpi : pi true = 1 := rfl
    have hzg := zat_get (f := (IntKind.wrap .u8)) (p := true) (k0 := k0) hyk
    have hS1b : St w0 w1 (Res.row (Value.slice y.A y.zs.length y.c) 5 1 y.zs.length (y.zs.map (Value.int .u8)) :: Res.win (Value.slice (some ⟨blk4, blk4o, none⟩) n c) 37 2 n (flat true (zat (IntKind.wrap .u8) true k0 ys k)) :: ((((zat (IntKind.wrap .u8) true k0 ys k).eraseIdx k).map (It.row .u8 5)) ++ tl)) := hS1.bor hzg
    have hyb := hS1b.row_cap (i := 0) rfl
    unfold maxLen at hyb
    refine c_true (b := (decide (((k : Nat) : Int) < ((n : Nat) : Int)))) (by kernel_rfl) hb3 ?_
    refine wp_skip ?_
    refine then_n ?_
    refine wp_seq ?_
    refine wp_block ?_
    refine wp_seq ?_
    refine c_reg ?_
    refine q_seg (S := (fun x_ => St w0 x_ (Res.row (Value.slice y.A y.zs.length y.c) 5 1 y.zs.length (y.zs.map (Value.int .u8)) :: Res.win (Value.slice (some ⟨blk4, blk4o, none⟩) n c) 37 2 n (flat true (zat (IntKind.wrap .u8) true k0 ys k)) :: ((((zat (IntKind.wrap .u8) true k0 ys k).eraseIdx k).map (It.row .u8 5)) ++ tl)))) [(16, Value.pointer (some ⟨blk4, blk4o + Int.toNat ((k : Nat) : Int) * 2 + 0, none⟩)), (15, Value.pointer (some ⟨blk4, blk4o + Int.toNat ((k : Nat) : Int) * 2, none⟩)), (14, Value.int .i64 (k0 + ((tot true (ys.take k) : Nat) : Int))), (13, Value.int .i64 ((k : Nat) : Int)), (12, Value.slice (some ⟨blk4, blk4o, none⟩) n c)] [.no, .no, .no, .no, .no] (((0 : Int) ≤ ((k : Nat) : Int)) ∧ (((k : Nat) : Int) < ((n : Nat) : Int))) (by kernel_rfl) ⟨(by omega), (by omega)⟩ hS1b ?_
    have hlnw5 := hS1b.win_len (List.mem_of_getElem? (i := 1) rfl)
    refine l_op rfl rfl (fun K hK => op_storeWin (d := none) rfl rfl (i := 1) (b := blk4) (off := blk4o) (a := blk4o + Int.toNat ((k : Nat) : Int) * 2 + 0) (q := k * 2) (m := n) (cap := c) (e := 37) (sz := 2) (xs := (flat true (zat (IntKind.wrap .u8) true k0 ys k))) (by kernel_rfl) (by kernel_rfl) (by omega) [Value.int .i64 (k0 + ((tot true (ys.take k) : Nat) : Int))] (by kernel_rfl) (by kernel_rfl) (by rw [hlnw5]; simp only [List.length_cons, List.length_nil]; omega) (by omega) (by rfl) (Res.row (Value.slice y.A y.zs.length y.c) 5 1 y.zs.length (y.zs.map (Value.int .u8)) :: Res.win (Value.slice (some ⟨blk4, blk4o, none⟩) n c) 37 2 n (List.take (k * 2) (flat true (zat (IntKind.wrap .u8) true k0 ys k)) ++ [Value.int .i64 (k0 + ((tot true (ys.take k) : Nat) : Int))] ++ List.drop (k * 2 + List.length [Value.int .i64 (k0 + ((tot true (ys.take k) : Nat) : Int))]) (flat true (zat (IntKind.wrap .u8) true k0 ys k))) :: ((((zat (IntKind.wrap .u8) true k0 ys k).eraseIdx k).map (It.row .u8 5)) ++ tl)) (by kernel_rfl) hS1b (fun w5 hS5 => hK _ _ ?_))
    clear hK K
    replace hS5 := hS5.eqv (own' := (Res.row (Value.slice y.A y.zs.length y.c) 5 1 y.zs.length (y.zs.map (Value.int .u8)) :: Res.win (Value.slice (some ⟨blk4, blk4o, none⟩) n c) 37 2 n (flat true ((zat (IntKind.wrap .u8) true k0 ys k).set k (It.mk (k0 + ((tot true (ys.take k) : Nat) : Int)) y.A y.c y.zs))) :: ((((zat (IntKind.wrap .u8) true k0 ys k).eraseIdx k).map (It.row .u8 5)) ++ tl))) (by rw [flat_set_s hzg (k0 + ((tot true (ys.take k) : Nat) : Int)) _ rfl [Value.int .i64 (k0 + ((tot true (ys.take k) : Nat) : Int))] rfl])
    refine l_nil rfl ?_
    refine then_n ?_
    refine wp_seq ?_
    refine c_reg ?_
    refine q_seg (S := (fun x_ => St w0 x_ (Res.row (Value.slice y.A y.zs.length y.c) 5 1 y.zs.length (y.zs.map (Value.int .u8)) :: Res.win (Value.slice (some ⟨blk4, blk4o, none⟩) n c) 37 2 n (flat true ((zat (IntKind.wrap .u8) true k0 ys k).set k (It.mk (k0 + ((tot true (ys.take k) : Nat) : Int)) y.A y.c y.zs))) :: ((((zat (IntKind.wrap .u8) true k0 ys k).eraseIdx k).map (It.row .u8 5)) ++ tl)))) [(1, Value.int .i64 ((k0 + ((tot true (ys.take k) : Nat) : Int)) + (1 : Int))), (18, Value.int .i64 ((k0 + ((tot true (ys.take k) : Nat) : Int)) + (1 : Int))), (17, Value.int .i64 (k0 + ((tot true (ys.take k) : Nat) : Int)))] [.no, .no, .no] ((InK .i64 ((k0 + ((tot true (ys.take k) : Nat) : Int)) + (1 : Int)))) (by kernel_rfl) (in64 (by omega) (by omega)) hS5 ?_
    refine l_nil rfl ?_
    refine then_n ?_
    refine c_reg ?_
    refine q_seg (S := (fun x_ => St w0 x_ (Res.row (Value.slice y.A y.zs.length y.c) 5 1 y.zs.length (y.zs.map (Value.int .u8)) :: Res.win (Value.slice (some ⟨blk4, blk4o, none⟩) n c) 37 2 n (flat true ((zat (IntKind.wrap .u8) true k0 ys k).set k (It.mk (k0 + ((tot true (ys.take k) : Nat) : Int)) y.A y.c y.zs))) :: ((((zat (IntKind.wrap .u8) true k0 ys k).eraseIdx k).map (It.row .u8 5)) ++ tl)))) [(24, Value.int .i64 ((k0 + ((tot true (ys.take k) : Nat) : Int)) + (1 : Int))), (23, Value.slice y.A y.zs.length y.c), (22, Value.pointer (some ⟨blk4, blk4o + Int.toNat ((k : Nat) : Int) * 2 + 1, none⟩)), (21, Value.pointer (some ⟨blk4, blk4o + Int.toNat ((k : Nat) : Int) * 2, none⟩)), (20, Value.int .i64 ((k : Nat) : Int)), (19, Value.slice (some ⟨blk4, blk4o, none⟩) n c)] [.no, .no, .no, .no, .v (Value.slice y.A y.zs.length y.c), .no] (((0 : Int) ≤ ((k : Nat) : Int)) ∧ (((k : Nat) : Int) < ((n : Nat) : Int)) ∧ (LoadsAt Try.prog (fun x_ => St w0 x_ (Res.row (Value.slice y.A y.zs.length y.c) 5 1 y.zs.length (y.zs.map (Value.int .u8)) :: Res.win (Value.slice (some ⟨blk4, blk4o, none⟩) n c) 37 2 n (flat true ((zat (IntKind.wrap .u8) true k0 ys k).set k (It.mk (k0 + ((tot true (ys.take k) : Nat) : Int)) y.A y.c y.zs))) :: ((((zat (IntKind.wrap .u8) true k0 ys k).eraseIdx k).map (It.row .u8 5)) ++ tl))) 26 ⟨blk4, blk4o + Int.toNat ((k : Nat) : Int) * 2 + 1, none⟩ (Value.slice y.A y.zs.length y.c))) (by kernel_rfl) ⟨(by omega), (by omega), (ld_win (i := 1) (off := blk4o) (j := k * 2 + 1) rfl (flat_at (p := true) (j := 1) (set_get (y' := (It.mk (k0 + ((tot true (ys.take k) : Nat) : Int)) y.A y.c y.zs)) hzg) rfl) (by omega) (by kernel_rfl))⟩ hS5 ?_
    refine l_op rfl rfl (fun K hK => op_callm (d := some 25) rfl rfl ⟨_, Try.func55, by kernel_rfl, by kernel_rfl⟩ (vs := [Value.slice y.A y.zs.length y.c, Value.int .i64 ((k0 + ((tot true (ys.take k) : Nat) : Int)) + (1 : Int))]) (by kernel_rfl) (markByteS_c y.A y.zs.length y.c ((k0 + ((tot true (ys.take k) : Nat) : Int)) + (1 : Int)) _ _ w0 w5 (hS5.front 0 rfl) (by omega) (by omega) (by omega)) (fun v7 new8 w6 Rw6 hS6 => hK _ _ ?_))
    clear hK K
    obtain ⟨rfl, rfl⟩ := Rw6
    refine q_seg (S := (fun x_ => St w0 x_ (Res.row (Value.slice y.A y.zs.length y.c) 5 1 y.zs.length ((marks (IntKind.wrap .u8) ((k0 + ((tot true (ys.take k) : Nat) : Int)) + (1 : Int)) y.zs.length).map (Value.int .u8)) :: Res.win (Value.slice (some ⟨blk4, blk4o, none⟩) n c) 37 2 n (flat true ((zat (IntKind.wrap .u8) true k0 ys k).set k (It.mk (k0 + ((tot true (ys.take k) : Nat) : Int)) y.A y.c y.zs))) :: ((((zat (IntKind.wrap .u8) true k0 ys k).eraseIdx k).map (It.row .u8 5)) ++ tl)))) [(1, Value.int .i64 (((k0 + ((tot true (ys.take k) : Nat) : Int)) + (1 : Int)) + ((y.zs.length : Nat) : Int)))] [.no] True (by kernel_rfl) trivial hS6 ?_
    refine l_nil rfl ?_
    refine blk_n ?_
    refine then_n ?_
    refine c_reg ?_
    refine q_seg (S := (fun x_ => St w0 x_ (Res.row (Value.slice y.A y.zs.length y.c) 5 1 y.zs.length ((marks (IntKind.wrap .u8) ((k0 + ((tot true (ys.take k) : Nat) : Int)) + (1 : Int)) y.zs.length).map (Value.int .u8)) :: Res.win (Value.slice (some ⟨blk4, blk4o, none⟩) n c) 37 2 n (flat true ((zat (IntKind.wrap .u8) true k0 ys k).set k (It.mk (k0 + ((tot true (ys.take k) : Nat) : Int)) y.A y.c y.zs))) :: ((((zat (IntKind.wrap .u8) true k0 ys k).eraseIdx k).map (It.row .u8 5)) ++ tl)))) [(5, Value.int .i64 (((k : Nat) : Int) + (1 : Int))), (11, Value.int .i64 (((k : Nat) : Int) + (1 : Int))), (10, Value.int .i64 ((k : Nat) : Int))] [.no, .no, .no] ((InK .i64 (((k : Nat) : Int) + (1 : Int)))) (by kernel_rfl) (in64 (by omega) (by omega)) hS6 ?_
    refine l_nil rfl ?_
    refine then_n ?_
    have hSe := hS6
    refine round_end (k + 1) ?_ ?_ ?_
    · exact (agree_cons (by kernel_rfl) (agree_eq (v0 := Value.int .i64 (((k0 + ((tot true (ys.take k) : Nat) : Int)) + (1 : Int)) + ((y.zs.length : Nat) : Int))) (by kernel_rfl) (congrArg (Value.int .i64) (by rw [htt]; omega)) (agree_cons (by kernel_rfl) agree_nil)))
    · exact ⟨(by omega), (St.markedW hSe hyk)⟩
    · exact (by first | omega | (dsimp only; omega))
  · skip
    have hb3p := of_decide_eq_false hb3
    refine c_false (b := (decide (((k : Nat) : Int) < ((n : Nat) : Int)))) (by kernel_rfl) hb3 ?_
    refine wp_exit ?_
    refine then_x ?_
    refine then_x ?_
    refine blk_hit ?_
    refine then_n ?_
    refine wp_seq ?_
    refine c_reg ?_
    refine q_seg (S := (fun x_ => St w0 x_ (Res.win (Value.slice A n c) 37 2 n (flat true (zat (IntKind.wrap .u8) true k0 ys k)) :: (((zat (IntKind.wrap .u8) true k0 ys k).map (It.row .u8 5)) ++ tl)))) [(4, Value.int .i64 (k0 + ((tot true (ys.take k) : Nat) : Int))), (26, Value.int .i64 (k0 + ((tot true (ys.take k) : Nat) : Int)))] [.no, .no] True (by kernel_rfl) trivial hS1 ?_
    refine l_nil rfl ?_
    refine then_n ?_
    refine wp_ret ?_
    have hkn2 : k = n := by omega
    have hkt : tot true (ys.take k) = totL true (ys.map (con true)) := by rw [List.take_of_length_le (by omega), tot_con]
    exact c_end (S := (fun x_ => St w0 x_ (Res.win (Value.slice A n c) 37 2 n (flat true (zat (IntKind.wrap .u8) true k0 ys k)) :: (((zat (IntKind.wrap .u8) true k0 ys k).map (It.row .u8 5)) ++ tl)))) (rs := [.tmp 4]) rfl [] (v := Value.int .i64 (k0 + ((tot true (ys.take k) : Nat) : Int))) (C := True) (by kernel_rfl) trivial hS1 (⟨_, _, rfl, hS1.eqv (by rw [zat_all (by omega)]), by rw [hkt], rfl⟩)
theorem markReceiveWindowW_c (a0 : Int) (a1A : Option Addr) (a1n a1c : Nat) (a1L : List (Int × List Int)) (a1y : List It) (a2A : Option Addr) (a2n a2c : Nat) (a2L : List (Int × List Int)) (a2y : List It) (k0 : Int) (tl : List Res) (w0 w : World) (hS : St w0 w (Res.win (Value.slice a1A a1n a1c) 37 2 a1n (flat true a1y) :: Res.row (Value.slice a2A a2n a2c) 49 1 a2n (flat false a2y) :: ((a1y.map (It.row .u8 5)) ++ ((a2y.map (It.row .u8 5)) ++ tl)))) (a1q : a1y.map (con true) = a1L) (a1l : a1L.length = a1n) (a2q : a2y.map (con false) = a2L) (a2l : a2L.length = a2n) (hk1 : 0 ≤ k0) (hk2 : ((k0 + ((totL true a1L : Nat) : Int)) + ((totL false a2L : Nat) : Int)) ≤ 1099511627776) : Calls Try.prog 22 #[Value.agg #[Value.int .i64 a0, Value.slice a1A a1n a1c, Value.slice a2A a2n a2c], .int .i64 k0] w (fun e w' => ∃ v own', e = .returned v ∧ St w0 w' own' ∧ (v = .int .i64 ((k0 + ((totL true a1L : Nat) : Int)) + ((totL false a2L : Nat) : Int)) ∧ own' = (Res.win (Value.slice a1A a1n a1c) 37 2 a1n (flat true (mkI (IntKind.wrap .u8) true k0 a1y)) :: Res.row (Value.slice a2A a2n a2c) 49 1 a2n (flat false (mkI (IntKind.wrap .u8) false (k0 + ((totL true a1L : Nat) : Int)) a2y)) :: (((mkI (IntKind.wrap .u8) true k0 a1y).map (It.row .u8 5)) ++ (((mkI (IntKind.wrap .u8) false (k0 + ((totL true a1L : Nat) : Int)) a2y).map (It.row .u8 5)) ++ tl))))) := by
  refine calls_FA Try.func22 rfl (n := 14) rfl (l := [(0, Value.agg #[Value.int .i64 a0, Value.slice a1A a1n a1c, Value.slice a2A a2n a2c]), (1, Value.int .i64 k0)]) rfl (by simp) (fun g => ?_)
  refine wp_seq ?_
  refine c_reg ?_
  refine l_op rfl rfl (fun K hK => op_box (d := some 2) rfl rfl [Value.int .i64 a0, Value.slice a1A a1n a1c, Value.slice a2A a2n a2c] (by kernel_rfl) hS (fun blk2 w1 hS1 => hK _ _ ?_))
  clear hK K
  refine q_seg (S := (fun x_ => St w0 x_ (Res.box blk2 [Value.int .i64 a0, Value.slice a1A a1n a1c, Value.slice a2A a2n a2c] 34 :: Res.win (Value.slice a1A a1n a1c) 37 2 a1n (flat true a1y) :: Res.row (Value.slice a2A a2n a2c) 49 1 a2n (flat false a2y) :: ((a1y.map (It.row .u8 5)) ++ ((a2y.map (It.row .u8 5)) ++ tl))))) [(4, Value.int .i64 0)] [.no] True (by kernel_rfl) trivial hS1 ?_
  refine l_nil rfl ?_
  refine then_n ?_
  refine wp_seq ?_
  refine c_reg ?_
  refine q_seg (S := (fun x_ => St w0 x_ (Res.box blk2 [Value.int .i64 a0, Value.slice a1A a1n a1c, Value.slice a2A a2n a2c] 34 :: Res.win (Value.slice a1A a1n a1c) 37 2 a1n (flat true a1y) :: Res.row (Value.slice a2A a2n a2c) 49 1 a2n (flat false a2y) :: ((a1y.map (It.row .u8 5)) ++ ((a2y.map (It.row .u8 5)) ++ tl))))) [(7, Value.int .i64 k0), (6, Value.slice a1A a1n a1c), (5, Value.pointer (some ⟨blk2, 0 + 1, none⟩))] [.no, .v (Value.slice a1A a1n a1c), .no] ((LoadsAt Try.prog (fun x_ => St w0 x_ (Res.box blk2 [Value.int .i64 a0, Value.slice a1A a1n a1c, Value.slice a2A a2n a2c] 34 :: Res.win (Value.slice a1A a1n a1c) 37 2 a1n (flat true a1y) :: Res.row (Value.slice a2A a2n a2c) 49 1 a2n (flat false a2y) :: ((a1y.map (It.row .u8 5)) ++ ((a2y.map (It.row .u8 5)) ++ tl)))) 31 ⟨blk2, 0 + 1, none⟩ (Value.slice a1A a1n a1c))) (by kernel_rfl) (ld_box (i := 0) rfl rfl (by kernel_rfl)) hS1 ?_
  have hlm4 : totL true a1L ≤ wt a1L := totL_wt _ _
  refine l_op rfl rfl (fun K hK => op_callm (d := some 8) rfl rfl ⟨_, Try.func74, by kernel_rfl, by kernel_rfl⟩ (vs := [Value.slice a1A a1n a1c, Value.int .i64 k0]) (by kernel_rfl) (markNumberedPacketSW_c a1A a1n a1c k0 a1L a1y _ w0 w1 (St.frontB [Res.box blk2 [Value.int .i64 a0, Value.slice a1A a1n a1c, Value.slice a2A a2n a2c] 34] (Res.win (Value.slice a1A a1n a1c) 37 2 a1n (flat true a1y)) [Res.row (Value.slice a2A a2n a2c) 49 1 a2n (flat false a2y)] [] (a1y.map (It.row .u8 5)) ((a2y.map (It.row .u8 5)) ++ tl) hS1) a1q a1l (by omega) (by omega)) (fun v5 new6 w3 Rw3 hS3 => hK _ _ ?_))
  clear hK K
  obtain ⟨rfl, rfl⟩ := Rw3
  have hcq7 : (mkI (IntKind.wrap .u8) true k0 a1y).map (con true) = (mkL (IntKind.wrap .u8) true k0 a1L) := by rw [mkI_con, a1q]
  have hcq7w : wt (mkL (IntKind.wrap .u8) true k0 a1L) = wt a1L := mkL_wt _ _ _ _
  have hcq7t := totL_wt true a1L
  have hcq7o : okL .u8 (mkL (IntKind.wrap .u8) true k0 a1L) := mkL_ok8 _ _ _ (by omega) (by omega)
  have hS3r : St w0 w3 (Res.win (Value.slice a1A a1n a1c) 37 2 a1n (flat true (mkI (IntKind.wrap .u8) true k0 a1y)) :: Res.box blk2 [Value.int .i64 a0, Value.slice a1A a1n a1c, Value.slice a2A a2n a2c] 34 :: Res.row (Value.slice a2A a2n a2c) 49 1 a2n (flat false a2y) :: (((mkI (IntKind.wrap .u8) true k0 a1y).map (It.row .u8 5)) ++ ((a2y.map (It.row .u8 5)) ++ tl))) := St.backB (Res.win (Value.slice a1A a1n a1c) 37 2 a1n (flat true (mkI (IntKind.wrap .u8) true k0 a1y))) ((mkI (IntKind.wrap .u8) true k0 a1y).map (It.row .u8 5)) [Res.box blk2 [Value.int .i64 a0, Value.slice a1A a1n a1c, Value.slice a2A a2n a2c] 34, Res.row (Value.slice a2A a2n a2c) 49 1 a2n (flat false a2y)] ((a2y.map (It.row .u8 5)) ++ tl) hS3
  refine q_seg (S := (fun x_ => St w0 x_ (Res.win (Value.slice a1A a1n a1c) 37 2 a1n (flat true (mkI (IntKind.wrap .u8) true k0 a1y)) :: Res.box blk2 [Value.int .i64 a0, Value.slice a1A a1n a1c, Value.slice a2A a2n a2c] 34 :: Res.row (Value.slice a2A a2n a2c) 49 1 a2n (flat false a2y) :: (((mkI (IntKind.wrap .u8) true k0 a1y).map (It.row .u8 5)) ++ ((a2y.map (It.row .u8 5)) ++ tl))))) [(1, Value.int .i64 (k0 + ((totL true a1L : Nat) : Int)))] [.no] True (by kernel_rfl) trivial hS3r ?_
  refine l_nil rfl ?_
  refine then_n ?_
  refine wp_seq ?_
  refine c_reg ?_
  refine q_seg (S := (fun x_ => St w0 x_ (Res.win (Value.slice a1A a1n a1c) 37 2 a1n (flat true (mkI (IntKind.wrap .u8) true k0 a1y)) :: Res.box blk2 [Value.int .i64 a0, Value.slice a1A a1n a1c, Value.slice a2A a2n a2c] 34 :: Res.row (Value.slice a2A a2n a2c) 49 1 a2n (flat false a2y) :: (((mkI (IntKind.wrap .u8) true k0 a1y).map (It.row .u8 5)) ++ ((a2y.map (It.row .u8 5)) ++ tl))))) [(11, Value.int .i64 (k0 + ((totL true a1L : Nat) : Int))), (10, Value.slice a2A a2n a2c), (9, Value.pointer (some ⟨blk2, 0 + 2, none⟩))] [.no, .v (Value.slice a2A a2n a2c), .no] ((LoadsAt Try.prog (fun x_ => St w0 x_ (Res.win (Value.slice a1A a1n a1c) 37 2 a1n (flat true (mkI (IntKind.wrap .u8) true k0 a1y)) :: Res.box blk2 [Value.int .i64 a0, Value.slice a1A a1n a1c, Value.slice a2A a2n a2c] 34 :: Res.row (Value.slice a2A a2n a2c) 49 1 a2n (flat false a2y) :: (((mkI (IntKind.wrap .u8) true k0 a1y).map (It.row .u8 5)) ++ ((a2y.map (It.row .u8 5)) ++ tl)))) 32 ⟨blk2, 0 + 2, none⟩ (Value.slice a2A a2n a2c))) (by kernel_rfl) (ld_box (i := 1) rfl rfl (by kernel_rfl)) hS3r ?_
  have hlm9 : totL false a2L ≤ wt a2L := totL_wt _ _
  refine l_op rfl rfl (fun K hK => op_callm (d := some 12) rfl rfl ⟨_, Try.func75, by kernel_rfl, by kernel_rfl⟩ (vs := [Value.slice a2A a2n a2c, Value.int .i64 (k0 + ((totL true a1L : Nat) : Int))]) (by kernel_rfl) (markPayloadS_c a2A a2n a2c (k0 + ((totL true a1L : Nat) : Int)) a2L a2y _ w0 w3 (St.frontB [Res.win (Value.slice a1A a1n a1c) 37 2 a1n (flat true (mkI (IntKind.wrap .u8) true k0 a1y)), Res.box blk2 [Value.int .i64 a0, Value.slice a1A a1n a1c, Value.slice a2A a2n a2c] 34] (Res.row (Value.slice a2A a2n a2c) 49 1 a2n (flat false a2y)) [] [((mkI (IntKind.wrap .u8) true k0 a1y).map (It.row .u8 5))] (a2y.map (It.row .u8 5)) tl hS3r) a2q a2l (by omega) (by omega)) (fun v10 new11 w8 Rw8 hS8 => hK _ _ ?_))
  clear hK K
  obtain ⟨rfl, rfl⟩ := Rw8
  have hcq12 : (mkI (IntKind.wrap .u8) false (k0 + ((totL true a1L : Nat) : Int)) a2y).map (con false) = (mkL (IntKind.wrap .u8) false (k0 + ((totL true a1L : Nat) : Int)) a2L) := by rw [mkI_con, a2q]
  have hcq12w : wt (mkL (IntKind.wrap .u8) false (k0 + ((totL true a1L : Nat) : Int)) a2L) = wt a2L := mkL_wt _ _ _ _
  have hcq12t := totL_wt false a2L
  have hcq12o : okL .u8 (mkL (IntKind.wrap .u8) false (k0 + ((totL true a1L : Nat) : Int)) a2L) := mkL_ok8 _ _ _ (by omega) (by omega)
  have hS8r : St w0 w8 (Res.row (Value.slice a2A a2n a2c) 49 1 a2n (flat false (mkI (IntKind.wrap .u8) false (k0 + ((totL true a1L : Nat) : Int)) a2y)) :: Res.win (Value.slice a1A a1n a1c) 37 2 a1n (flat true (mkI (IntKind.wrap .u8) true k0 a1y)) :: Res.box blk2 [Value.int .i64 a0, Value.slice a1A a1n a1c, Value.slice a2A a2n a2c] 34 :: (((mkI (IntKind.wrap .u8) false (k0 + ((totL true a1L : Nat) : Int)) a2y).map (It.row .u8 5)) ++ (((mkI (IntKind.wrap .u8) true k0 a1y).map (It.row .u8 5)) ++ tl))) := St.backB (Res.row (Value.slice a2A a2n a2c) 49 1 a2n (flat false (mkI (IntKind.wrap .u8) false (k0 + ((totL true a1L : Nat) : Int)) a2y))) ((mkI (IntKind.wrap .u8) false (k0 + ((totL true a1L : Nat) : Int)) a2y).map (It.row .u8 5)) [Res.win (Value.slice a1A a1n a1c) 37 2 a1n (flat true (mkI (IntKind.wrap .u8) true k0 a1y)), Res.box blk2 [Value.int .i64 a0, Value.slice a1A a1n a1c, Value.slice a2A a2n a2c] 34] (((mkI (IntKind.wrap .u8) true k0 a1y).map (It.row .u8 5)) ++ tl) hS8
  refine q_seg (S := (fun x_ => St w0 x_ (Res.row (Value.slice a2A a2n a2c) 49 1 a2n (flat false (mkI (IntKind.wrap .u8) false (k0 + ((totL true a1L : Nat) : Int)) a2y)) :: Res.win (Value.slice a1A a1n a1c) 37 2 a1n (flat true (mkI (IntKind.wrap .u8) true k0 a1y)) :: Res.box blk2 [Value.int .i64 a0, Value.slice a1A a1n a1c, Value.slice a2A a2n a2c] 34 :: (((mkI (IntKind.wrap .u8) false (k0 + ((totL true a1L : Nat) : Int)) a2y).map (It.row .u8 5)) ++ (((mkI (IntKind.wrap .u8) true k0 a1y).map (It.row .u8 5)) ++ tl))))) [(1, Value.int .i64 ((k0 + ((totL true a1L : Nat) : Int)) + ((totL false a2L : Nat) : Int)))] [.no] True (by kernel_rfl) trivial hS8r ?_
  refine l_nil rfl ?_
  refine then_n ?_
  refine wp_seq ?_
  refine c_reg ?_
  refine q_seg (S := (fun x_ => St w0 x_ (Res.row (Value.slice a2A a2n a2c) 49 1 a2n (flat false (mkI (IntKind.wrap .u8) false (k0 + ((totL true a1L : Nat) : Int)) a2y)) :: Res.win (Value.slice a1A a1n a1c) 37 2 a1n (flat true (mkI (IntKind.wrap .u8) true k0 a1y)) :: Res.box blk2 [Value.int .i64 a0, Value.slice a1A a1n a1c, Value.slice a2A a2n a2c] 34 :: (((mkI (IntKind.wrap .u8) false (k0 + ((totL true a1L : Nat) : Int)) a2y).map (It.row .u8 5)) ++ (((mkI (IntKind.wrap .u8) true k0 a1y).map (It.row .u8 5)) ++ tl))))) [(4, Value.int .i64 ((k0 + ((totL true a1L : Nat) : Int)) + ((totL false a2L : Nat) : Int))), (13, Value.int .i64 ((k0 + ((totL true a1L : Nat) : Int)) + ((totL false a2L : Nat) : Int)))] [.no, .no] True (by kernel_rfl) trivial hS8r ?_
  refine l_nil rfl ?_
  refine then_n ?_
  refine wp_ret ?_
  have hS8rs1 : St w0 w8 (Res.row (Value.slice a2A a2n a2c) 49 1 a2n (flat false (mkI (IntKind.wrap .u8) false (k0 + ((totL true a1L : Nat) : Int)) a2y)) :: Res.win (Value.slice a1A a1n a1c) 37 2 a1n (flat true (mkI (IntKind.wrap .u8) true k0 a1y)) :: (((mkI (IntKind.wrap .u8) false (k0 + ((totL true a1L : Nat) : Int)) a2y).map (It.row .u8 5)) ++ (((mkI (IntKind.wrap .u8) true k0 a1y).map (It.row .u8 5)) ++ tl))) := (hS8r.sub (List.Sublist.cons_cons _ (List.Sublist.cons_cons _ (List.Sublist.cons _ (List.Sublist.append (List.Sublist.refl _) (List.Sublist.append (List.Sublist.refl _) (List.Sublist.refl _)))))))
  have hS8rs1s2 : St w0 w8 (Res.row (Value.slice a2A a2n a2c) 49 1 a2n (flat false (mkI (IntKind.wrap .u8) false (k0 + ((totL true a1L : Nat) : Int)) a2y)) :: Res.win (Value.slice a1A a1n a1c) 37 2 a1n (flat true (mkI (IntKind.wrap .u8) true k0 a1y)) :: (((mkI (IntKind.wrap .u8) false (k0 + ((totL true a1L : Nat) : Int)) a2y).map (It.row .u8 5)) ++ (((mkI (IntKind.wrap .u8) true k0 a1y).map (It.row .u8 5)) ++ tl))) := hS8rs1.front 0 rfl
  have hS8rs1s2s3 : St w0 w8 (Res.win (Value.slice a1A a1n a1c) 37 2 a1n (flat true (mkI (IntKind.wrap .u8) true k0 a1y)) :: Res.row (Value.slice a2A a2n a2c) 49 1 a2n (flat false (mkI (IntKind.wrap .u8) false (k0 + ((totL true a1L : Nat) : Int)) a2y)) :: (((mkI (IntKind.wrap .u8) false (k0 + ((totL true a1L : Nat) : Int)) a2y).map (It.row .u8 5)) ++ (((mkI (IntKind.wrap .u8) true k0 a1y).map (It.row .u8 5)) ++ tl))) := hS8rs1s2.front 1 rfl
  have hS8rs1s2s3s4 : St w0 w8 (Res.win (Value.slice a1A a1n a1c) 37 2 a1n (flat true (mkI (IntKind.wrap .u8) true k0 a1y)) :: Res.row (Value.slice a2A a2n a2c) 49 1 a2n (flat false (mkI (IntKind.wrap .u8) false (k0 + ((totL true a1L : Nat) : Int)) a2y)) :: (((mkI (IntKind.wrap .u8) false (k0 + ((totL true a1L : Nat) : Int)) a2y).map (It.row .u8 5)) ++ (((mkI (IntKind.wrap .u8) true k0 a1y).map (It.row .u8 5)) ++ tl))) := St.gfront [Res.win (Value.slice a1A a1n a1c) 37 2 a1n (flat true (mkI (IntKind.wrap .u8) true k0 a1y)), Res.row (Value.slice a2A a2n a2c) 49 1 a2n (flat false (mkI (IntKind.wrap .u8) false (k0 + ((totL true a1L : Nat) : Int)) a2y))] [] ((mkI (IntKind.wrap .u8) false (k0 + ((totL true a1L : Nat) : Int)) a2y).map (It.row .u8 5)) (((mkI (IntKind.wrap .u8) true k0 a1y).map (It.row .u8 5)) ++ tl) hS8rs1s2s3
  have hS8rs1s2s3s4s5 : St w0 w8 (Res.win (Value.slice a1A a1n a1c) 37 2 a1n (flat true (mkI (IntKind.wrap .u8) true k0 a1y)) :: Res.row (Value.slice a2A a2n a2c) 49 1 a2n (flat false (mkI (IntKind.wrap .u8) false (k0 + ((totL true a1L : Nat) : Int)) a2y)) :: (((mkI (IntKind.wrap .u8) true k0 a1y).map (It.row .u8 5)) ++ (((mkI (IntKind.wrap .u8) false (k0 + ((totL true a1L : Nat) : Int)) a2y).map (It.row .u8 5)) ++ tl))) := St.gfront [Res.win (Value.slice a1A a1n a1c) 37 2 a1n (flat true (mkI (IntKind.wrap .u8) true k0 a1y)), Res.row (Value.slice a2A a2n a2c) 49 1 a2n (flat false (mkI (IntKind.wrap .u8) false (k0 + ((totL true a1L : Nat) : Int)) a2y))] [((mkI (IntKind.wrap .u8) false (k0 + ((totL true a1L : Nat) : Int)) a2y).map (It.row .u8 5))] ((mkI (IntKind.wrap .u8) true k0 a1y).map (It.row .u8 5)) tl hS8rs1s2s3s4
  exact c_end (S := (fun x_ => St w0 x_ (Res.row (Value.slice a2A a2n a2c) 49 1 a2n (flat false (mkI (IntKind.wrap .u8) false (k0 + ((totL true a1L : Nat) : Int)) a2y)) :: Res.win (Value.slice a1A a1n a1c) 37 2 a1n (flat true (mkI (IntKind.wrap .u8) true k0 a1y)) :: Res.box blk2 [Value.int .i64 a0, Value.slice a1A a1n a1c, Value.slice a2A a2n a2c] 34 :: (((mkI (IntKind.wrap .u8) false (k0 + ((totL true a1L : Nat) : Int)) a2y).map (It.row .u8 5)) ++ (((mkI (IntKind.wrap .u8) true k0 a1y).map (It.row .u8 5)) ++ tl))))) (rs := [.tmp 4]) rfl [] (v := Value.int .i64 ((k0 + ((totL true a1L : Nat) : Int)) + ((totL false a2L : Nat) : Int))) (C := True) (by kernel_rfl) trivial hS8r (⟨_, _, rfl, hS8rs1s2s3s4s5, rfl, rfl⟩)
end Go.Proofs.Ytchkiohikhfecaa
