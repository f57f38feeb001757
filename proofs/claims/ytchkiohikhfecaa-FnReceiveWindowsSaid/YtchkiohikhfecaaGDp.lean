/-
  Copies, comparisons, sizes and marks of nested slices.
-/
import Derived.Test.YtchkiohikhfecaaGSl
import Derived.Test.YtchkiohikhfecaaDeep
namespace Go.Proofs.Ytchkiohikhfecaa
open Go.RowKit
set_option maxRecDepth 100000

theorem copyBytes_c (A : Option Addr) (n c : Nat) (zs : List Int) (w : World) (hn : n ≤ 1099511627776) (hr : Rd w w.heap.size A n (zs.map (Value.int .u8))) : Calls Try.prog 71 #[.slice A n c] w (Ret w (fun v new => ∃ b, v = .slice (some ⟨b, 0, none⟩) n n ∧ new = [.row (.slice (some ⟨b, 0, none⟩) n n) 5 1 n (zs.map (Value.int .u8))])) := by
  refine calls_FA Try.func71 rfl (n := 11) rfl (l := [(0, Value.slice A n c)]) rfl (by simp) (fun g => ?_)
  have hS := St.init w
  refine wp_seq ?_
  refine c_reg ?_
  refine q_seg (S := (fun x_ => St w x_ [])) [(2, Value.slice none 0 0)] [.no] True (by kernel_rfl) trivial hS ?_
  refine l_nil rfl ?_
  refine then_n ?_
  refine wp_seq ?_
  refine c_reg ?_
  refine q_seg (S := (fun x_ => St w x_ [])) [(5, Value.int .i64 ((n : Nat) : Int)), (4, Value.slice A n c)] [.no, .no] True (by kernel_rfl) trivial hS ?_
  refine l_op rfl rfl (fun K hK => op_make (d := some 6) rfl rfl (e := 5) (by kernel_rfl) [Value.int .u8 0] (by kernel_rfl) 1 (by kernel_rfl) 1 (by kernel_rfl) n n (kl := .i64) (kc := .i64) (by kernel_rfl) (by kernel_rfl) (by omega) (by omega) (by unfold maxLen; omega) hS (fun blk2 w1 hS1 => hK _ _ ?_))
  clear hK K
  refine q_seg (S := (fun x_ => St w x_ [Res.row (Value.slice (some ⟨blk2, 0, none⟩) n n) 5 1 n (zrow [Value.int .u8 0] (n * 1))])) [(3, Value.slice (some ⟨blk2, 0, none⟩) n n)] [.no] True (by kernel_rfl) trivial hS1 ?_
  refine l_nil rfl ?_
  refine then_n ?_
  refine wp_seq ?_
  refine c_reg ?_
  refine q_seg (S := (fun x_ => St w x_ [Res.row (Value.slice (some ⟨blk2, 0, none⟩) n n) 5 1 n (zrow [Value.int .u8 0] (n * 1))])) [(8, Value.slice A n c), (7, Value.slice (some ⟨blk2, 0, none⟩) n n)] [.no, .no] True (by kernel_rfl) trivial hS1 ?_
  refine l_op rfl rfl (fun K hK => op_copy (d := some 9) rfl rfl (e := 5) (by kernel_rfl) (by kernel_rfl) (i := 0) (b := blk2) (cap := n) (m := n) (xs := (zrow [Value.int .u8 0] (n * 1))) (by kernel_rfl) (by kernel_rfl) (A := A) (k := n) (c := c) (by kernel_rfl) (zs.map (Value.int .u8)) hS1 (hS1.rdlow hr) (ints_one _ _) n (by omega) (fun w3 hS3 => hK _ _ ?_))
  clear hK K
  refine l_nil rfl ?_
  refine then_n ?_
  refine wp_seq ?_
  refine c_reg ?_
  refine q_seg (S := (fun x_ => St w x_ [Res.row (Value.slice (some ⟨blk2, 0, none⟩) n n) 5 1 n (List.take n (zs.map (Value.int .u8)) ++ List.drop n (zrow [Value.int .u8 0] (n * 1)))])) [(2, Value.slice (some ⟨blk2, 0, none⟩) n n), (10, Value.slice (some ⟨blk2, 0, none⟩) n n)] [.no, .no] True (by kernel_rfl) trivial hS3 ?_
  refine l_nil rfl ?_
  refine then_n ?_
  refine wp_ret ?_
  exact c_end (S := (fun x_ => St w x_ [Res.row (Value.slice (some ⟨blk2, 0, none⟩) n n) 5 1 n (List.take n (zs.map (Value.int .u8)) ++ List.drop n (zrow [Value.int .u8 0] (n * 1)))])) (rs := [.tmp 2]) rfl [] (v := Value.slice (some ⟨blk2, 0, none⟩) n n) (C := True) (by kernel_rfl) trivial hS3 ((hS3.eqv (by rw [copy_all (by rw [List.length_map]; exact hr.len) (by rw [zrow_length]; omega)]; rfl)).rt ⟨_, rfl, rfl⟩)
theorem bytesEqual_c (A B : Option Addr) (n c m d : Nat) (xs ys : List Int) (w : World) (hx : okz .u8 xs) (hy : okz .u8 ys) (hr : Rd w w.heap.size A n (xs.map (Value.int .u8))) (hr2 : Rd w w.heap.size B m (ys.map (Value.int .u8))) : Calls Try.prog 107 #[.slice A n c, .slice B m d] w (RetV w (.bool (decide (xs = ys)))) := by
  refine calls_FA Try.func107 rfl (n := 10) rfl (l := [(0, Value.slice A n c), (1, Value.slice B m d)]) rfl (by simp) (fun g => ?_)
  have hS := St.init w
  refine wp_seq ?_
  refine c_reg ?_
  refine q_seg (S := (fun x_ => St w x_ [])) [(4, Value.bool false)] [.no] True (by kernel_rfl) trivial hS ?_
  refine l_nil rfl ?_
  refine then_n ?_
  refine wp_seq ?_
  refine c_reg ?_
  refine q_seg (S := (fun x_ => St w x_ [])) [(4, Value.bool (((bstr xs)).toList == ((bstr ys)).toList)), (9, Value.bool (((bstr xs)).toList == ((bstr ys)).toList)), (8, Value.string (bstr ys)), (7, Value.slice B m d), (6, Value.string (bstr xs)), (5, Value.slice A n c)] [.no, .v (Value.string (bstr xs)), .no, .v (Value.string (bstr ys)), .no, .no] ((YieldsAt Try.prog (fun x_ => St w x_ []) (convert 26 9 (Value.slice A n c)) (Value.string (bstr xs))) ∧ (YieldsAt Try.prog (fun x_ => St w x_ []) (convert 26 9 (Value.slice B m d)) (Value.string (bstr ys)))) (by kernel_rfl) ⟨(conv_b (e := 5) (by kernel_rfl) (by kernel_rfl) (by kernel_rfl) (fun _ hx_ => (hx_.rdlow hr))), (conv_b (e := 5) (by kernel_rfl) (by kernel_rfl) (by kernel_rfl) (fun _ hx_ => (hx_.rdlow hr2)))⟩ hS ?_
  refine l_nil rfl ?_
  refine then_n ?_
  refine wp_ret ?_
  exact c_end (S := (fun x_ => St w x_ [])) (rs := [.tmp 4]) rfl [] (v := Value.bool (((bstr xs)).toList == ((bstr ys)).toList)) (C := True) (by kernel_rfl) trivial hS ((hS.rv (congrArg Value.bool (by first | exact bstr_eq hx hy | rfl))))
theorem EqualBytes_i_c (A B : Option Addr) (n c m d : Nat) (xs ys : List Int) (w : World) (hx : okz .u8 xs) (hy : okz .u8 ys) (hr : Rd w w.heap.size A n (xs.map (Value.int .u8))) (hr2 : Rd w w.heap.size B m (ys.map (Value.int .u8))) : Calls Try.prog 101 #[.slice A n c, .slice B m d] w (RetV w (.bool (decide (xs = ys)))) := by
  refine calls_FA Try.func101 rfl (n := 8) rfl (l := [(0, Value.slice A n c), (1, Value.slice B m d)]) rfl (by simp) (fun g => ?_)
  have hS := St.init w
  refine wp_seq ?_
  refine c_reg ?_
  refine q_seg (S := (fun x_ => St w x_ [])) [(4, Value.bool false)] [.no] True (by kernel_rfl) trivial hS ?_
  refine l_nil rfl ?_
  refine then_n ?_
  refine wp_seq ?_
  refine c_reg ?_
  refine q_seg (S := (fun x_ => St w x_ [])) [(6, Value.slice B m d), (5, Value.slice A n c)] [.no, .no] True (by kernel_rfl) trivial hS ?_
  refine l_op rfl rfl (fun K hK => op_callv (d := some 7) rfl rfl ⟨_, Try.func107, by kernel_rfl, by kernel_rfl⟩ (vs := [Value.slice A n c, Value.slice B m d]) (by kernel_rfl) (v := Value.bool (decide (xs = ys))) (bytesEqual_c A B n c m d xs ys w hx hy (hS.rdlow hr) (hS.rdlow hr2)) hS (fun w1 hS1 => hK _ _ ?_))
  clear hK K
  refine q_seg (S := (fun x_ => St w x_ [])) [(4, Value.bool (decide (xs = ys)))] [.no] True (by kernel_rfl) trivial hS1 ?_
  refine l_nil rfl ?_
  refine then_n ?_
  refine wp_ret ?_
  exact c_end (S := (fun x_ => St w x_ [])) (rs := [.tmp 4]) rfl [] (v := Value.bool (decide (xs = ys))) (C := True) (by kernel_rfl) trivial hS1 ((hS1.rv (congrArg Value.bool (by first | exact bstr_eq hx hy | rfl))))
theorem el_49 : El Try.prog 32 49 (Value.agg #[Value.slice none 0 0]) 1 24 := ⟨Try.underlying32, info_parts (by kernel_rfl), rfl, by decide⟩
theorem copyPayloads_i_c (A : Option Addr) (n c : Nat) (L : List (Int × List Int)) (w : World) (hs : wt L ≤ 1099511627776) (hr : RdL .u8 false w w.heap.size A n L) : Calls Try.prog 98 #[.slice A n c] w (Ret w (fun v new => ∃ (A0_ : Option Addr) (c0_ : Nat) (y0_ : List It), v = Value.slice A0_ n c0_ ∧ new = Res.row (Value.slice A0_ n c0_) 49 1 n (flat false y0_) :: ((y0_.map (It.row .u8 5)) ++ []) ∧ y0_.map (con false) = L)) := by
  obtain ⟨hok, ys, hr, rfl⟩ := hr
  have hwl := wt_len (ys.map (con false))
  have hln := hr.len
  rw [List.length_map] at hwl
  refine calls_FA Try.func98 rfl (n := 25) rfl (l := [(0, Value.slice A n c)]) rfl (by simp) (fun g => ?_)
  have hS := St.init w
  refine wp_seq ?_
  refine c_reg ?_
  refine q_seg (S := (fun x_ => St w x_ [])) [(2, Value.slice none 0 0)] [.no] True (by kernel_rfl) trivial hS ?_
  refine l_nil rfl ?_
  refine then_n ?_
  refine wp_seq ?_
  refine c_reg ?_
  refine q_seg (S := (fun x_ => St w x_ [])) [(7, Value.int .i64 ((n : Nat) : Int)), (6, Value.slice A n c)] [.no, .no] True (by kernel_rfl) trivial hS ?_
  refine l_op rfl rfl (fun K hK => op_make (d := some 8) rfl rfl (e := 49) (by kernel_rfl) [Value.slice none 0 0] (by kernel_rfl) 1 (by kernel_rfl) 24 (by kernel_rfl) n n (kl := .i64) (kc := .i64) (by kernel_rfl) (by kernel_rfl) (by omega) (by omega) (by unfold maxLen; omega) hS (fun blk2 w1 hS1 => hK _ _ ?_))
  clear hK K
  refine q_seg (S := (fun x_ => St w x_ [Res.row (Value.slice (some ⟨blk2, 0, none⟩) n n) 49 1 n (zrow [Value.slice none 0 0] (n * 1))])) [(3, Value.slice (some ⟨blk2, 0, none⟩) n n)] [.no] True (by kernel_rfl) trivial hS1 ?_
  refine l_nil rfl ?_
  refine then_n ?_
  refine wp_seq ?_
  refine wp_seq ?_
  refine c_reg ?_
  refine q_seg (S := (fun x_ => St w x_ [Res.row (Value.slice (some ⟨blk2, 0, none⟩) n n) 49 1 n (zrow [Value.slice none 0 0] (n * 1))])) [(11, Value.int .i64 0), (10, Value.int .i64 ((n : Nat) : Int)), (9, Value.slice A n c)] [.no, .no, .no] True (by kernel_rfl) trivial hS1 ?_
  refine l_nil rfl ?_
  refine then_n ?_
  refine wp_block ?_
  refine c_loop (X := Nat × List It × List Value) (fun (x_ : Nat × List It × List Value) => match x_ with | (k, zs, rest) => [(3, Value.slice (some ⟨blk2, 0, none⟩) n n), (9, Value.slice A n c), (10, Value.int .i64 ((n : Nat) : Int)), (11, Value.int .i64 ((k : Nat) : Int))]) (fun (x_ : Nat × List It × List Value) (wr : World) => match x_ with | (k, zs, rest) => (k ≤ n) ∧ (zs.map (con false) = (ys.take k).map (con false)) ∧ St w wr (Res.row (Value.slice (some ⟨blk2, 0, none⟩) n n) 49 1 n ((flat false zs) ++ rest) :: ((zs.map (It.row .u8 5)) ++ []))) (fun (x_ : Nat × List It × List Value) => match x_ with | (k, zs, rest) => n - k) ((0, [], (zrow [Value.slice none 0 0] (n * 1)))) ?_ ?_ ?_
  · exact (agree_cons (by kernel_rfl) (agree_cons (by kernel_rfl) (agree_cons (by kernel_rfl) (agree_cons (by kernel_rfl) agree_nil))))
  · exact ⟨Nat.zero_le _, rfl, hS1⟩
  rintro ⟨k, zs, rest⟩ g4 w3 ⟨hkn, hzk, hS3⟩
  have hzl := con_lenk hzk hln hkn
  refine wp_seq ?_
  refine c_reg ?_
  refine q_seg (S := (fun x_ => St w x_ (Res.row (Value.slice (some ⟨blk2, 0, none⟩) n n) 49 1 n ((flat false zs) ++ rest) :: ((zs.map (It.row .u8 5)) ++ [])))) [(12, Value.bool (decide (((k : Nat) : Int) < ((n : Nat) : Int))))] [.no] True (by kernel_rfl) trivial hS3 ?_
  refine l_nil rfl ?_
  refine then_n ?_
  refine wp_seq ?_
  rcases Bool.eq_false_or_eq_true (decide (((k : Nat) : Int) < ((n : Nat) : Int))) with hb5 | hb5
  · skip
    have hb5p := of_decide_eq_true hb5
    obtain ⟨b, off, rfl, hbB, hcl⟩ := hr.at (k := k) (by omega)
    obtain ⟨y, hyk, hym⟩ := get_of_lt (l := ys) (k := k) (by have := hr.len; omega)
    obtain ⟨hy1, hy2, hy3⟩ := hr.el y hym
    obtain ⟨hyi, hyz⟩ := hok _ (List.mem_map_of_mem (f := (con false)) hym)
    have hyl : y.zs.length + 1 ≤ wt (ys.map (con false)) := wt_mem (List.mem_map_of_mem (f := (con false)) hym)
    refine c_true (b := (decide (((k : Nat) : Int) < ((n : Nat) : Int)))) (by kernel_rfl) hb5 ?_
    refine wp_skip ?_
    refine then_n ?_
    refine wp_seq ?_
    refine wp_block ?_
    refine wp_seq ?_
    refine c_reg ?_
    refine q_seg (S := (fun x_ => St w x_ (Res.row (Value.slice (some ⟨blk2, 0, none⟩) n n) 49 1 n ((flat false zs) ++ rest) :: ((zs.map (It.row .u8 5)) ++ [])))) [(15, Value.agg #[Value.slice y.A y.zs.length y.c]), (14, Value.pointer (some ⟨b, off + Int.toNat ((k : Nat) : Int) * 1, none⟩)), (13, Value.int .i64 ((k : Nat) : Int))] [.no, .no, .v (Value.agg #[Value.slice y.A y.zs.length y.c])] (((0 : Int) ≤ ((k : Nat) : Int)) ∧ (((k : Nat) : Int) < ((n : Nat) : Int)) ∧ (LoadsAt Try.prog (fun x_ => St w x_ (Res.row (Value.slice (some ⟨blk2, 0, none⟩) n n) 49 1 n ((flat false zs) ++ rest) :: ((zs.map (It.row .u8 5)) ++ []))) 49 ⟨b, off + Int.toNat ((k : Nat) : Int) * 1, none⟩ (Value.agg #[Value.slice y.A y.zs.length y.c]))) (by kernel_rfl) ⟨(by omega), (by omega), (ld_lowN (k := 1) (vs := [Value.slice y.A y.zs.length y.c]) (by kernel_rfl) rfl (flat_cells (p := false) hcl hyk))⟩ hS3 ?_
    refine l_op rfl rfl (fun K hK => op_alloc (d := some 5) rfl rfl [Value.slice none 0 0] (by kernel_rfl) hS3 (fun blk7 w6 hS6 => hK _ _ ?_))
    clear hK K
    refine q_seg (S := (fun x_ => St w x_ (Res.box blk7 [Value.slice none 0 0] 49 :: Res.row (Value.slice (some ⟨blk2, 0, none⟩) n n) 49 1 n ((flat false zs) ++ rest) :: ((zs.map (It.row .u8 5)) ++ [])))) [(4, Value.int .i64 ((k : Nat) : Int))] [.no] True (by kernel_rfl) trivial hS6 ?_
    refine l_op rfl rfl (fun K hK => op_store (d := none) rfl rfl (i := 0) (b := blk7) (off := 0) (cs := [Value.slice none 0 0]) (bt := 49) (by kernel_rfl) (by kernel_rfl) [Value.slice y.A y.zs.length y.c] (by kernel_rfl) (by kernel_rfl) (Nat.le_of_ble_eq_true (by kernel_rfl)) (by kernel_rfl) (Res.box blk7 [Value.slice y.A y.zs.length y.c] 49 :: Res.row (Value.slice (some ⟨blk2, 0, none⟩) n n) 49 1 n ((flat false zs) ++ rest) :: ((zs.map (It.row .u8 5)) ++ [])) (by kernel_rfl) hS6 (fun w8 hS8 => hK _ _ ?_))
    clear hK K
    refine l_nil rfl ?_
    refine then_n ?_
    refine c_reg ?_
    refine q_seg (S := (fun x_ => St w x_ (Res.box blk7 [Value.slice y.A y.zs.length y.c] 49 :: Res.row (Value.slice (some ⟨blk2, 0, none⟩) n n) 49 1 n ((flat false zs) ++ rest) :: ((zs.map (It.row .u8 5)) ++ [])))) [(19, Value.slice y.A y.zs.length y.c), (18, Value.pointer (some ⟨blk7, 0 + 0, none⟩)), (17, Value.int .i64 ((k : Nat) : Int)), (16, Value.slice (some ⟨blk2, 0, none⟩) n n)] [.no, .no, .no, .v (Value.slice y.A y.zs.length y.c)] ((LoadsAt Try.prog (fun x_ => St w x_ (Res.box blk7 [Value.slice y.A y.zs.length y.c] 49 :: Res.row (Value.slice (some ⟨blk2, 0, none⟩) n n) 49 1 n ((flat false zs) ++ rest) :: ((zs.map (It.row .u8 5)) ++ []))) 26 ⟨blk7, 0 + 0, none⟩ (Value.slice y.A y.zs.length y.c))) (by kernel_rfl) (ld_box (i := 0) rfl rfl (by kernel_rfl)) hS8 ?_
    refine l_op rfl rfl (fun K hK => op_call (d := some 20) rfl rfl ⟨_, Try.func71, by kernel_rfl, by kernel_rfl⟩ (vs := [Value.slice y.A y.zs.length y.c]) (by kernel_rfl) (copyBytes_c y.A y.zs.length y.c y.zs w8 (by omega) (hS8.rdlow hy1)) hS8 (fun v10 new11 w9 Rw9 hS9 => hK _ _ ?_))
    clear hK K
    obtain ⟨blk12, rfl, rfl⟩ := Rw9
    refine q_seg (S := (fun x_ => St w x_ (Res.row (Value.slice (some ⟨blk12, 0, none⟩) y.zs.length y.zs.length) 5 1 y.zs.length (y.zs.map (Value.int .u8)) :: Res.box blk7 [Value.slice y.A y.zs.length y.c] 49 :: Res.row (Value.slice (some ⟨blk2, 0, none⟩) n n) 49 1 n ((flat false zs) ++ rest) :: ((zs.map (It.row .u8 5)) ++ [])))) [(22, Value.pointer (some ⟨blk2, 0 + Int.toNat ((k : Nat) : Int) * 1, none⟩)), (21, Value.agg #[Value.slice (some ⟨blk12, 0, none⟩) y.zs.length y.zs.length])] [.no, .no] (((0 : Int) ≤ ((k : Nat) : Int)) ∧ (((k : Nat) : Int) < ((n : Nat) : Int))) (by kernel_rfl) ⟨(by omega), (by omega)⟩ hS9 ?_
    have hlnw13 := hS9.row_len (List.mem_of_getElem? (i := 2) rfl)
    refine l_op rfl rfl (fun K hK => op_storeRow (d := none) rfl rfl (i := 2) (b := blk2) (off := 0 + Int.toNat ((k : Nat) : Int) * 1) (m := n) (cap := n) (e := 49) (sz := 1) (xs := ((flat false zs) ++ rest)) (by kernel_rfl) (by kernel_rfl) [Value.slice (some ⟨blk12, 0, none⟩) y.zs.length y.zs.length] (by kernel_rfl) (by kernel_rfl) (by rw [hlnw13]; simp only [List.length_cons, List.length_nil]; omega) (by rfl) (Res.row (Value.slice (some ⟨blk12, 0, none⟩) y.zs.length y.zs.length) 5 1 y.zs.length (y.zs.map (Value.int .u8)) :: Res.box blk7 [Value.slice y.A y.zs.length y.c] 49 :: Res.row (Value.slice (some ⟨blk2, 0, none⟩) n n) 49 1 n (List.take (0 + Int.toNat ((k : Nat) : Int) * 1) ((flat false zs) ++ rest) ++ [Value.slice (some ⟨blk12, 0, none⟩) y.zs.length y.zs.length] ++ List.drop (0 + Int.toNat ((k : Nat) : Int) * 1 + List.length [Value.slice (some ⟨blk12, 0, none⟩) y.zs.length y.zs.length]) ((flat false zs) ++ rest)) :: ((zs.map (It.row .u8 5)) ++ [])) (by kernel_rfl) hS9 (fun w13 hS13 => hK _ _ ?_))
    clear hK K
    replace hS13 := hS13.eqv (own' := (Res.row (Value.slice (some ⟨blk12, 0, none⟩) y.zs.length y.zs.length) 5 1 y.zs.length (y.zs.map (Value.int .u8)) :: Res.box blk7 [Value.slice y.A y.zs.length y.c] 49 :: Res.row (Value.slice (some ⟨blk2, 0, none⟩) n n) 49 1 n ((flat false (zs ++ [(It.mk 0 (some ⟨blk12, 0, none⟩) y.zs.length y.zs)])) ++ rest.drop 1) :: ((zs.map (It.row .u8 5)) ++ []))) (by rw [deep_fill (p := false) (y := (It.mk 0 (some ⟨blk12, 0, none⟩) y.zs.length y.zs)) hzl _ (by rw [Int.toNat_natCast, Nat.zero_add]; rfl) [Value.slice (some ⟨blk12, 0, none⟩) y.zs.length y.zs.length] rfl 1 rfl])
    refine l_nil rfl ?_
    refine blk_n ?_
    refine then_n ?_
    refine c_reg ?_
    refine q_seg (S := (fun x_ => St w x_ (Res.row (Value.slice (some ⟨blk12, 0, none⟩) y.zs.length y.zs.length) 5 1 y.zs.length (y.zs.map (Value.int .u8)) :: Res.box blk7 [Value.slice y.A y.zs.length y.c] 49 :: Res.row (Value.slice (some ⟨blk2, 0, none⟩) n n) 49 1 n ((flat false (zs ++ [(It.mk 0 (some ⟨blk12, 0, none⟩) y.zs.length y.zs)])) ++ rest.drop 1) :: ((zs.map (It.row .u8 5)) ++ [])))) [(11, Value.int .i64 (((k : Nat) : Int) + (1 : Int))), (23, Value.int .i64 (((k : Nat) : Int) + (1 : Int)))] [.no, .no] ((InK .i64 (((k : Nat) : Int) + (1 : Int)))) (by kernel_rfl) (in64 (by omega) (by omega)) hS13 ?_
    refine l_nil rfl ?_
    refine then_n ?_
    have hSe := (hS13.sub (List.Sublist.cons_cons _ (List.Sublist.cons _ (List.Sublist.cons_cons _ (List.Sublist.append (List.Sublist.refl _) List.Sublist.slnil)))))
    refine round_end ((k + 1, zs ++ [(It.mk 0 (some ⟨blk12, 0, none⟩) y.zs.length y.zs)], rest.drop 1)) ?_ ?_ ?_
    · exact (agree_cons (by kernel_rfl) (agree_cons (by kernel_rfl) (agree_cons (by kernel_rfl) (agree_cons (by kernel_rfl) agree_nil))))
    · exact ⟨(by omega), (con_take hzk hyk rfl), (St.pickI (κ := .u8) (tb := 5) [Res.row (Value.slice (some ⟨blk2, 0, none⟩) n n) 49 1 n ((flat false (zs ++ [(It.mk 0 (some ⟨blk12, 0, none⟩) y.zs.length y.zs)])) ++ rest.drop 1)] [] zs (It.mk 0 (some ⟨blk12, 0, none⟩) y.zs.length y.zs) hSe)⟩
    · exact (by first | omega | (dsimp only; omega))
  · skip
    have hb5p := of_decide_eq_false hb5
    refine c_false (b := (decide (((k : Nat) : Int) < ((n : Nat) : Int)))) (by kernel_rfl) hb5 ?_
    refine wp_exit ?_
    refine then_x ?_
    refine then_x ?_
    refine blk_hit ?_
    refine then_n ?_
    refine wp_seq ?_
    refine c_reg ?_
    refine q_seg (S := (fun x_ => St w x_ (Res.row (Value.slice (some ⟨blk2, 0, none⟩) n n) 49 1 n ((flat false zs) ++ rest) :: ((zs.map (It.row .u8 5)) ++ [])))) [(2, Value.slice (some ⟨blk2, 0, none⟩) n n), (24, Value.slice (some ⟨blk2, 0, none⟩) n n)] [.no, .no] True (by kernel_rfl) trivial hS3 ?_
    refine l_nil rfl ?_
    refine then_n ?_
    refine wp_ret ?_
    have hkn2 : k = n := by omega
    have hrl := hS3.row_len (List.mem_of_getElem? (i := 0) rfl)
    rw [List.length_append, flat_length, hzl, hkn2] at hrl
    have hr0 : rest = [] := List.eq_nil_of_length_eq_zero (by simp only [csz] at hrl; omega)
    rw [hkn2] at hzk
    exact c_end (S := (fun x_ => St w x_ (Res.row (Value.slice (some ⟨blk2, 0, none⟩) n n) 49 1 n ((flat false zs) ++ rest) :: ((zs.map (It.row .u8 5)) ++ [])))) (rs := [.tmp 2]) rfl [] (v := Value.slice (some ⟨blk2, 0, none⟩) n n) (C := True) (by kernel_rfl) trivial hS3 ((hS3.eqv (by rw [hr0, List.append_nil (flat false zs)])).rt ⟨_, _, zs, rfl, rfl, by rw [con_all hzk hln (Nat.le_refl _)]⟩)
theorem l15Bodies_s_c (A : Option Addr) (n c : Nat) (L : List (Int × List Int)) (w : World) (hs : wt L ≤ 1099511627776) (hr : RdL .u8 false w w.heap.size A n L) : Calls Try.prog 96 #[.slice A n c] w (Ret w (fun v new => ∃ (A0_ : Option Addr) (c0_ : Nat) (y0_ : List It), v = Value.slice A0_ n c0_ ∧ new = Res.row (Value.slice A0_ n c0_) 49 1 n (flat false y0_) :: ((y0_.map (It.row .u8 5)) ++ []) ∧ y0_.map (con false) = L)) := by
  obtain ⟨hok, ys, hr, rfl⟩ := hr
  have hwl := wt_len (ys.map (con false))
  have hln := hr.len
  rw [List.length_map] at hwl
  refine calls_FA Try.func96 rfl (n := 24) rfl (l := [(0, Value.slice A n c)]) rfl (by simp) (fun g => ?_)
  have hS := St.init w
  refine wp_seq ?_
  refine c_reg ?_
  refine q_seg (S := (fun x_ => St w x_ [])) [(2, Value.slice none 0 0)] [.no] True (by kernel_rfl) trivial hS ?_
  refine l_nil rfl ?_
  refine then_n ?_
  refine wp_seq ?_
  refine c_reg ?_
  refine l_op rfl rfl (fun K hK => op_buildSlice (d := some 5) rfl rfl (e := 49) (by kernel_rfl) 1 (by kernel_rfl) (by decide) (by decide) [] (by kernel_rfl) rfl hS (fun blk2 w1 hS1 => hK _ _ ?_))
  clear hK K
  refine q_seg (S := (fun x_ => St w x_ [Res.row (Value.slice (some ⟨blk2, 0, none⟩) 0 0) 49 1 0 ([])])) [(3, Value.slice (some ⟨blk2, 0, none⟩) 0 0)] [.no] True (by kernel_rfl) trivial hS1 ?_
  refine l_nil rfl ?_
  refine then_n ?_
  refine wp_seq ?_
  refine wp_seq ?_
  refine c_reg ?_
  refine q_seg (S := (fun x_ => St w x_ [Res.row (Value.slice (some ⟨blk2, 0, none⟩) 0 0) 49 1 0 ([])])) [(4, Value.int .i64 0)] [.no] True (by kernel_rfl) trivial hS1 ?_
  refine l_nil rfl ?_
  refine then_n ?_
  refine wp_block ?_
  refine c_loop (X := Nat × Option Addr × Nat × List It) (fun (x_ : Nat × Option Addr × Nat × List It) => match x_ with | (k, A2, c2, zs) => [(0, Value.slice A n c), (3, Value.slice A2 k c2), (4, Value.int .i64 ((k : Nat) : Int))]) (fun (x_ : Nat × Option Addr × Nat × List It) (wr : World) => match x_ with | (k, A2, c2, zs) => (k ≤ n) ∧ (zs.map (con false) = (ys.take k).map (con false)) ∧ St w wr (Res.row (Value.slice A2 k c2) 49 1 k (flat false zs) :: ((zs.map (It.row .u8 5)) ++ []))) (fun (x_ : Nat × Option Addr × Nat × List It) => match x_ with | (k, A2, c2, zs) => n - k) ((0, (some ⟨blk2, 0, none⟩), 0, [])) ?_ ?_ ?_
  · exact (agree_cons (by kernel_rfl) (agree_cons (by kernel_rfl) (agree_cons (by kernel_rfl) agree_nil)))
  · exact ⟨Nat.zero_le _, rfl, hS1⟩
  rintro ⟨k, A2, c2, zs⟩ g4 w3 ⟨hkn, hzk, hS3⟩
  have hzl := con_lenk hzk hln hkn
  refine wp_seq ?_
  refine wp_seq ?_
  refine c_reg ?_
  refine q_seg (S := (fun x_ => St w x_ (Res.row (Value.slice A2 k c2) 49 1 k (flat false zs) :: ((zs.map (It.row .u8 5)) ++ [])))) [(9, Value.bool (decide (((k : Nat) : Int) < ((n : Nat) : Int)))), (8, Value.int .i64 ((n : Nat) : Int)), (7, Value.slice A n c), (6, Value.int .i64 ((k : Nat) : Int))] [.no, .no, .no, .no] True (by kernel_rfl) trivial hS3 ?_
  refine l_nil rfl ?_
  refine then_n ?_
  rcases Bool.eq_false_or_eq_true (decide (((k : Nat) : Int) < ((n : Nat) : Int))) with hb5 | hb5
  · skip
    have hb5p := of_decide_eq_true hb5
    obtain ⟨b, off, rfl, hbB, hcl⟩ := hr.at (k := k) (by omega)
    obtain ⟨y, hyk, hym⟩ := get_of_lt (l := ys) (k := k) (by have := hr.len; omega)
    obtain ⟨hy1, hy2, hy3⟩ := hr.el y hym
    obtain ⟨hyi, hyz⟩ := hok _ (List.mem_map_of_mem (f := (con false)) hym)
    have hyl : y.zs.length + 1 ≤ wt (ys.map (con false)) := wt_mem (List.mem_map_of_mem (f := (con false)) hym)
    refine c_true (b := (decide (((k : Nat) : Int) < ((n : Nat) : Int)))) (by kernel_rfl) hb5 ?_
    refine wp_skip ?_
    refine then_n ?_
    refine wp_seq ?_
    refine wp_block ?_
    refine c_reg ?_
    refine q_seg (S := (fun x_ => St w x_ (Res.row (Value.slice A2 k c2) 49 1 k (flat false zs) :: ((zs.map (It.row .u8 5)) ++ [])))) [(12, Value.slice A2 k c2)] [.no] True (by kernel_rfl) trivial hS3 ?_
    refine l_op rfl rfl (fun K hK => op_buildSlice (d := some 13) rfl rfl (e := 5) (by kernel_rfl) 1 (by kernel_rfl) (by decide) (by decide) [] (by kernel_rfl) rfl hS3 (fun blk7 w6 hS6 => hK _ _ ?_))
    clear hK K
    refine q_seg (S := (fun x_ => St w x_ (Res.row (Value.slice (some ⟨blk7, 0, none⟩) 0 0) 5 1 0 ([]) :: Res.row (Value.slice A2 k c2) 49 1 k (flat false zs) :: ((zs.map (It.row .u8 5)) ++ [])))) [(18, Value.slice y.A y.zs.length y.c), (17, Value.pointer (some ⟨b, off + Int.toNat ((k : Nat) : Int) * 1 + 0, none⟩)), (16, Value.pointer (some ⟨b, off + Int.toNat ((k : Nat) : Int) * 1, none⟩)), (15, Value.int .i64 ((k : Nat) : Int)), (14, Value.slice (some ⟨b, off, none⟩) n c)] [.no, .no, .no, .no, .v (Value.slice y.A y.zs.length y.c)] (((0 : Int) ≤ ((k : Nat) : Int)) ∧ (((k : Nat) : Int) < ((n : Nat) : Int)) ∧ (LoadsAt Try.prog (fun x_ => St w x_ (Res.row (Value.slice (some ⟨blk7, 0, none⟩) 0 0) 5 1 0 ([]) :: Res.row (Value.slice A2 k c2) 49 1 k (flat false zs) :: ((zs.map (It.row .u8 5)) ++ []))) 26 ⟨b, off + Int.toNat ((k : Nat) : Int) * 1 + 0, none⟩ (Value.slice y.A y.zs.length y.c))) (by kernel_rfl) ⟨(by omega), (by omega), (ld_low (flat_cell (p := false) (r := 0) hcl hyk rfl) (by kernel_rfl))⟩ hS6 ?_
    refine l_op rfl rfl (fun K hK => op_append_nil (d := some 19) rfl rfl elByte hS6 (i := 0) rfl rfl rfl (news := (y.zs.map (Value.int .u8))) (hS6.rdlow hy1).m1 (ints_one _ _) (by omega) (by omega) (fun v9 w8 hS8 => hK _ _ ?_))
    clear hK K
    obtain ⟨hlv9, Av9, cv9, hvv9, hnv9, hmv9⟩ := hS8.row_slice (List.mem_of_getElem? (i := 0) rfl)
    subst hvv9
    refine q_seg (S := (fun x_ => St w x_ (Res.row (Value.slice Av9 y.zs.length cv9) 5 1 y.zs.length (y.zs.map (Value.int .u8)) :: Res.row (Value.slice A2 k c2) 49 1 k (flat false zs) :: ((zs.map (It.row .u8 5)) ++ [])))) [(20, Value.agg #[Value.slice Av9 y.zs.length cv9])] [.no] True (by kernel_rfl) trivial hS8 ?_
    refine l_op rfl rfl (fun K hK => op_buildSlice (d := some 21) rfl rfl (e := 49) (by kernel_rfl) 1 (by kernel_rfl) (by decide) (by decide) [Value.slice Av9 y.zs.length cv9] (by kernel_rfl) rfl hS8 (fun blk11 w10 hS10 => hK _ _ ?_))
    clear hK K
    refine l_op rfl rfl (fun K hK => op_append (d := some 22) rfl rfl el_49 hS10 (i := 2) rfl rfl rfl (news := [Value.slice Av9 y.zs.length cv9]) (hS10.rd (List.mem_of_getElem? (i := 0) rfl)) (all_one (by rfl)) (by omega) (by omega) (fun v13 w12 hS12 => hK _ _ ?_))
    clear hK K
    obtain ⟨hlv13, Av13, cv13, hvv13, hnv13, hmv13⟩ := hS12.row_slice (List.mem_of_getElem? (i := 2) rfl)
    subst hvv13
    refine q_seg (S := (fun x_ => St w x_ (Res.row (Value.slice (some ⟨blk11, 0, none⟩) 1 1) 49 1 1 ([Value.slice Av9 y.zs.length cv9]) :: Res.row (Value.slice Av9 y.zs.length cv9) 5 1 y.zs.length (y.zs.map (Value.int .u8)) :: Res.row (Value.slice Av13 (k + 1) cv13) 49 1 (k + 1) ((flat false zs) ++ [Value.slice Av9 y.zs.length cv9]) :: ((zs.map (It.row .u8 5)) ++ [])))) [(3, Value.slice Av13 (k + 1) cv13)] [.no] True (by kernel_rfl) trivial hS12 ?_
    refine l_nil rfl ?_
    refine blk_n ?_
    refine then_n ?_
    refine c_reg ?_
    refine q_seg (S := (fun x_ => St w x_ (Res.row (Value.slice (some ⟨blk11, 0, none⟩) 1 1) 49 1 1 ([Value.slice Av9 y.zs.length cv9]) :: Res.row (Value.slice Av9 y.zs.length cv9) 5 1 y.zs.length (y.zs.map (Value.int .u8)) :: Res.row (Value.slice Av13 (k + 1) cv13) 49 1 (k + 1) ((flat false zs) ++ [Value.slice Av9 y.zs.length cv9]) :: ((zs.map (It.row .u8 5)) ++ [])))) [(4, Value.int .i64 (((k : Nat) : Int) + (1 : Int))), (11, Value.int .i64 (((k : Nat) : Int) + (1 : Int))), (10, Value.int .i64 ((k : Nat) : Int))] [.no, .no, .no] ((InK .i64 (((k : Nat) : Int) + (1 : Int)))) (by kernel_rfl) (in64 (by omega) (by omega)) hS12 ?_
    refine l_nil rfl ?_
    refine then_n ?_
    have hSe := (hS12.sub (List.Sublist.cons _ (List.Sublist.cons_cons _ (List.Sublist.cons_cons _ (List.Sublist.append (List.Sublist.refl _) List.Sublist.slnil)))))
    refine round_end ((k + 1, Av13, cv13, zs ++ [(It.mk 0 Av9 cv9 y.zs)])) ?_ ?_ ?_
    · exact (agree_cons (by kernel_rfl) (agree_cons (by kernel_rfl) (agree_cons (by kernel_rfl) agree_nil)))
    · exact ⟨(by omega), (con_take hzk hyk rfl), (St.pickI (κ := .u8) (tb := 5) [Res.row (Value.slice Av13 (k + 1) cv13) 49 1 (k + 1) (flat false (zs ++ [(It.mk 0 Av9 cv9 y.zs)]))] [] zs (It.mk 0 Av9 cv9 y.zs) (hSe.eqv (by rw [flat_snoc]; rfl)))⟩
    · exact (by first | omega | (dsimp only; omega))
  · skip
    have hb5p := of_decide_eq_false hb5
    refine c_false (b := (decide (((k : Nat) : Int) < ((n : Nat) : Int)))) (by kernel_rfl) hb5 ?_
    refine wp_exit ?_
    refine then_x ?_
    refine then_x ?_
    refine blk_hit ?_
    refine then_n ?_
    refine wp_seq ?_
    refine c_reg ?_
    refine q_seg (S := (fun x_ => St w x_ (Res.row (Value.slice A2 k c2) 49 1 k (flat false zs) :: ((zs.map (It.row .u8 5)) ++ [])))) [(2, Value.slice A2 k c2), (23, Value.slice A2 k c2)] [.no, .no] True (by kernel_rfl) trivial hS3 ?_
    refine l_nil rfl ?_
    refine then_n ?_
    refine wp_ret ?_
    have hkn2 : k = n := by omega
    subst hkn2
    exact c_end (S := (fun x_ => St w x_ (Res.row (Value.slice A2 k c2) 49 1 k (flat false zs) :: ((zs.map (It.row .u8 5)) ++ [])))) (rs := [.tmp 2]) rfl [] (v := Value.slice A2 k c2) (C := True) (by kernel_rfl) trivial hS3 (hS3.rt ⟨_, _, zs, rfl, rfl, by rw [con_all hzk hln (Nat.le_refl _)]⟩)
theorem IsPrefixOf_i_c (A B : Option Addr) (n c m d : Nat) (L M : List (Int × List Int)) (w : World) (hs : wt L ≤ 1099511627776) (hs2 : wt M ≤ 1099511627776) (hr : RdL .u8 false w w.heap.size A n L) (hr2 : RdL .u8 false w w.heap.size B m M) : Calls Try.prog 102 #[.slice A n c, .slice B m d] w (RetV w (.bool (pre L M))) := by
  obtain ⟨hok, ys, hr, rfl⟩ := hr
  have hwl := wt_len (ys.map (con false))
  have hln := hr.len
  rw [List.length_map] at hwl
  obtain ⟨hok2, zs, hr2, rfl⟩ := hr2
  have hwl2 := wt_len (zs.map (con false))
  have hln2 := hr2.len
  rw [List.length_map] at hwl2
  refine calls_FA Try.func102 rfl (n := 29) rfl (l := [(0, Value.slice A n c), (1, Value.slice B m d)]) rfl (by simp) (fun g => ?_)
  have hS := St.init w
  refine wp_seq ?_
  refine c_reg ?_
  refine q_seg (S := (fun x_ => St w x_ [])) [(4, Value.bool false)] [.no] True (by kernel_rfl) trivial hS ?_
  refine l_nil rfl ?_
  refine then_n ?_
  refine wp_seq ?_
  refine wp_seq ?_
  refine c_reg ?_
  refine q_seg (S := (fun x_ => St w x_ [])) [(10, Value.bool (decide (((m : Nat) : Int) < ((n : Nat) : Int)))), (9, Value.int .i64 ((m : Nat) : Int)), (8, Value.slice B m d), (7, Value.int .i64 ((n : Nat) : Int)), (6, Value.slice A n c)] [.no, .no, .no, .no, .no] True (by kernel_rfl) trivial hS ?_
  refine l_nil rfl ?_
  refine then_n ?_
  rcases Bool.eq_false_or_eq_true (decide (((m : Nat) : Int) < ((n : Nat) : Int))) with hb1 | hb1
  · skip
    have hb1p := of_decide_eq_true hb1
    refine c_true (b := (decide (((m : Nat) : Int) < ((n : Nat) : Int)))) (by kernel_rfl) hb1 ?_
    refine wp_seq ?_
    refine c_reg ?_
    refine q_seg (S := (fun x_ => St w x_ [])) [(4, Value.bool false)] [.no] True (by kernel_rfl) trivial hS ?_
    refine l_nil rfl ?_
    refine then_n ?_
    refine wp_ret ?_
    refine then_r ?_
    exact c_end (S := (fun x_ => St w x_ [])) (rs := [.tmp 4]) rfl [] (v := Value.bool false) (C := True) (by kernel_rfl) trivial hS ((hS.rv (congrArg Value.bool (pre_long (by rw [List.length_map, List.length_map]; omega)).symm)))
  · skip
    have hb1p := of_decide_eq_false hb1
    refine c_false (b := (decide (((m : Nat) : Int) < ((n : Nat) : Int)))) (by kernel_rfl) hb1 ?_
    refine wp_skip ?_
    refine then_n ?_
    refine wp_seq ?_
    refine wp_seq ?_
    refine c_reg ?_
    refine q_seg (S := (fun x_ => St w x_ [])) [(13, Value.int .i64 0), (12, Value.int .i64 ((n : Nat) : Int)), (11, Value.slice A n c)] [.no, .no, .no] True (by kernel_rfl) trivial hS ?_
    refine l_nil rfl ?_
    refine then_n ?_
    refine wp_block ?_
    refine c_loop (X := Nat) (fun (k : Nat) => [(0, Value.slice A n c), (1, Value.slice B m d), (12, Value.int .i64 ((n : Nat) : Int)), (13, Value.int .i64 ((k : Nat) : Int))]) (fun (k : Nat) (wr : World) => (k ≤ n) ∧ ((ys.map (con false)).take k = (zs.map (con false)).take k) ∧ St w wr []) (fun (k : Nat) => n - k) 0 ?_ ?_ ?_
    · exact (agree_cons (by kernel_rfl) (agree_cons (by kernel_rfl) (agree_cons (by kernel_rfl) (agree_cons (by kernel_rfl) agree_nil))))
    · exact ⟨Nat.zero_le _, rfl, hS⟩
    rintro k g3 w2 ⟨hkn, htk, hS2⟩
    refine wp_seq ?_
    refine c_reg ?_
    refine q_seg (S := (fun x_ => St w x_ [])) [(14, Value.bool (decide (((k : Nat) : Int) < ((n : Nat) : Int))))] [.no] True (by kernel_rfl) trivial hS2 ?_
    refine l_nil rfl ?_
    refine then_n ?_
    refine wp_seq ?_
    rcases Bool.eq_false_or_eq_true (decide (((k : Nat) : Int) < ((n : Nat) : Int))) with hb4 | hb4
    · skip
      have hb4p := of_decide_eq_true hb4
      obtain ⟨b, off, rfl, hbB, hcl⟩ := hr.at (k := k) (by omega)
      obtain ⟨y, hyk, hym⟩ := get_of_lt (l := ys) (k := k) (by have := hr.len; omega)
      obtain ⟨hy1, hy2, hy3⟩ := hr.el y hym
      obtain ⟨hyi, hyz⟩ := hok _ (List.mem_map_of_mem (f := (con false)) hym)
      have hyl : y.zs.length + 1 ≤ wt (ys.map (con false)) := wt_mem (List.mem_map_of_mem (f := (con false)) hym)
      obtain ⟨b2, off2, rfl, hbB2, hcl2⟩ := hr2.at (k := k) (by omega)
      obtain ⟨z, hzk, hzm⟩ := get_of_lt (l := zs) (k := k) (by have := hr2.len; omega)
      obtain ⟨hz1, hz2, hz3⟩ := hr2.el z hzm
      obtain ⟨hzi, hzz⟩ := hok2 _ (List.mem_map_of_mem (f := (con false)) hzm)
      have hzl : z.zs.length + 1 ≤ wt (zs.map (con false)) := wt_mem (List.mem_map_of_mem (f := (con false)) hzm)
      refine c_true (b := (decide (((k : Nat) : Int) < ((n : Nat) : Int)))) (by kernel_rfl) hb4 ?_
      refine wp_skip ?_
      refine then_n ?_
      refine wp_seq ?_
      refine wp_block ?_
      refine wp_seq ?_
      refine c_reg ?_
      refine q_seg (S := (fun x_ => St w x_ [])) [(5, Value.int .i64 ((k : Nat) : Int)), (15, Value.int .i64 ((k : Nat) : Int))] [.no, .no] True (by kernel_rfl) trivial hS2 ?_
      refine l_nil rfl ?_
      refine then_n ?_
      refine wp_seq ?_
      refine c_drawn [] (by kernel_rfl) hS2 (fun w5 hS5 => ?_)
      refine t_seg (S := (fun x_ => St w x_ [])) [(0, .no), (1, .no), (5, .no), (6, .no), (2, .no), (7, .no), (3, .no), (8, .no), (4, .v (Value.slice y.A y.zs.length y.c)), (9, .v (Value.slice z.A z.zs.length z.c))] 2 #[true, true, true, true, true, true, true, true, true, true, false, false] [(25, Value.slice z.A z.zs.length z.c), (20, Value.slice y.A y.zs.length y.c), (24, Value.pointer (some ⟨b2, off2 + Int.toNat ((k : Nat) : Int) * 1 + 0, none⟩)), (19, Value.pointer (some ⟨b, off + Int.toNat ((k : Nat) : Int) * 1 + 0, none⟩)), (23, Value.pointer (some ⟨b2, off2 + Int.toNat ((k : Nat) : Int) * 1, none⟩)), (18, Value.pointer (some ⟨b, off + Int.toNat ((k : Nat) : Int) * 1, none⟩)), (22, Value.int .i64 ((k : Nat) : Int)), (21, Value.slice (some ⟨b2, off2, none⟩) m d), (17, Value.int .i64 ((k : Nat) : Int)), (16, Value.slice (some ⟨b, off, none⟩) n c)] (((0 : Int) ≤ ((k : Nat) : Int)) ∧ (((k : Nat) : Int) < ((n : Nat) : Int)) ∧ ((0 : Int) ≤ ((k : Nat) : Int)) ∧ (((k : Nat) : Int) < ((m : Nat) : Int)) ∧ (LoadsAt Try.prog (fun x_ => St w x_ []) 26 ⟨b, off + Int.toNat ((k : Nat) : Int) * 1 + 0, none⟩ (Value.slice y.A y.zs.length y.c)) ∧ (LoadsAt Try.prog (fun x_ => St w x_ []) 26 ⟨b2, off2 + Int.toNat ((k : Nat) : Int) * 1 + 0, none⟩ (Value.slice z.A z.zs.length z.c))) (by kernel_rfl) (Qpanic.then (Qpanic.block (Qpanic.then (Qpanic.then (Qpanic.block (Qpanic.then Qpanic.bp)))))) rfl (by kernel_rfl) ⟨(by omega), (by omega), (by omega), (by omega), (ld_low (flat_cell (p := false) (r := 0) hcl hyk rfl) (by kernel_rfl)), (ld_low (flat_cell (p := false) (r := 0) hcl2 hzk rfl) (by kernel_rfl))⟩ hS5 ?_
      refine a_op (i := 10) (fuel := 1) (listed' := #[true, true, true, true, true, true, true, true, true, true, true, false]) rfl rfl (by kernel_rfl) (by kernel_rfl) rfl (fun K hK => op_callv (d := some 26) rfl rfl ⟨_, Try.func101, by kernel_rfl, by kernel_rfl⟩ (vs := [Value.slice y.A y.zs.length y.c, Value.slice z.A z.zs.length z.c]) (by kernel_rfl) (v := Value.bool (decide (y.zs = z.zs))) (EqualBytes_i_c y.A z.A y.zs.length y.c z.zs.length z.c y.zs z.zs w5 hyz hzz (hS5.rdlow hy1) (hS5.rdlow hz1)) hS5 (fun w6 hS6 => hK _ _ (fun _ => hS6) ?_))
      clear hK K
      refine t_seg (S := (fun x_ => St w x_ [])) [(11, .no)] 0 #[true, true, true, true, true, true, true, true, true, true, true, true] [(27, Value.bool (!(decide (y.zs = z.zs))))] True (by kernel_rfl) (Qpanic.then (Qpanic.block (Qpanic.then (Qpanic.then (Qpanic.block (Qpanic.then Qpanic.bp)))))) rfl (by kernel_rfl) trivial hS6 ?_
      refine a_done (by kernel_rfl) ?_
      refine then_n ?_
      rcases Bool.eq_false_or_eq_true (decide (y.zs = z.zs)) with hb7 | hb7
      · skip
        have hb7p := of_decide_eq_true hb7
        refine c_false (b := (!(decide (y.zs = z.zs)))) (by kernel_rfl) (nb (v := true) hb7) ?_
        refine wp_skip ?_
        refine blk_n ?_
        refine then_n ?_
        refine c_reg ?_
        refine q_seg (S := (fun x_ => St w x_ [])) [(13, Value.int .i64 (((k : Nat) : Int) + (1 : Int))), (28, Value.int .i64 (((k : Nat) : Int) + (1 : Int)))] [.no, .no] ((InK .i64 (((k : Nat) : Int) + (1 : Int)))) (by kernel_rfl) (in64 (by omega) (by omega)) hS6 ?_
        refine l_nil rfl ?_
        refine then_n ?_
        refine round_end (k + 1) ?_ ?_ ?_
        · exact (agree_cons (by kernel_rfl) (agree_cons (by kernel_rfl) (agree_cons (by kernel_rfl) (agree_cons (by kernel_rfl) agree_nil))))
        · exact ⟨(by omega), (tk_step htk (con_get hyk) (con_get hzk) (con_ff hb7p)), hS6⟩
        · exact (by first | omega | (dsimp only; omega))
      · skip
        have hb7p := of_decide_eq_false hb7
        refine c_true (b := (!(decide (y.zs = z.zs)))) (by kernel_rfl) (nb (v := false) hb7) ?_
        refine wp_seq ?_
        refine c_reg ?_
        refine q_seg (S := (fun x_ => St w x_ [])) [(4, Value.bool false)] [.no] True (by kernel_rfl) trivial hS6 ?_
        refine l_nil rfl ?_
        refine then_n ?_
        refine wp_ret ?_
        refine blk_r ?_
        refine then_r ?_
        refine then_r ?_
        refine blk_r ?_
        refine then_r ?_
        exact c_end (S := (fun x_ => St w x_ [])) (rs := [.tmp 4]) rfl [] (v := Value.bool false) (C := True) (by kernel_rfl) trivial hS6 ((hS6.rv (congrArg Value.bool (pre_false (con_get hyk) (con_get hzk) (con_ne hb7p)).symm)))
    · skip
      have hb4p := of_decide_eq_false hb4
      refine c_false (b := (decide (((k : Nat) : Int) < ((n : Nat) : Int)))) (by kernel_rfl) hb4 ?_
      refine wp_exit ?_
      refine then_x ?_
      refine then_x ?_
      refine blk_hit ?_
      refine then_n ?_
      refine wp_seq ?_
      refine c_reg ?_
      refine q_seg (S := (fun x_ => St w x_ [])) [(4, Value.bool true)] [.no] True (by kernel_rfl) trivial hS2 ?_
      refine l_nil rfl ?_
      refine then_n ?_
      refine wp_ret ?_
      exact c_end (S := (fun x_ => St w x_ [])) (rs := [.tmp 4]) rfl [] (v := Value.bool true) (C := True) (by kernel_rfl) trivial hS2 ((hS2.rv (congrArg Value.bool (pre_true htk (by rw [List.length_map]; omega)).symm)))
theorem equalPayloads_i_c (A B : Option Addr) (n c m d : Nat) (L M : List (Int × List Int)) (w : World) (hs : wt L ≤ 1099511627776) (hs2 : wt M ≤ 1099511627776) (hr : RdL .u8 false w w.heap.size A n L) (hr2 : RdL .u8 false w w.heap.size B m M) : Calls Try.prog 82 #[.slice A n c, .slice B m d] w (RetV w (.bool (decide (L = M)))) := by
  have hLl := hr.len
  have hMl := hr2.len
  have hLw := wt_len L
  have hMw := wt_len M
  refine calls_FA Try.func82 rfl (n := 15) rfl (l := [(0, Value.slice A n c), (1, Value.slice B m d)]) rfl (by simp) (fun g => ?_)
  have hS := St.init w
  refine wp_seq ?_
  refine c_reg ?_
  refine q_seg (S := (fun x_ => St w x_ [])) [(4, Value.bool false)] [.no] True (by kernel_rfl) trivial hS ?_
  refine l_nil rfl ?_
  refine then_n ?_
  refine wp_seq ?_
  refine c_reg ?_
  refine q_seg (S := (fun x_ => St w x_ [])) [(10, Value.bool (decide (((n : Nat) : Int) = ((m : Nat) : Int)))), (9, Value.bool (decide (((n : Nat) : Int) = ((m : Nat) : Int)))), (8, Value.int .i64 ((m : Nat) : Int)), (7, Value.slice B m d), (6, Value.int .i64 ((n : Nat) : Int)), (5, Value.slice A n c)] [.no, .no, .no, .no, .no, .no] True (by kernel_rfl) trivial hS ?_
  rcases Bool.eq_false_or_eq_true (decide (((n : Nat) : Int) = ((m : Nat) : Int))) with hb1 | hb1
  · skip
    have hb1p := of_decide_eq_true hb1
    refine q_seg (S := (fun x_ => St w x_ [])) [(12, Value.slice B m d), (11, Value.slice A n c)] [.no, .no] (((decide (((n : Nat) : Int) = ((m : Nat) : Int))) = true) ∧ ((decide (((n : Nat) : Int) = ((m : Nat) : Int))) = true)) (by kernel_rfl) ⟨hb1, hb1⟩ hS ?_
    refine l_opg rfl (b := (decide (((n : Nat) : Int) = ((m : Nat) : Int)))) (want := true) (by kernel_rfl) hb1 (fun K hK => op_callv (d := some 13) rfl rfl ⟨_, Try.func102, by kernel_rfl, by kernel_rfl⟩ (vs := [Value.slice A n c, Value.slice B m d]) (by kernel_rfl) (v := Value.bool (pre L M)) (IsPrefixOf_i_c A B n c m d L M w hs hs2 (hS.rdllow hr) (hS.rdllow hr2)) hS (fun w2 hS2 => hK _ _ ?_))
    clear hK K
    refine q_seg (S := (fun x_ => St w x_ [])) [(4, Value.bool (pre L M)), (14, Value.bool (pre L M))] [.v (.bool true), .no] (((decide (((n : Nat) : Int) = ((m : Nat) : Int))) = true)) (by kernel_rfl) hb1 hS2 ?_
    refine l_nil rfl ?_
    refine then_n ?_
    refine wp_ret ?_
    exact c_end (S := (fun x_ => St w x_ [])) (rs := [.tmp 4]) rfl [] (v := Value.bool (pre L M)) (C := True) (by kernel_rfl) trivial hS2 ((hS2.rv (congrArg Value.bool (by first | exact pre_same (by omega) | exact (same_len (by omega)).symm))))
  · skip
    have hb1p := of_decide_eq_false hb1
    refine q_seg (S := (fun x_ => St w x_ [])) [(4, Value.bool false), (14, Value.bool false), (13, undef), (12, undef), (11, undef)] [.skip, .skip, .skip, .v (.bool false), .no] (((decide (((n : Nat) : Int) = ((m : Nat) : Int))) = !true) ∧ ((decide (((n : Nat) : Int) = ((m : Nat) : Int))) = !true) ∧ ((decide (((n : Nat) : Int) = ((m : Nat) : Int))) = !true) ∧ ((decide (((n : Nat) : Int) = ((m : Nat) : Int))) = false)) (by kernel_rfl) ⟨hb1, hb1, hb1, hb1⟩ hS ?_
    refine l_nil rfl ?_
    refine then_n ?_
    refine wp_ret ?_
    exact c_end (S := (fun x_ => St w x_ [])) (rs := [.tmp 4]) rfl [] (v := Value.bool false) (C := True) (by kernel_rfl) trivial hS ((hS.rv (congrArg Value.bool (by first | exact pre_same (by omega) | exact (same_len (by omega)).symm))))
theorem el_37 : El Try.prog 31 37 (Value.agg #[Value.int .i64 0, Value.slice none 0 0]) 2 32 := ⟨Try.underlying31, info_parts (by kernel_rfl), rfl, by decide⟩
theorem copyNumbered_i_c (A : Option Addr) (n c : Nat) (L : List (Int × List Int)) (w : World) (hs : wt L ≤ 1099511627776) (hr : RdL .u8 true w w.heap.size A n L) : Calls Try.prog 89 #[.slice A n c] w (Ret w (fun v new => ∃ (A0_ : Option Addr) (c0_ : Nat) (y0_ : List It), v = Value.slice A0_ n c0_ ∧ new = Res.row (Value.slice A0_ n c0_) 37 2 n (flat true y0_) :: ((y0_.map (It.row .u8 5)) ++ []) ∧ y0_.map (con true) = L)) := by
  obtain ⟨hok, ys, hr, rfl⟩ := hr
  have hwl := wt_len (ys.map (con true))
  have hln := hr.len
  rw [List.length_map] at hwl
  refine calls_FA Try.func89 rfl (n := 27) rfl (l := [(0, Value.slice A n c)]) rfl (by simp) (fun g => ?_)
  have hS := St.init w
  refine wp_seq ?_
  refine c_reg ?_
  refine q_seg (S := (fun x_ => St w x_ [])) [(2, Value.slice none 0 0)] [.no] True (by kernel_rfl) trivial hS ?_
  refine l_nil rfl ?_
  refine then_n ?_
  refine wp_seq ?_
  refine c_reg ?_
  refine q_seg (S := (fun x_ => St w x_ [])) [(7, Value.int .i64 ((n : Nat) : Int)), (6, Value.slice A n c)] [.no, .no] True (by kernel_rfl) trivial hS ?_
  refine l_op rfl rfl (fun K hK => op_make (d := some 8) rfl rfl (e := 37) (by kernel_rfl) [Value.int .i64 0, Value.slice none 0 0] (by kernel_rfl) 2 (by kernel_rfl) 32 (by kernel_rfl) n n (kl := .i64) (kc := .i64) (by kernel_rfl) (by kernel_rfl) (by omega) (by omega) (by unfold maxLen; omega) hS (fun blk2 w1 hS1 => hK _ _ ?_))
  clear hK K
  refine q_seg (S := (fun x_ => St w x_ [Res.row (Value.slice (some ⟨blk2, 0, none⟩) n n) 37 2 n (zrow [Value.int .i64 0, Value.slice none 0 0] (n * 2))])) [(3, Value.slice (some ⟨blk2, 0, none⟩) n n)] [.no] True (by kernel_rfl) trivial hS1 ?_
  refine l_nil rfl ?_
  refine then_n ?_
  refine wp_seq ?_
  refine wp_seq ?_
  refine c_reg ?_
  refine q_seg (S := (fun x_ => St w x_ [Res.row (Value.slice (some ⟨blk2, 0, none⟩) n n) 37 2 n (zrow [Value.int .i64 0, Value.slice none 0 0] (n * 2))])) [(11, Value.int .i64 0), (10, Value.int .i64 ((n : Nat) : Int)), (9, Value.slice A n c)] [.no, .no, .no] True (by kernel_rfl) trivial hS1 ?_
  refine l_nil rfl ?_
  refine then_n ?_
  refine wp_block ?_
  refine c_loop (X := Nat × List It × List Value) (fun (x_ : Nat × List It × List Value) => match x_ with | (k, zs, rest) => [(3, Value.slice (some ⟨blk2, 0, none⟩) n n), (9, Value.slice A n c), (10, Value.int .i64 ((n : Nat) : Int)), (11, Value.int .i64 ((k : Nat) : Int))]) (fun (x_ : Nat × List It × List Value) (wr : World) => match x_ with | (k, zs, rest) => (k ≤ n) ∧ (zs.map (con true) = (ys.take k).map (con true)) ∧ St w wr (Res.row (Value.slice (some ⟨blk2, 0, none⟩) n n) 37 2 n ((flat true zs) ++ rest) :: ((zs.map (It.row .u8 5)) ++ []))) (fun (x_ : Nat × List It × List Value) => match x_ with | (k, zs, rest) => n - k) ((0, [], (zrow [Value.int .i64 0, Value.slice none 0 0] (n * 2)))) ?_ ?_ ?_
  · exact (agree_cons (by kernel_rfl) (agree_cons (by kernel_rfl) (agree_cons (by kernel_rfl) (agree_cons (by kernel_rfl) agree_nil))))
  · exact ⟨Nat.zero_le _, rfl, hS1⟩
  rintro ⟨k, zs, rest⟩ g4 w3 ⟨hkn, hzk, hS3⟩
  have hzl := con_lenk hzk hln hkn
  refine wp_seq ?_
  refine c_reg ?_
  refine q_seg (S := (fun x_ => St w x_ (Res.row (Value.slice (some ⟨blk2, 0, none⟩) n n) 37 2 n ((flat true zs) ++ rest) :: ((zs.map (It.row .u8 5)) ++ [])))) [(12, Value.bool (decide (((k : Nat) : Int) < ((n : Nat) : Int))))] [.no] True (by kernel_rfl) trivial hS3 ?_
  refine l_nil rfl ?_
  refine then_n ?_
  refine wp_seq ?_
  rcases Bool.eq_false_or_eq_true (decide (((k : Nat) : Int) < ((n : Nat) : Int))) with hb5 | hb5
  · skip
    have hb5p := of_decide_eq_true hb5
    obtain ⟨b, off, rfl, hbB, hcl⟩ := hr.at (k := k) (by omega)
    obtain ⟨y, hyk, hym⟩ := get_of_lt (l := ys) (k := k) (by have := hr.len; omega)
    obtain ⟨hy1, hy2, hy3⟩ := hr.el y hym
    obtain ⟨hyi, hyz⟩ := hok _ (List.mem_map_of_mem (f := (con true)) hym)
    have hyl : y.zs.length + 1 ≤ wt (ys.map (con true)) := wt_mem (List.mem_map_of_mem (f := (con true)) hym)
    refine c_true (b := (decide (((k : Nat) : Int) < ((n : Nat) : Int)))) (by kernel_rfl) hb5 ?_
    refine wp_skip ?_
    refine then_n ?_
    refine wp_seq ?_
    refine wp_block ?_
    refine wp_seq ?_
    refine c_reg ?_
    refine q_seg (S := (fun x_ => St w x_ (Res.row (Value.slice (some ⟨blk2, 0, none⟩) n n) 37 2 n ((flat true zs) ++ rest) :: ((zs.map (It.row .u8 5)) ++ [])))) [(15, Value.agg #[Value.int .i64 y.s, Value.slice y.A y.zs.length y.c]), (14, Value.pointer (some ⟨b, off + Int.toNat ((k : Nat) : Int) * 2, none⟩)), (13, Value.int .i64 ((k : Nat) : Int))] [.no, .no, .v (Value.agg #[Value.int .i64 y.s, Value.slice y.A y.zs.length y.c])] (((0 : Int) ≤ ((k : Nat) : Int)) ∧ (((k : Nat) : Int) < ((n : Nat) : Int)) ∧ (LoadsAt Try.prog (fun x_ => St w x_ (Res.row (Value.slice (some ⟨blk2, 0, none⟩) n n) 37 2 n ((flat true zs) ++ rest) :: ((zs.map (It.row .u8 5)) ++ []))) 37 ⟨b, off + Int.toNat ((k : Nat) : Int) * 2, none⟩ (Value.agg #[Value.int .i64 y.s, Value.slice y.A y.zs.length y.c]))) (by kernel_rfl) ⟨(by omega), (by omega), (ld_lowN (k := 2) (vs := [Value.int .i64 y.s, Value.slice y.A y.zs.length y.c]) (by kernel_rfl) rfl (flat_cells (p := true) hcl hyk))⟩ hS3 ?_
    refine l_op rfl rfl (fun K hK => op_alloc (d := some 5) rfl rfl [Value.int .i64 0, Value.slice none 0 0] (by kernel_rfl) hS3 (fun blk7 w6 hS6 => hK _ _ ?_))
    clear hK K
    refine q_seg (S := (fun x_ => St w x_ (Res.box blk7 [Value.int .i64 0, Value.slice none 0 0] 37 :: Res.row (Value.slice (some ⟨blk2, 0, none⟩) n n) 37 2 n ((flat true zs) ++ rest) :: ((zs.map (It.row .u8 5)) ++ [])))) [(4, Value.int .i64 ((k : Nat) : Int))] [.no] True (by kernel_rfl) trivial hS6 ?_
    refine l_op rfl rfl (fun K hK => op_store (d := none) rfl rfl (i := 0) (b := blk7) (off := 0) (cs := [Value.int .i64 0, Value.slice none 0 0]) (bt := 37) (by kernel_rfl) (by kernel_rfl) [Value.int .i64 y.s, Value.slice y.A y.zs.length y.c] (by kernel_rfl) (by kernel_rfl) (Nat.le_of_ble_eq_true (by kernel_rfl)) (by kernel_rfl) (Res.box blk7 [Value.int .i64 y.s, Value.slice y.A y.zs.length y.c] 37 :: Res.row (Value.slice (some ⟨blk2, 0, none⟩) n n) 37 2 n ((flat true zs) ++ rest) :: ((zs.map (It.row .u8 5)) ++ [])) (by kernel_rfl) hS6 (fun w8 hS8 => hK _ _ ?_))
    clear hK K
    refine l_nil rfl ?_
    refine then_n ?_
    refine c_drawn [9] (by kernel_rfl) hS8 (fun w9 hS9 => ?_)
    refine t_seg (S := (fun x_ => St w x_ (Res.box blk7 [Value.int .i64 y.s, Value.slice y.A y.zs.length y.c] 37 :: Res.row (Value.slice (some ⟨blk2, 0, none⟩) n n) 37 2 n ((flat true zs) ++ rest) :: ((zs.map (It.row .u8 5)) ++ [])))) [(0, .no), (1, .no), (2, .no), (4, .no), (3, .v (Value.int .i64 y.s)), (5, .v (Value.slice y.A y.zs.length y.c))] 4 #[true, true, true, true, true, true, false, false, false, false] [(21, Value.slice y.A y.zs.length y.c), (19, Value.int .i64 y.s), (20, Value.pointer (some ⟨blk7, 0 + 1, none⟩)), (18, Value.pointer (some ⟨blk7, 0 + 0, none⟩)), (17, Value.int .i64 ((k : Nat) : Int)), (16, Value.slice (some ⟨blk2, 0, none⟩) n n)] ((LoadsAt Try.prog (fun x_ => St w x_ (Res.box blk7 [Value.int .i64 y.s, Value.slice y.A y.zs.length y.c] 37 :: Res.row (Value.slice (some ⟨blk2, 0, none⟩) n n) 37 2 n ((flat true zs) ++ rest) :: ((zs.map (It.row .u8 5)) ++ []))) 3 ⟨blk7, 0 + 0, none⟩ (Value.int .i64 y.s)) ∧ (LoadsAt Try.prog (fun x_ => St w x_ (Res.box blk7 [Value.int .i64 y.s, Value.slice y.A y.zs.length y.c] 37 :: Res.row (Value.slice (some ⟨blk2, 0, none⟩) n n) 37 2 n ((flat true zs) ++ rest) :: ((zs.map (It.row .u8 5)) ++ []))) 26 ⟨blk7, 0 + 1, none⟩ (Value.slice y.A y.zs.length y.c))) (by kernel_rfl) (Qpanic.block (Qpanic.then (Qpanic.then (Qpanic.block (Qpanic.then Qpanic.bp))))) rfl (by kernel_rfl) ⟨(ld_box (i := 0) rfl rfl (by kernel_rfl)), (ld_box (i := 0) rfl rfl (by kernel_rfl))⟩ hS9 ?_
    refine a_op (i := 6) (fuel := 3) (listed' := #[true, true, true, true, true, true, true, false, false, false]) rfl rfl (by kernel_rfl) (by kernel_rfl) rfl (fun K hK => op_call (d := some 22) rfl rfl ⟨_, Try.func71, by kernel_rfl, by kernel_rfl⟩ (vs := [Value.slice y.A y.zs.length y.c]) (by kernel_rfl) (copyBytes_c y.A y.zs.length y.c y.zs w9 (by omega) (hS9.rdlow hy1)) hS9 (fun v11 new12 w10 Rw10 hS10 => hK _ _ (fun _ => hS10.after) ?_))
    clear hK K
    obtain ⟨blk13, rfl, rfl⟩ := Rw10
    refine t_seg (S := (fun x_ => St w x_ (Res.box blk7 [Value.int .i64 y.s, Value.slice y.A y.zs.length y.c] 37 :: Res.row (Value.slice (some ⟨blk2, 0, none⟩) n n) 37 2 n ((flat true zs) ++ rest) :: ((zs.map (It.row .u8 5)) ++ [])))) [(7, .no), (8, .no)] 1 #[true, true, true, true, true, true, true, true, true, false] [(24, Value.pointer (some ⟨blk2, 0 + Int.toNat ((k : Nat) : Int) * 2, none⟩)), (23, Value.agg #[Value.int .i64 y.s, Value.slice (some ⟨blk13, 0, none⟩) y.zs.length y.zs.length])] (((0 : Int) ≤ ((k : Nat) : Int)) ∧ (((k : Nat) : Int) < ((n : Nat) : Int))) (by kernel_rfl) (Qpanic.block (Qpanic.then (Qpanic.then (Qpanic.block (Qpanic.then Qpanic.bp))))) rfl (by kernel_rfl) ⟨(by omega), (by omega)⟩ (hS10.drop) ?_
    have hlnw14 := hS10.row_len (List.mem_of_getElem? (i := 2) rfl)
    refine a_op (i := 9) (fuel := 0) (listed' := #[true, true, true, true, true, true, true, true, true, true]) rfl rfl (by kernel_rfl) (by kernel_rfl) rfl (fun K hK => op_storeRow (d := none) rfl rfl (i := 2) (b := blk2) (off := 0 + Int.toNat ((k : Nat) : Int) * 2) (m := n) (cap := n) (e := 37) (sz := 2) (xs := ((flat true zs) ++ rest)) (by kernel_rfl) (by kernel_rfl) [Value.int .i64 y.s, Value.slice (some ⟨blk13, 0, none⟩) y.zs.length y.zs.length] (by kernel_rfl) (by kernel_rfl) (by rw [hlnw14]; simp only [List.length_cons, List.length_nil]; omega) (by rfl) (Res.row (Value.slice (some ⟨blk13, 0, none⟩) y.zs.length y.zs.length) 5 1 y.zs.length (y.zs.map (Value.int .u8)) :: Res.box blk7 [Value.int .i64 y.s, Value.slice y.A y.zs.length y.c] 37 :: Res.row (Value.slice (some ⟨blk2, 0, none⟩) n n) 37 2 n (List.take (0 + Int.toNat ((k : Nat) : Int) * 2) ((flat true zs) ++ rest) ++ [Value.int .i64 y.s, Value.slice (some ⟨blk13, 0, none⟩) y.zs.length y.zs.length] ++ List.drop (0 + Int.toNat ((k : Nat) : Int) * 2 + List.length [Value.int .i64 y.s, Value.slice (some ⟨blk13, 0, none⟩) y.zs.length y.zs.length]) ((flat true zs) ++ rest)) :: ((zs.map (It.row .u8 5)) ++ [])) (by kernel_rfl) hS10 (fun w14 hS14 => hK _ _ (fun h => absurd h (by decide)) ?_))
    clear hK K
    replace hS14 := hS14.eqv (own' := (Res.row (Value.slice (some ⟨blk13, 0, none⟩) y.zs.length y.zs.length) 5 1 y.zs.length (y.zs.map (Value.int .u8)) :: Res.box blk7 [Value.int .i64 y.s, Value.slice y.A y.zs.length y.c] 37 :: Res.row (Value.slice (some ⟨blk2, 0, none⟩) n n) 37 2 n ((flat true (zs ++ [(It.mk y.s (some ⟨blk13, 0, none⟩) y.zs.length y.zs)])) ++ rest.drop 2) :: ((zs.map (It.row .u8 5)) ++ []))) (by rw [deep_fill (p := true) (y := (It.mk y.s (some ⟨blk13, 0, none⟩) y.zs.length y.zs)) hzl _ (by rw [Int.toNat_natCast, Nat.zero_add]; rfl) [Value.int .i64 y.s, Value.slice (some ⟨blk13, 0, none⟩) y.zs.length y.zs.length] rfl 2 rfl])
    refine a_done (by kernel_rfl) ?_
    refine blk_n ?_
    refine then_n ?_
    refine c_reg ?_
    refine q_seg (S := (fun x_ => St w x_ (Res.row (Value.slice (some ⟨blk13, 0, none⟩) y.zs.length y.zs.length) 5 1 y.zs.length (y.zs.map (Value.int .u8)) :: Res.box blk7 [Value.int .i64 y.s, Value.slice y.A y.zs.length y.c] 37 :: Res.row (Value.slice (some ⟨blk2, 0, none⟩) n n) 37 2 n ((flat true (zs ++ [(It.mk y.s (some ⟨blk13, 0, none⟩) y.zs.length y.zs)])) ++ rest.drop 2) :: ((zs.map (It.row .u8 5)) ++ [])))) [(11, Value.int .i64 (((k : Nat) : Int) + (1 : Int))), (25, Value.int .i64 (((k : Nat) : Int) + (1 : Int)))] [.no, .no] ((InK .i64 (((k : Nat) : Int) + (1 : Int)))) (by kernel_rfl) (in64 (by omega) (by omega)) hS14 ?_
    refine l_nil rfl ?_
    refine then_n ?_
    have hSe := (hS14.sub (List.Sublist.cons_cons _ (List.Sublist.cons _ (List.Sublist.cons_cons _ (List.Sublist.append (List.Sublist.refl _) List.Sublist.slnil)))))
    refine round_end ((k + 1, zs ++ [(It.mk y.s (some ⟨blk13, 0, none⟩) y.zs.length y.zs)], rest.drop 2)) ?_ ?_ ?_
    · exact (agree_cons (by kernel_rfl) (agree_cons (by kernel_rfl) (agree_cons (by kernel_rfl) (agree_cons (by kernel_rfl) agree_nil))))
    · exact ⟨(by omega), (con_take hzk hyk rfl), (St.pickI (κ := .u8) (tb := 5) [Res.row (Value.slice (some ⟨blk2, 0, none⟩) n n) 37 2 n ((flat true (zs ++ [(It.mk y.s (some ⟨blk13, 0, none⟩) y.zs.length y.zs)])) ++ rest.drop 2)] [] zs (It.mk y.s (some ⟨blk13, 0, none⟩) y.zs.length y.zs) hSe)⟩
    · exact (by first | omega | (dsimp only; omega))
  · skip
    have hb5p := of_decide_eq_false hb5
    refine c_false (b := (decide (((k : Nat) : Int) < ((n : Nat) : Int)))) (by kernel_rfl) hb5 ?_
    refine wp_exit ?_
    refine then_x ?_
    refine then_x ?_
    refine blk_hit ?_
    refine then_n ?_
    refine wp_seq ?_
    refine c_reg ?_
    refine q_seg (S := (fun x_ => St w x_ (Res.row (Value.slice (some ⟨blk2, 0, none⟩) n n) 37 2 n ((flat true zs) ++ rest) :: ((zs.map (It.row .u8 5)) ++ [])))) [(2, Value.slice (some ⟨blk2, 0, none⟩) n n), (26, Value.slice (some ⟨blk2, 0, none⟩) n n)] [.no, .no] True (by kernel_rfl) trivial hS3 ?_
    refine l_nil rfl ?_
    refine then_n ?_
    refine wp_ret ?_
    have hkn2 : k = n := by omega
    have hrl := hS3.row_len (List.mem_of_getElem? (i := 0) rfl)
    rw [List.length_append, flat_length, hzl, hkn2] at hrl
    have hr0 : rest = [] := List.eq_nil_of_length_eq_zero (by simp only [csz] at hrl; omega)
    rw [hkn2] at hzk
    exact c_end (S := (fun x_ => St w x_ (Res.row (Value.slice (some ⟨blk2, 0, none⟩) n n) 37 2 n ((flat true zs) ++ rest) :: ((zs.map (It.row .u8 5)) ++ [])))) (rs := [.tmp 2]) rfl [] (v := Value.slice (some ⟨blk2, 0, none⟩) n n) (C := True) (by kernel_rfl) trivial hS3 ((hS3.eqv (by rw [hr0, List.append_nil (flat true zs)])).rt ⟨_, _, zs, rfl, rfl, by rw [con_all hzk hln (Nat.le_refl _)]⟩)
theorem l24Sents_s_c (A : Option Addr) (n c : Nat) (L : List (Int × List Int)) (w : World) (hs : wt L ≤ 1099511627776) (hr : RdL .u8 true w w.heap.size A n L) : Calls Try.prog 95 #[.slice A n c] w (Ret w (fun v new => ∃ (A0_ : Option Addr) (c0_ : Nat) (y0_ : List It), v = Value.slice A0_ n c0_ ∧ new = Res.row (Value.slice A0_ n c0_) 37 2 n (flat true y0_) :: ((y0_.map (It.row .u8 5)) ++ []) ∧ y0_.map (con true) = L)) := by
  obtain ⟨hok, ys, hr, rfl⟩ := hr
  have hwl := wt_len (ys.map (con true))
  have hln := hr.len
  rw [List.length_map] at hwl
  refine calls_FA Try.func95 rfl (n := 29) rfl (l := [(0, Value.slice A n c)]) rfl (by simp) (fun g => ?_)
  have hS := St.init w
  refine wp_seq ?_
  refine c_reg ?_
  refine q_seg (S := (fun x_ => St w x_ [])) [(2, Value.slice none 0 0)] [.no] True (by kernel_rfl) trivial hS ?_
  refine l_nil rfl ?_
  refine then_n ?_
  refine wp_seq ?_
  refine c_reg ?_
  refine l_op rfl rfl (fun K hK => op_buildSlice (d := some 5) rfl rfl (e := 37) (by kernel_rfl) 2 (by kernel_rfl) (by decide) (by decide) [] (by kernel_rfl) rfl hS (fun blk2 w1 hS1 => hK _ _ ?_))
  clear hK K
  refine q_seg (S := (fun x_ => St w x_ [Res.row (Value.slice (some ⟨blk2, 0, none⟩) 0 0) 37 2 0 ([])])) [(3, Value.slice (some ⟨blk2, 0, none⟩) 0 0)] [.no] True (by kernel_rfl) trivial hS1 ?_
  refine l_nil rfl ?_
  refine then_n ?_
  refine wp_seq ?_
  refine wp_seq ?_
  refine c_reg ?_
  refine q_seg (S := (fun x_ => St w x_ [Res.row (Value.slice (some ⟨blk2, 0, none⟩) 0 0) 37 2 0 ([])])) [(4, Value.int .i64 0)] [.no] True (by kernel_rfl) trivial hS1 ?_
  refine l_nil rfl ?_
  refine then_n ?_
  refine wp_block ?_
  refine c_loop (X := Nat × Option Addr × Nat × List It) (fun (x_ : Nat × Option Addr × Nat × List It) => match x_ with | (k, A2, c2, zs) => [(0, Value.slice A n c), (3, Value.slice A2 k c2), (4, Value.int .i64 ((k : Nat) : Int))]) (fun (x_ : Nat × Option Addr × Nat × List It) (wr : World) => match x_ with | (k, A2, c2, zs) => (k ≤ n) ∧ (zs.map (con true) = (ys.take k).map (con true)) ∧ St w wr (Res.row (Value.slice A2 k c2) 37 2 k (flat true zs) :: ((zs.map (It.row .u8 5)) ++ []))) (fun (x_ : Nat × Option Addr × Nat × List It) => match x_ with | (k, A2, c2, zs) => n - k) ((0, (some ⟨blk2, 0, none⟩), 0, [])) ?_ ?_ ?_
  · exact (agree_cons (by kernel_rfl) (agree_cons (by kernel_rfl) (agree_cons (by kernel_rfl) agree_nil)))
  · exact ⟨Nat.zero_le _, rfl, hS1⟩
  rintro ⟨k, A2, c2, zs⟩ g4 w3 ⟨hkn, hzk, hS3⟩
  have hzl := con_lenk hzk hln hkn
  refine wp_seq ?_
  refine wp_seq ?_
  refine c_reg ?_
  refine q_seg (S := (fun x_ => St w x_ (Res.row (Value.slice A2 k c2) 37 2 k (flat true zs) :: ((zs.map (It.row .u8 5)) ++ [])))) [(9, Value.bool (decide (((k : Nat) : Int) < ((n : Nat) : Int)))), (8, Value.int .i64 ((n : Nat) : Int)), (7, Value.slice A n c), (6, Value.int .i64 ((k : Nat) : Int))] [.no, .no, .no, .no] True (by kernel_rfl) trivial hS3 ?_
  refine l_nil rfl ?_
  refine then_n ?_
  rcases Bool.eq_false_or_eq_true (decide (((k : Nat) : Int) < ((n : Nat) : Int))) with hb5 | hb5
  · skip
    have hb5p := of_decide_eq_true hb5
    obtain ⟨b, off, rfl, hbB, hcl⟩ := hr.at (k := k) (by omega)
    obtain ⟨y, hyk, hym⟩ := get_of_lt (l := ys) (k := k) (by have := hr.len; omega)
    obtain ⟨hy1, hy2, hy3⟩ := hr.el y hym
    obtain ⟨hyi, hyz⟩ := hok _ (List.mem_map_of_mem (f := (con true)) hym)
    have hyl : y.zs.length + 1 ≤ wt (ys.map (con true)) := wt_mem (List.mem_map_of_mem (f := (con true)) hym)
    refine c_true (b := (decide (((k : Nat) : Int) < ((n : Nat) : Int)))) (by kernel_rfl) hb5 ?_
    refine wp_skip ?_
    refine then_n ?_
    refine wp_seq ?_
    refine wp_block ?_
    refine c_drawnS (S := (fun x_ => St w x_ [])) [] (by kernel_rfl) hS3 (fun w6 hS6 => ?_)
    refine t_seg (S := (fun x_ => St w x_ [])) [(0, .no), (1, .no), (2, .no), (7, .no), (8, .no), (3, .no), (9, .no), (4, .no), (10, .no), (5, .v (Value.int .i64 y.s)), (11, .v (Value.slice y.A y.zs.length y.c))] 6 #[true, true, true, true, true, true, false, true, true, true, true, true, false, false, false, false, false] [(23, Value.slice y.A y.zs.length y.c), (17, Value.int .i64 y.s), (22, Value.pointer (some ⟨b, off + Int.toNat ((k : Nat) : Int) * 2 + 1, none⟩)), (16, Value.pointer (some ⟨b, off + Int.toNat ((k : Nat) : Int) * 2 + 0, none⟩)), (21, Value.pointer (some ⟨b, off + Int.toNat ((k : Nat) : Int) * 2, none⟩)), (15, Value.pointer (some ⟨b, off + Int.toNat ((k : Nat) : Int) * 2, none⟩)), (20, Value.int .i64 ((k : Nat) : Int)), (19, Value.slice (some ⟨b, off, none⟩) n c), (14, Value.int .i64 ((k : Nat) : Int)), (13, Value.slice (some ⟨b, off, none⟩) n c), (12, Value.slice A2 k c2)] (((0 : Int) ≤ ((k : Nat) : Int)) ∧ (((k : Nat) : Int) < ((n : Nat) : Int)) ∧ ((0 : Int) ≤ ((k : Nat) : Int)) ∧ (((k : Nat) : Int) < ((n : Nat) : Int)) ∧ (LoadsAt Try.prog (fun x_ => St w x_ []) 3 ⟨b, off + Int.toNat ((k : Nat) : Int) * 2 + 0, none⟩ (Value.int .i64 y.s)) ∧ (LoadsAt Try.prog (fun x_ => St w x_ []) 26 ⟨b, off + Int.toNat ((k : Nat) : Int) * 2 + 1, none⟩ (Value.slice y.A y.zs.length y.c))) (by kernel_rfl) (Qpanic.block (Qpanic.then (Qpanic.then (Qpanic.block (Qpanic.then Qpanic.bp))))) rfl (by kernel_rfl) ⟨(by omega), (by omega), (by omega), (by omega), (ld_low (flat_cell (p := true) (r := 0) hcl hyk rfl) (by kernel_rfl)), (ld_low (flat_cell (p := true) (r := 1) hcl hyk rfl) (by kernel_rfl))⟩ (hS6.sub (List.Sublist.cons _ (List.Sublist.trans List.Sublist.slnil (List.sublist_append_right _ _)))) ?_
    refine a_op (i := 6) (fuel := 5) (listed' := #[true, true, true, true, true, true, true, true, true, true, true, true, false, false, false, false, false]) rfl rfl (by kernel_rfl) (by kernel_rfl) rfl (fun K hK => op_buildSlice (d := some 18) rfl rfl (e := 5) (by kernel_rfl) 1 (by kernel_rfl) (by decide) (by decide) [] (by kernel_rfl) rfl hS6 (fun blk8 w7 hS7 => hK _ _ (fun _ => (hS7.sub (List.Sublist.cons _ (List.Sublist.cons _ (List.Sublist.trans List.Sublist.slnil (List.sublist_append_right _ _)))))) ?_))
    clear hK K
    refine a_op (i := 12) (fuel := 4) (listed' := #[true, true, true, true, true, true, true, true, true, true, true, true, true, false, false, false, false]) rfl rfl (by kernel_rfl) (by kernel_rfl) rfl (fun K hK => op_append_nil (d := some 24) rfl rfl elByte hS7 (i := 0) rfl rfl rfl (news := (y.zs.map (Value.int .u8))) (hS7.rdlow hy1).m1 (ints_one _ _) (by omega) (by omega) (fun v10 w9 hS9 => hK _ _ (fun _ => (hS9.sub (List.Sublist.cons _ (List.Sublist.cons _ (List.Sublist.trans List.Sublist.slnil (List.sublist_append_right _ _)))))) ?_))
    clear hK K
    obtain ⟨hlv10, Av10, cv10, hvv10, hnv10, hmv10⟩ := hS9.row_slice (List.mem_of_getElem? (i := 0) rfl)
    subst hvv10
    refine t_seg (S := (fun x_ => St w x_ [])) [(13, .no)] 3 #[true, true, true, true, true, true, true, true, true, true, true, true, true, true, false, false, false] [(25, Value.agg #[Value.int .i64 y.s, Value.slice Av10 y.zs.length cv10])] True (by kernel_rfl) (Qpanic.block (Qpanic.then (Qpanic.then (Qpanic.block (Qpanic.then Qpanic.bp))))) rfl (by kernel_rfl) trivial (hS9.sub (List.Sublist.cons _ (List.Sublist.cons _ (List.Sublist.trans List.Sublist.slnil (List.sublist_append_right _ _))))) ?_
    refine a_op (i := 14) (fuel := 2) (listed' := #[true, true, true, true, true, true, true, true, true, true, true, true, true, true, true, false, false]) rfl rfl (by kernel_rfl) (by kernel_rfl) rfl (fun K hK => op_buildSlice (d := some 26) rfl rfl (e := 37) (by kernel_rfl) 2 (by kernel_rfl) (by decide) (by decide) [Value.int .i64 y.s, Value.slice Av10 y.zs.length cv10] (by kernel_rfl) rfl hS9 (fun blk12 w11 hS11 => hK _ _ (fun _ => (hS11.sub (List.Sublist.cons _ (List.Sublist.cons _ (List.Sublist.cons _ (List.Sublist.trans List.Sublist.slnil (List.sublist_append_right _ _))))))) ?_))
    clear hK K
    refine a_op (i := 15) (fuel := 1) (listed' := #[true, true, true, true, true, true, true, true, true, true, true, true, true, true, true, true, false]) rfl rfl (by kernel_rfl) (by kernel_rfl) rfl (fun K hK => op_append (d := some 27) rfl rfl el_37 hS11 (i := 2) rfl rfl rfl (news := [Value.int .i64 y.s, Value.slice Av10 y.zs.length cv10]) (hS11.rd (List.mem_of_getElem? (i := 0) rfl)) (all_one (by rfl)) (by omega) (by omega) (fun v14 w13 hS13 => hK _ _ (fun _ => (hS13.sub (List.Sublist.cons _ (List.Sublist.cons _ (List.Sublist.cons _ (List.Sublist.trans List.Sublist.slnil (List.sublist_append_right _ _))))))) ?_))
    clear hK K
    obtain ⟨hlv14, Av14, cv14, hvv14, hnv14, hmv14⟩ := hS13.row_slice (List.mem_of_getElem? (i := 2) rfl)
    subst hvv14
    refine t_seg (S := (fun x_ => St w x_ [])) [(16, .no)] 0 #[true, true, true, true, true, true, true, true, true, true, true, true, true, true, true, true, true] [(3, Value.slice Av14 (k + 1) cv14)] True (by kernel_rfl) (Qpanic.block (Qpanic.then (Qpanic.then (Qpanic.block (Qpanic.then Qpanic.bp))))) rfl (by kernel_rfl) trivial (hS13.sub (List.Sublist.cons _ (List.Sublist.cons _ (List.Sublist.cons _ (List.Sublist.trans List.Sublist.slnil (List.sublist_append_right _ _)))))) ?_
    refine a_done (by kernel_rfl) ?_
    refine blk_n ?_
    refine then_n ?_
    refine c_reg ?_
    refine q_seg (S := (fun x_ => St w x_ (Res.row (Value.slice (some ⟨blk12, 0, none⟩) 1 1) 37 2 1 ([Value.int .i64 y.s, Value.slice Av10 y.zs.length cv10]) :: Res.row (Value.slice Av10 y.zs.length cv10) 5 1 y.zs.length (y.zs.map (Value.int .u8)) :: Res.row (Value.slice Av14 (k + 1) cv14) 37 2 (k + 1) ((flat true zs) ++ [Value.int .i64 y.s, Value.slice Av10 y.zs.length cv10]) :: ((zs.map (It.row .u8 5)) ++ [])))) [(4, Value.int .i64 (((k : Nat) : Int) + (1 : Int))), (11, Value.int .i64 (((k : Nat) : Int) + (1 : Int))), (10, Value.int .i64 ((k : Nat) : Int))] [.no, .no, .no] ((InK .i64 (((k : Nat) : Int) + (1 : Int)))) (by kernel_rfl) (in64 (by omega) (by omega)) hS13 ?_
    refine l_nil rfl ?_
    refine then_n ?_
    have hSe := (hS13.sub (List.Sublist.cons _ (List.Sublist.cons_cons _ (List.Sublist.cons_cons _ (List.Sublist.append (List.Sublist.refl _) List.Sublist.slnil)))))
    refine round_end ((k + 1, Av14, cv14, zs ++ [(It.mk y.s Av10 cv10 y.zs)])) ?_ ?_ ?_
    · exact (agree_cons (by kernel_rfl) (agree_cons (by kernel_rfl) (agree_cons (by kernel_rfl) agree_nil)))
    · exact ⟨(by omega), (con_take hzk hyk rfl), (St.pickI (κ := .u8) (tb := 5) [Res.row (Value.slice Av14 (k + 1) cv14) 37 2 (k + 1) (flat true (zs ++ [(It.mk y.s Av10 cv10 y.zs)]))] [] zs (It.mk y.s Av10 cv10 y.zs) (hSe.eqv (by rw [flat_snoc]; rfl)))⟩
    · exact (by first | omega | (dsimp only; omega))
  · skip
    have hb5p := of_decide_eq_false hb5
    refine c_false (b := (decide (((k : Nat) : Int) < ((n : Nat) : Int)))) (by kernel_rfl) hb5 ?_
    refine wp_exit ?_
    refine then_x ?_
    refine then_x ?_
    refine blk_hit ?_
    refine then_n ?_
    refine wp_seq ?_
    refine c_reg ?_
    refine q_seg (S := (fun x_ => St w x_ (Res.row (Value.slice A2 k c2) 37 2 k (flat true zs) :: ((zs.map (It.row .u8 5)) ++ [])))) [(2, Value.slice A2 k c2), (28, Value.slice A2 k c2)] [.no, .no] True (by kernel_rfl) trivial hS3 ?_
    refine l_nil rfl ?_
    refine then_n ?_
    refine wp_ret ?_
    have hkn2 : k = n := by omega
    subst hkn2
    exact c_end (S := (fun x_ => St w x_ (Res.row (Value.slice A2 k c2) 37 2 k (flat true zs) :: ((zs.map (It.row .u8 5)) ++ [])))) (rs := [.tmp 2]) rfl [] (v := Value.slice A2 k c2) (C := True) (by kernel_rfl) trivial hS3 (hS3.rt ⟨_, _, zs, rfl, rfl, by rw [con_all hzk hln (Nat.le_refl _)]⟩)
theorem equalNumbered_i_c (A B : Option Addr) (n c m d : Nat) (L M : List (Int × List Int)) (w : World) (hs : wt L ≤ 1099511627776) (hs2 : wt M ≤ 1099511627776) (hr : RdL .u8 true w w.heap.size A n L) (hr2 : RdL .u8 true w w.heap.size B m M) : Calls Try.prog 80 #[.slice A n c, .slice B m d] w (RetV w (.bool (decide (L = M)))) := by
  obtain ⟨hok, ys, hr, rfl⟩ := hr
  have hwl := wt_len (ys.map (con true))
  have hln := hr.len
  rw [List.length_map] at hwl
  obtain ⟨hok2, zs, hr2, rfl⟩ := hr2
  have hwl2 := wt_len (zs.map (con true))
  have hln2 := hr2.len
  rw [List.length_map] at hwl2
  refine calls_FA Try.func80 rfl (n := 42) rfl (l := [(0, Value.slice A n c), (1, Value.slice B m d)]) rfl (by simp) (fun g => ?_)
  have hS := St.init w
  refine wp_seq ?_
  refine c_reg ?_
  refine q_seg (S := (fun x_ => St w x_ [])) [(4, Value.bool false)] [.no] True (by kernel_rfl) trivial hS ?_
  refine l_nil rfl ?_
  refine then_n ?_
  refine wp_seq ?_
  refine wp_seq ?_
  refine c_reg ?_
  refine q_seg (S := (fun x_ => St w x_ [])) [(10, Value.bool (!(decide (((n : Nat) : Int) = ((m : Nat) : Int))))), (9, Value.int .i64 ((m : Nat) : Int)), (8, Value.slice B m d), (7, Value.int .i64 ((n : Nat) : Int)), (6, Value.slice A n c)] [.no, .no, .no, .no, .no] True (by kernel_rfl) trivial hS ?_
  refine l_nil rfl ?_
  refine then_n ?_
  rcases Bool.eq_false_or_eq_true (decide (((n : Nat) : Int) = ((m : Nat) : Int))) with hb1 | hb1
  · skip
    have hb1p := of_decide_eq_true hb1
    refine c_false (b := (!(decide (((n : Nat) : Int) = ((m : Nat) : Int))))) (by kernel_rfl) (nb (v := true) hb1) ?_
    refine wp_skip ?_
    refine then_n ?_
    refine wp_seq ?_
    refine wp_seq ?_
    refine c_reg ?_
    refine q_seg (S := (fun x_ => St w x_ [])) [(13, Value.int .i64 0), (12, Value.int .i64 ((n : Nat) : Int)), (11, Value.slice A n c)] [.no, .no, .no] True (by kernel_rfl) trivial hS ?_
    refine l_nil rfl ?_
    refine then_n ?_
    refine wp_block ?_
    refine c_loop (X := Nat) (fun (k : Nat) => [(0, Value.slice A n c), (1, Value.slice B m d), (12, Value.int .i64 ((n : Nat) : Int)), (13, Value.int .i64 ((k : Nat) : Int))]) (fun (k : Nat) (wr : World) => (k ≤ n) ∧ ((ys.map (con true)).take k = (zs.map (con true)).take k) ∧ St w wr []) (fun (k : Nat) => n - k) 0 ?_ ?_ ?_
    · exact (agree_cons (by kernel_rfl) (agree_cons (by kernel_rfl) (agree_cons (by kernel_rfl) (agree_cons (by kernel_rfl) agree_nil))))
    · exact ⟨Nat.zero_le _, rfl, hS⟩
    rintro k g3 w2 ⟨hkn, htk, hS2⟩
    refine wp_seq ?_
    refine c_reg ?_
    refine q_seg (S := (fun x_ => St w x_ [])) [(14, Value.bool (decide (((k : Nat) : Int) < ((n : Nat) : Int))))] [.no] True (by kernel_rfl) trivial hS2 ?_
    refine l_nil rfl ?_
    refine then_n ?_
    refine wp_seq ?_
    rcases Bool.eq_false_or_eq_true (decide (((k : Nat) : Int) < ((n : Nat) : Int))) with hb4 | hb4
    · skip
      have hb4p := of_decide_eq_true hb4
      obtain ⟨b, off, rfl, hbB, hcl⟩ := hr.at (k := k) (by omega)
      obtain ⟨y, hyk, hym⟩ := get_of_lt (l := ys) (k := k) (by have := hr.len; omega)
      obtain ⟨hy1, hy2, hy3⟩ := hr.el y hym
      obtain ⟨hyi, hyz⟩ := hok _ (List.mem_map_of_mem (f := (con true)) hym)
      have hyl : y.zs.length + 1 ≤ wt (ys.map (con true)) := wt_mem (List.mem_map_of_mem (f := (con true)) hym)
      obtain ⟨b2, off2, rfl, hbB2, hcl2⟩ := hr2.at (k := k) (by omega)
      obtain ⟨z, hzk, hzm⟩ := get_of_lt (l := zs) (k := k) (by have := hr2.len; omega)
      obtain ⟨hz1, hz2, hz3⟩ := hr2.el z hzm
      obtain ⟨hzi, hzz⟩ := hok2 _ (List.mem_map_of_mem (f := (con true)) hzm)
      have hzl : z.zs.length + 1 ≤ wt (zs.map (con true)) := wt_mem (List.mem_map_of_mem (f := (con true)) hzm)
      refine c_true (b := (decide (((k : Nat) : Int) < ((n : Nat) : Int)))) (by kernel_rfl) hb4 ?_
      refine wp_skip ?_
      refine then_n ?_
      refine wp_seq ?_
      refine wp_block ?_
      refine wp_seq ?_
      refine c_reg ?_
      refine q_seg (S := (fun x_ => St w x_ [])) [(5, Value.int .i64 ((k : Nat) : Int)), (15, Value.int .i64 ((k : Nat) : Int))] [.no, .no] True (by kernel_rfl) trivial hS2 ?_
      refine l_nil rfl ?_
      refine then_n ?_
      refine wp_seq ?_
      refine c_drawn [] (by kernel_rfl) hS2 (fun w5 hS5 => ?_)
      refine t_seg (S := (fun x_ => St w x_ [])) [(0, .no), (1, .no), (5, .no), (6, .no), (2, .no), (7, .no), (3, .no), (8, .no), (4, .v (Value.int .i64 y.s)), (9, .v (Value.int .i64 z.s)), (10, .no), (11, .no)] 13 #[true, true, true, true, true, true, true, true, true, true, true, true, false, false, false, false, false, false, false, false, false, false, false, false, false] [(27, Value.bool (!(decide (y.s = z.s)))), (26, Value.bool (!(decide (y.s = z.s)))), (25, Value.int .i64 z.s), (20, Value.int .i64 y.s), (24, Value.pointer (some ⟨b2, off2 + Int.toNat ((k : Nat) : Int) * 2 + 0, none⟩)), (19, Value.pointer (some ⟨b, off + Int.toNat ((k : Nat) : Int) * 2 + 0, none⟩)), (23, Value.pointer (some ⟨b2, off2 + Int.toNat ((k : Nat) : Int) * 2, none⟩)), (18, Value.pointer (some ⟨b, off + Int.toNat ((k : Nat) : Int) * 2, none⟩)), (22, Value.int .i64 ((k : Nat) : Int)), (21, Value.slice (some ⟨b2, off2, none⟩) m d), (17, Value.int .i64 ((k : Nat) : Int)), (16, Value.slice (some ⟨b, off, none⟩) n c)] (((0 : Int) ≤ ((k : Nat) : Int)) ∧ (((k : Nat) : Int) < ((n : Nat) : Int)) ∧ ((0 : Int) ≤ ((k : Nat) : Int)) ∧ (((k : Nat) : Int) < ((m : Nat) : Int)) ∧ (LoadsAt Try.prog (fun x_ => St w x_ []) 3 ⟨b, off + Int.toNat ((k : Nat) : Int) * 2 + 0, none⟩ (Value.int .i64 y.s)) ∧ (LoadsAt Try.prog (fun x_ => St w x_ []) 3 ⟨b2, off2 + Int.toNat ((k : Nat) : Int) * 2 + 0, none⟩ (Value.int .i64 z.s))) (by kernel_rfl) (Qpanic.then (Qpanic.block (Qpanic.then (Qpanic.then (Qpanic.block (Qpanic.then Qpanic.bp)))))) rfl (by kernel_rfl) ⟨(by omega), (by omega), (by omega), (by omega), (ld_low (flat_cell (p := true) (r := 0) hcl hyk rfl) (by kernel_rfl)), (ld_low (flat_cell (p := true) (r := 0) hcl2 hzk rfl) (by kernel_rfl))⟩ hS5 ?_
      rcases Bool.eq_false_or_eq_true (decide (y.s = z.s)) with hb6 | hb6
      · skip
        have hb6p := of_decide_eq_true hb6
        refine t_seg (S := (fun x_ => St w x_ [])) [(12, .no), (13, .no), (17, .no), (18, .no), (14, .no), (19, .no), (15, .no), (20, .no), (16, .v (Value.slice y.A y.zs.length y.c)), (21, .v (Value.slice z.A z.zs.length z.c))] 3 #[true, true, true, true, true, true, true, true, true, true, true, true, true, true, true, true, true, true, true, true, true, true, false, false, false] [(37, Value.slice z.A z.zs.length z.c), (32, Value.slice y.A y.zs.length y.c), (36, Value.pointer (some ⟨b2, off2 + Int.toNat ((k : Nat) : Int) * 2 + 1, none⟩)), (31, Value.pointer (some ⟨b, off + Int.toNat ((k : Nat) : Int) * 2 + 1, none⟩)), (35, Value.pointer (some ⟨b2, off2 + Int.toNat ((k : Nat) : Int) * 2, none⟩)), (30, Value.pointer (some ⟨b, off + Int.toNat ((k : Nat) : Int) * 2, none⟩)), (34, Value.int .i64 ((k : Nat) : Int)), (33, Value.slice (some ⟨b2, off2, none⟩) m d), (29, Value.int .i64 ((k : Nat) : Int)), (28, Value.slice (some ⟨b, off, none⟩) n c)] (((!(decide (y.s = z.s))) = false) ∧ ((!(decide (y.s = z.s))) = false) ∧ ((!(decide (y.s = z.s))) = false) ∧ ((!(decide (y.s = z.s))) = false) ∧ ((!(decide (y.s = z.s))) = false) ∧ ((0 : Int) ≤ ((k : Nat) : Int)) ∧ (((k : Nat) : Int) < ((n : Nat) : Int)) ∧ ((!(decide (y.s = z.s))) = false) ∧ ((0 : Int) ≤ ((k : Nat) : Int)) ∧ (((k : Nat) : Int) < ((m : Nat) : Int)) ∧ ((!(decide (y.s = z.s))) = false) ∧ ((!(decide (y.s = z.s))) = false) ∧ ((!(decide (y.s = z.s))) = false) ∧ (LoadsAt Try.prog (fun x_ => St w x_ []) 26 ⟨b, off + Int.toNat ((k : Nat) : Int) * 2 + 1, none⟩ (Value.slice y.A y.zs.length y.c)) ∧ ((!(decide (y.s = z.s))) = false) ∧ (LoadsAt Try.prog (fun x_ => St w x_ []) 26 ⟨b2, off2 + Int.toNat ((k : Nat) : Int) * 2 + 1, none⟩ (Value.slice z.A z.zs.length z.c))) (by kernel_rfl) (Qpanic.then (Qpanic.block (Qpanic.then (Qpanic.then (Qpanic.block (Qpanic.then Qpanic.bp)))))) rfl (by kernel_rfl) ⟨(nb (v := true) hb6), (nb (v := true) hb6), (nb (v := true) hb6), (nb (v := true) hb6), (nb (v := true) hb6), (by omega), (by omega), (nb (v := true) hb6), (by omega), (by omega), (nb (v := true) hb6), (nb (v := true) hb6), (nb (v := true) hb6), (ld_low (flat_cell (p := true) (r := 1) hcl hyk rfl) (by kernel_rfl)), (nb (v := true) hb6), (ld_low (flat_cell (p := true) (r := 1) hcl2 hzk rfl) (by kernel_rfl))⟩ hS5 ?_
        refine a_opg (i := 22) (fuel := 2) (listed' := #[true, true, true, true, true, true, true, true, true, true, true, true, true, true, true, true, true, true, true, true, true, true, true, false, false]) rfl rfl (by kernel_rfl) (by kernel_rfl) (b := (!(decide (y.s = z.s)))) (want := false) (by kernel_rfl) (nb (v := true) hb6) (fun K hK => op_callv (d := some 38) rfl rfl ⟨_, Try.func101, by kernel_rfl, by kernel_rfl⟩ (vs := [Value.slice y.A y.zs.length y.c, Value.slice z.A z.zs.length z.c]) (by kernel_rfl) (v := Value.bool (decide (y.zs = z.zs))) (EqualBytes_i_c y.A z.A y.zs.length y.c z.zs.length z.c y.zs z.zs w5 hyz hzz (hS5.rdlow hy1) (hS5.rdlow hz1)) hS5 (fun w7 hS7 => hK _ _ (fun _ => hS7) ?_))
        clear hK K
        refine t_seg (S := (fun x_ => St w x_ [])) [(23, .no), (24, .v (.bool false))] 0 #[true, true, true, true, true, true, true, true, true, true, true, true, true, true, true, true, true, true, true, true, true, true, true, true, true] [(40, Value.bool (!(decide (y.zs = z.zs)))), (39, Value.bool (!(decide (y.zs = z.zs))))] (((!(decide (y.s = z.s))) = false) ∧ ((!(decide (y.s = z.s))) = false)) (by kernel_rfl) (Qpanic.then (Qpanic.block (Qpanic.then (Qpanic.then (Qpanic.block (Qpanic.then Qpanic.bp)))))) rfl (by kernel_rfl) ⟨(nb (v := true) hb6), (nb (v := true) hb6)⟩ hS7 ?_
        refine a_done (by kernel_rfl) ?_
        refine then_n ?_
        rcases Bool.eq_false_or_eq_true (decide (y.zs = z.zs)) with hb8 | hb8
        · skip
          have hb8p := of_decide_eq_true hb8
          refine c_false (b := (!(decide (y.zs = z.zs)))) (by kernel_rfl) (nb (v := true) hb8) ?_
          refine wp_skip ?_
          refine blk_n ?_
          refine then_n ?_
          refine c_reg ?_
          refine q_seg (S := (fun x_ => St w x_ [])) [(13, Value.int .i64 (((k : Nat) : Int) + (1 : Int))), (41, Value.int .i64 (((k : Nat) : Int) + (1 : Int)))] [.no, .no] ((InK .i64 (((k : Nat) : Int) + (1 : Int)))) (by kernel_rfl) (in64 (by omega) (by omega)) hS7 ?_
          refine l_nil rfl ?_
          refine then_n ?_
          refine round_end (k + 1) ?_ ?_ ?_
          · exact (agree_cons (by kernel_rfl) (agree_cons (by kernel_rfl) (agree_cons (by kernel_rfl) (agree_cons (by kernel_rfl) agree_nil))))
          · exact ⟨(by omega), (tk_step htk (con_get hyk) (con_get hzk) (con_tt hb6p hb8p)), hS7⟩
          · exact (by first | omega | (dsimp only; omega))
        · skip
          have hb8p := of_decide_eq_false hb8
          refine c_true (b := (!(decide (y.zs = z.zs)))) (by kernel_rfl) (nb (v := false) hb8) ?_
          refine wp_seq ?_
          refine c_reg ?_
          refine q_seg (S := (fun x_ => St w x_ [])) [(4, Value.bool false)] [.no] True (by kernel_rfl) trivial hS7 ?_
          refine l_nil rfl ?_
          refine then_n ?_
          refine wp_ret ?_
          refine blk_r ?_
          refine then_r ?_
          refine then_r ?_
          refine blk_r ?_
          refine then_r ?_
          exact c_end (S := (fun x_ => St w x_ [])) (rs := [.tmp 4]) rfl [] (v := Value.bool false) (C := True) (by kernel_rfl) trivial hS7 ((hS7.rv (congrArg Value.bool (same_false (con_get hyk) (con_get hzk) (con_ne hb8p)).symm)))
      · skip
        have hb6p := of_decide_eq_false hb6
        refine t_seg (S := (fun x_ => St w x_ [])) [(12, .skip), (13, .skip), (17, .skip), (18, .skip), (14, .skip), (19, .skip), (15, .skip), (20, .skip), (16, .skip), (21, .skip), (22, .skip), (23, .skip), (24, .v (.bool true))] 0 #[true, true, true, true, true, true, true, true, true, true, true, true, true, true, true, true, true, true, true, true, true, true, true, true, true] [(40, Value.bool true), (39, undef), (38, undef), (37, undef), (32, undef), (36, undef), (31, undef), (35, undef), (30, undef), (34, undef), (33, undef), (29, undef), (28, undef)] (((!(decide (y.s = z.s))) = !false) ∧ ((!(decide (y.s = z.s))) = !false) ∧ ((!(decide (y.s = z.s))) = !false) ∧ ((!(decide (y.s = z.s))) = !false) ∧ ((!(decide (y.s = z.s))) = !false) ∧ ((!(decide (y.s = z.s))) = !false) ∧ ((!(decide (y.s = z.s))) = !false) ∧ ((!(decide (y.s = z.s))) = !false) ∧ ((!(decide (y.s = z.s))) = !false) ∧ ((!(decide (y.s = z.s))) = !false) ∧ ((!(decide (y.s = z.s))) = !false) ∧ ((!(decide (y.s = z.s))) = !false) ∧ ((!(decide (y.s = z.s))) = true)) (by kernel_rfl) (Qpanic.then (Qpanic.block (Qpanic.then (Qpanic.then (Qpanic.block (Qpanic.then Qpanic.bp)))))) rfl (by kernel_rfl) ⟨(nb (v := false) hb6), (nb (v := false) hb6), (nb (v := false) hb6), (nb (v := false) hb6), (nb (v := false) hb6), (nb (v := false) hb6), (nb (v := false) hb6), (nb (v := false) hb6), (nb (v := false) hb6), (nb (v := false) hb6), (nb (v := false) hb6), (nb (v := false) hb6), (nb (v := false) hb6)⟩ hS5 ?_
        refine a_done (by kernel_rfl) ?_
        refine then_n ?_
        refine c_true (b := true) (by kernel_rfl) rfl ?_
        refine wp_seq ?_
        refine c_reg ?_
        refine q_seg (S := (fun x_ => St w x_ [])) [(4, Value.bool false)] [.no] True (by kernel_rfl) trivial hS5 ?_
        refine l_nil rfl ?_
        refine then_n ?_
        refine wp_ret ?_
        refine blk_r ?_
        refine then_r ?_
        refine then_r ?_
        refine blk_r ?_
        refine then_r ?_
        exact c_end (S := (fun x_ => St w x_ [])) (rs := [.tmp 4]) rfl [] (v := Value.bool false) (C := True) (by kernel_rfl) trivial hS5 ((hS5.rv (congrArg Value.bool (same_false (con_get hyk) (con_get hzk) (con_ne1 hb6p)).symm)))
    · skip
      have hb4p := of_decide_eq_false hb4
      refine c_false (b := (decide (((k : Nat) : Int) < ((n : Nat) : Int)))) (by kernel_rfl) hb4 ?_
      refine wp_exit ?_
      refine then_x ?_
      refine then_x ?_
      refine blk_hit ?_
      refine then_n ?_
      refine wp_seq ?_
      refine c_reg ?_
      refine q_seg (S := (fun x_ => St w x_ [])) [(4, Value.bool true)] [.no] True (by kernel_rfl) trivial hS2 ?_
      refine l_nil rfl ?_
      refine then_n ?_
      refine wp_ret ?_
      exact c_end (S := (fun x_ => St w x_ [])) (rs := [.tmp 4]) rfl [] (v := Value.bool true) (C := True) (by kernel_rfl) trivial hS2 ((hS2.rv (congrArg Value.bool (same_true htk (by rw [List.length_map]; omega) (by rw [List.length_map]; omega)).symm)))
  · skip
    have hb1p := of_decide_eq_false hb1
    refine c_true (b := (!(decide (((n : Nat) : Int) = ((m : Nat) : Int))))) (by kernel_rfl) (nb (v := false) hb1) ?_
    refine wp_seq ?_
    refine c_reg ?_
    refine q_seg (S := (fun x_ => St w x_ [])) [(4, Value.bool false)] [.no] True (by kernel_rfl) trivial hS ?_
    refine l_nil rfl ?_
    refine then_n ?_
    refine wp_ret ?_
    refine then_r ?_
    exact c_end (S := (fun x_ => St w x_ [])) (rs := [.tmp 4]) rfl [] (v := Value.bool false) (C := True) (by kernel_rfl) trivial hS ((hS.rv (congrArg Value.bool (same_len (by rw [List.length_map, List.length_map]; omega)).symm)))
end Go.Proofs.Ytchkiohikhfecaa
