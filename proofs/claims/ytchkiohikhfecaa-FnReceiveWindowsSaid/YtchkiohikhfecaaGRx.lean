/-
  Contracts of the draws of receivers, and of the comparisons of the laws.
-/
import Derived.Test.YtchkiohikhfecaaGDr
import Derived.Test.YtchkiohikhfecaaGRpS
import Derived.Test.YtchkiohikhfecaaGLb
import Derived.Test.YtchkiohikhfecaaItoa
import Derived.Test.YtchkiohikhfecaaTxt
namespace Go.Proofs.Ytchkiohikhfecaa
open Go.RowKit
set_option maxRecDepth 100000

theorem FormatInt_s_c (a : Int) (w : World) (h0 : -9223372036854775808 ≤ a) (h1 : a ≤ 9223372036854775807) : Calls Try.prog 106 #[.int .i64 a] w (RetV w (.string (⟨(Lib.itoa a).toArray⟩ : ByteArray))) := by
  refine calls_FA Try.func106 rfl (n := 31) rfl (l := [(0, Value.int .i64 a)]) rfl (by simp) (fun g => ?_)
  have hS := St.init w
  refine wp_seq ?_
  refine c_reg ?_
  refine q_seg (S := (fun x_ => St w x_ [])) [(2, Value.string (⟨#[]⟩ : ByteArray))] [.no] True (by kernel_rfl) trivial hS ?_
  refine l_nil rfl ?_
  refine then_n ?_
  refine wp_seq ?_
  refine wp_seq ?_
  refine c_reg ?_
  refine q_seg (S := (fun x_ => St w x_ [])) [(7, Value.bool (decide (a = (0 : Int)))), (6, Value.int .i64 a)] [.no, .no] True (by kernel_rfl) trivial hS ?_
  refine l_nil rfl ?_
  refine then_n ?_
  rcases Bool.eq_false_or_eq_true (decide (a = (0 : Int))) with hb1 | hb1
  · skip
    have hb1p := of_decide_eq_true hb1
    refine c_true (b := (decide (a = (0 : Int)))) (by kernel_rfl) hb1 ?_
    refine wp_seq ?_
    refine c_reg ?_
    refine q_seg (S := (fun x_ => St w x_ [])) [(2, Value.string (⟨#[48]⟩ : ByteArray))] [.no] True (by kernel_rfl) trivial hS ?_
    refine l_nil rfl ?_
    refine then_n ?_
    refine wp_ret ?_
    refine then_r ?_
    have ha0 : a = 0 := by omega
    subst ha0
    exact c_end (S := (fun x_ => St w x_ [])) (rs := [.tmp 2]) rfl [] (v := Value.string (⟨#[48]⟩ : ByteArray)) (C := True) (by kernel_rfl) trivial hS (((hS.sub List.Sublist.slnil).rv (by rw [itoa_zero])))
  · skip
    have hb1p := of_decide_eq_false hb1
    refine c_false (b := (decide (a = (0 : Int)))) (by kernel_rfl) hb1 ?_
    refine wp_skip ?_
    refine then_n ?_
    refine wp_seq ?_
    refine c_reg ?_
    refine q_seg (S := (fun x_ => St w x_ [])) [(3, Value.string (⟨#[]⟩ : ByteArray))] [.no] True (by kernel_rfl) trivial hS ?_
    refine l_nil rfl ?_
    refine then_n ?_
    refine wp_seq ?_
    refine wp_seq ?_
    refine c_reg ?_
    refine q_seg (S := (fun x_ => St w x_ [])) [(4, Value.int .i64 a), (8, Value.int .i64 a)] [.no, .no] True (by kernel_rfl) trivial hS ?_
    refine l_nil rfl ?_
    refine then_n ?_
    refine wp_block ?_
    refine c_loop (X := Int × List UInt8) (fun (x_ : Int × List UInt8) => match x_ with | (x, ds) => [(0, Value.int .i64 a), (3, Value.string (⟨ds.toArray⟩ : ByteArray)), (4, Value.int .i64 x)]) (fun (x_ : Int × List UInt8) (wr : World) => match x_ with | (x, ds) => (D0 x.natAbs ++ ds = Lib.decDigits a.natAbs) ∧ (-9223372036854775808 ≤ x) ∧ (x ≤ 9223372036854775807) ∧ St w wr []) (fun (x_ : Int × List UInt8) => match x_ with | (x, ds) => x.natAbs) ((a, [])) ?_ ?_ ?_
    · exact (agree_cons (by kernel_rfl) (agree_eq (v0 := Value.string (⟨#[]⟩ : ByteArray)) (by kernel_rfl) (congrArg Value.string rfl) (agree_cons (by kernel_rfl) agree_nil)))
    · exact ⟨(by rw [List.append_nil, D0_pos (by omega)]), h0, h1, (hS.sub List.Sublist.slnil)⟩
    rintro ⟨x, ds⟩ g3 w2 ⟨hD, hx0, hx1, hS2⟩
    have hdl := dig_len h0 h1 hD
    refine wp_seq ?_
    refine wp_seq ?_
    refine c_reg ?_
    refine q_seg (S := (fun x_ => St w x_ [])) [(10, Value.bool (!(decide (x = (0 : Int))))), (9, Value.int .i64 x)] [.no, .no] True (by kernel_rfl) trivial hS2 ?_
    refine l_nil rfl ?_
    refine then_n ?_
    rcases Bool.eq_false_or_eq_true (decide (x = (0 : Int))) with hb4 | hb4
    · skip
      have hb4p := of_decide_eq_true hb4
      have hdl := dig_len h0 h1 hD
      refine c_false (b := (!(decide (x = (0 : Int))))) (by kernel_rfl) (nb (v := true) hb4) ?_
      refine wp_exit ?_
      refine then_x ?_
      refine then_x ?_
      refine blk_hit ?_
      refine then_n ?_
      refine wp_seq ?_
      refine wp_seq ?_
      refine c_reg ?_
      refine q_seg (S := (fun x_ => St w x_ [])) [(27, Value.bool (decide (a < (0 : Int)))), (26, Value.int .i64 a)] [.no, .no] True (by kernel_rfl) trivial hS2 ?_
      refine l_nil rfl ?_
      refine then_n ?_
      rcases Bool.eq_false_or_eq_true (decide (a < (0 : Int))) with hb5 | hb5
      · skip
        have hb5p := of_decide_eq_true hb5
        refine c_true (b := (decide (a < (0 : Int)))) (by kernel_rfl) hb5 ?_
        refine wp_seq ?_
        refine c_reg ?_
        refine q_seg (S := (fun x_ => St w x_ [])) [(2, Value.string ((⟨#[45]⟩ : ByteArray) ++ (⟨ds.toArray⟩ : ByteArray))), (29, Value.string ((⟨#[45]⟩ : ByteArray) ++ (⟨ds.toArray⟩ : ByteArray))), (28, Value.string (⟨ds.toArray⟩ : ByteArray))] [.no, .no, .no] ((ByteArray.size (⟨#[45]⟩ : ByteArray) + ByteArray.size (⟨ds.toArray⟩ : ByteArray) ≤ 9223372036854775807)) (by kernel_rfl) (by rw [show (⟨#[45]⟩ : ByteArray).size = 1 from rfl, lsize]; omega) hS2 ?_
        refine l_nil rfl ?_
        refine then_n ?_
        refine wp_ret ?_
        refine then_r ?_
        have hx : x = 0 := by omega
        subst hx
        have hds : ds = Lib.decDigits a.natAbs := hD
        exact c_end (S := (fun x_ => St w x_ [])) (rs := [.tmp 2]) rfl [] (v := Value.string ((⟨#[45]⟩ : ByteArray) ++ (⟨ds.toArray⟩ : ByteArray))) (C := True) (by kernel_rfl) trivial hS2 (((hS2.sub List.Sublist.slnil).rv (congrArg Value.string (by rw [str_minus, hds, itoa_min (by omega)]))))
      · skip
        have hb5p := of_decide_eq_false hb5
        refine c_false (b := (decide (a < (0 : Int)))) (by kernel_rfl) hb5 ?_
        refine wp_skip ?_
        refine then_n ?_
        refine wp_seq ?_
        refine c_reg ?_
        refine q_seg (S := (fun x_ => St w x_ [])) [(2, Value.string (⟨ds.toArray⟩ : ByteArray)), (30, Value.string (⟨ds.toArray⟩ : ByteArray))] [.no, .no] True (by kernel_rfl) trivial hS2 ?_
        refine l_nil rfl ?_
        refine then_n ?_
        refine wp_ret ?_
        have hx : x = 0 := by omega
        subst hx
        have hds : ds = Lib.decDigits a.natAbs := hD
        exact c_end (S := (fun x_ => St w x_ [])) (rs := [.tmp 2]) rfl [] (v := Value.string (⟨ds.toArray⟩ : ByteArray)) (C := True) (by kernel_rfl) trivial hS2 (((hS2.sub List.Sublist.slnil).rv (congrArg Value.string (by rw [hds, itoa_pos (by omega)]))))
    · skip
      have hb4p := of_decide_eq_false hb4
      refine c_true (b := (!(decide (x = (0 : Int))))) (by kernel_rfl) (nb (v := false) hb4) ?_
      refine wp_skip ?_
      refine then_n ?_
      refine wp_seq ?_
      refine wp_block ?_
      refine wp_seq ?_
      refine c_reg ?_
      obtain ⟨y, hy, hya, hyb, hyc⟩ := tm10 x
      refine q_seg (S := (fun x_ => St w x_ [])) [(5, Value.int .i64 y), (14, Value.int .i64 y), (13, Value.int .i64 x)] [.no, .v (.int .i64 y), .no] (((10 : Int) ≠ 0) ∧ (Int.tmod x (10 : Int) = y)) (by kernel_rfl) ⟨(by decide), hy⟩ hS2 ?_
      refine l_nil rfl ?_
      refine then_n ?_
      refine wp_seq ?_
      refine wp_seq ?_
      refine c_reg ?_
      refine q_seg (S := (fun x_ => St w x_ [])) [(16, Value.bool (decide (y < (0 : Int)))), (15, Value.int .i64 y)] [.no, .no] True (by kernel_rfl) trivial hS2 ?_
      refine l_nil rfl ?_
      refine then_n ?_
      rcases Bool.eq_false_or_eq_true (decide (y < (0 : Int))) with hb6 | hb6
      · skip
        have hb6p := of_decide_eq_true hb6
        refine c_true (b := (decide (y < (0 : Int)))) (by kernel_rfl) hb6 ?_
        refine c_reg ?_
        refine q_seg (S := (fun x_ => St w x_ [])) [(5, Value.int .i64 (-y)), (18, Value.int .i64 (-y)), (17, Value.int .i64 y)] [.no, .no, .no] ((InK .i64 (-y))) (by kernel_rfl) (in64 (by omega) (by omega)) hS2 ?_
        refine l_nil rfl ?_
        refine then_n ?_
        refine c_reg ?_
        refine q_seg (S := (fun x_ => St w x_ [])) [(21, Value.int .u8 ((48 : Int) + (-y))), (20, Value.int .i64 ((48 : Int) + (-y))), (19, Value.int .i64 (-y))] [.no, .no, .no] ((InK .i64 ((48 : Int) + (-y))) ∧ (InK .u8 ((48 : Int) + (-y)))) (by kernel_rfl) ⟨(in64 (by omega) (by omega)), (in8 (by omega) (by omega))⟩ hS2 ?_
        refine l_op rfl rfl (fun K hK => op_buildSlice (d := some 22) rfl rfl (e := 5) (by kernel_rfl) 1 (by kernel_rfl) (by decide) (by decide) [Value.int .u8 ((48 : Int) + (-y))] (by kernel_rfl) rfl hS2 (fun blk8 w7 hS7 => hK _ _ ?_))
        clear hK K
        refine q_seg (S := (fun x_ => St w x_ [Res.row (Value.slice (some ⟨blk8, 0, none⟩) 1 1) 5 1 1 ([Value.int .u8 ((48 : Int) + (-y))])])) [(3, Value.string ((bstr ([((48 : Int) + (-y))])) ++ (⟨ds.toArray⟩ : ByteArray))), (25, Value.string ((bstr ([((48 : Int) + (-y))])) ++ (⟨ds.toArray⟩ : ByteArray))), (24, Value.string (⟨ds.toArray⟩ : ByteArray)), (23, Value.string (bstr ([((48 : Int) + (-y))])))] [.v (Value.string (bstr ([((48 : Int) + (-y))]))), .no, .no, .no] ((YieldsAt Try.prog (fun x_ => St w x_ [Res.row (Value.slice (some ⟨blk8, 0, none⟩) 1 1) 5 1 1 ([Value.int .u8 ((48 : Int) + (-y))])]) (convert 26 9 (Value.slice (some ⟨blk8, 0, none⟩) 1 1)) (Value.string (bstr ([((48 : Int) + (-y))])))) ∧ (ByteArray.size (bstr ([((48 : Int) + (-y))])) + ByteArray.size (⟨ds.toArray⟩ : ByteArray) ≤ 9223372036854775807)) (by kernel_rfl) ⟨(conv_b (e := 5) (by kernel_rfl) (by kernel_rfl) (by kernel_rfl) (fun _ hx_ => (hx_.rd (List.mem_of_getElem? (i := 0) rfl)).u1)), (by rw [bsize1, lsize]; omega)⟩ hS7 ?_
        refine l_nil rfl ?_
        refine blk_n ?_
        refine then_n ?_
        refine c_reg ?_
        obtain ⟨z, hz, hza, hzb, hzc⟩ := td10 (x := x) (by omega) (by omega)
        refine q_seg (S := (fun x_ => St w x_ [Res.row (Value.slice (some ⟨blk8, 0, none⟩) 1 1) 5 1 1 ([Value.int .u8 ((48 : Int) + (-y))])])) [(4, Value.int .i64 z), (12, Value.int .i64 z), (11, Value.int .i64 x)] [.no, .v (.int .i64 z), .no] (((10 : Int) ≠ 0) ∧ (IntKind.wrap .i64 (Int.tdiv x (10 : Int)) = z)) (by kernel_rfl) ⟨(by decide), hz⟩ hS7 ?_
        refine l_nil rfl ?_
        refine then_n ?_
        refine round_end ((z, (UInt8.ofNat (Int.toNat ((48 : Int) + (-y))) :: ds))) ?_ ?_ ?_
        · exact (agree_cons (by kernel_rfl) (agree_eq (v0 := Value.string ((bstr ([((48 : Int) + (-y))])) ++ (⟨ds.toArray⟩ : ByteArray))) (by kernel_rfl) (congrArg Value.string (str_cons ((48 : Int) + (-y)) ds)) (agree_cons (by kernel_rfl) agree_nil)))
        · exact ⟨(dig_step (y := y) (c := ((48 : Int) + (-y))) hD hb4p hya hza (by omega)), (by omega), (by omega), hS7.drop⟩
        · exact (by dsimp only; omega)
      · skip
        have hb6p := of_decide_eq_false hb6
        refine c_false (b := (decide (y < (0 : Int)))) (by kernel_rfl) hb6 ?_
        refine wp_skip ?_
        refine then_n ?_
        refine c_reg ?_
        refine q_seg (S := (fun x_ => St w x_ [])) [(21, Value.int .u8 ((48 : Int) + y)), (20, Value.int .i64 ((48 : Int) + y)), (19, Value.int .i64 y)] [.no, .no, .no] ((InK .i64 ((48 : Int) + y)) ∧ (InK .u8 ((48 : Int) + y))) (by kernel_rfl) ⟨(in64 (by omega) (by omega)), (in8 (by omega) (by omega))⟩ hS2 ?_
        refine l_op rfl rfl (fun K hK => op_buildSlice (d := some 22) rfl rfl (e := 5) (by kernel_rfl) 1 (by kernel_rfl) (by decide) (by decide) [Value.int .u8 ((48 : Int) + y)] (by kernel_rfl) rfl hS2 (fun blk10 w9 hS9 => hK _ _ ?_))
        clear hK K
        refine q_seg (S := (fun x_ => St w x_ [Res.row (Value.slice (some ⟨blk10, 0, none⟩) 1 1) 5 1 1 ([Value.int .u8 ((48 : Int) + y)])])) [(3, Value.string ((bstr ([((48 : Int) + y)])) ++ (⟨ds.toArray⟩ : ByteArray))), (25, Value.string ((bstr ([((48 : Int) + y)])) ++ (⟨ds.toArray⟩ : ByteArray))), (24, Value.string (⟨ds.toArray⟩ : ByteArray)), (23, Value.string (bstr ([((48 : Int) + y)])))] [.v (Value.string (bstr ([((48 : Int) + y)]))), .no, .no, .no] ((YieldsAt Try.prog (fun x_ => St w x_ [Res.row (Value.slice (some ⟨blk10, 0, none⟩) 1 1) 5 1 1 ([Value.int .u8 ((48 : Int) + y)])]) (convert 26 9 (Value.slice (some ⟨blk10, 0, none⟩) 1 1)) (Value.string (bstr ([((48 : Int) + y)])))) ∧ (ByteArray.size (bstr ([((48 : Int) + y)])) + ByteArray.size (⟨ds.toArray⟩ : ByteArray) ≤ 9223372036854775807)) (by kernel_rfl) ⟨(conv_b (e := 5) (by kernel_rfl) (by kernel_rfl) (by kernel_rfl) (fun _ hx_ => (hx_.rd (List.mem_of_getElem? (i := 0) rfl)).u1)), (by rw [bsize1, lsize]; omega)⟩ hS9 ?_
        refine l_nil rfl ?_
        refine blk_n ?_
        refine then_n ?_
        refine c_reg ?_
        obtain ⟨z, hz, hza, hzb, hzc⟩ := td10 (x := x) (by omega) (by omega)
        refine q_seg (S := (fun x_ => St w x_ [Res.row (Value.slice (some ⟨blk10, 0, none⟩) 1 1) 5 1 1 ([Value.int .u8 ((48 : Int) + y)])])) [(4, Value.int .i64 z), (12, Value.int .i64 z), (11, Value.int .i64 x)] [.no, .v (.int .i64 z), .no] (((10 : Int) ≠ 0) ∧ (IntKind.wrap .i64 (Int.tdiv x (10 : Int)) = z)) (by kernel_rfl) ⟨(by decide), hz⟩ hS9 ?_
        refine l_nil rfl ?_
        refine then_n ?_
        refine round_end ((z, (UInt8.ofNat (Int.toNat ((48 : Int) + y)) :: ds))) ?_ ?_ ?_
        · exact (agree_cons (by kernel_rfl) (agree_eq (v0 := Value.string ((bstr ([((48 : Int) + y)])) ++ (⟨ds.toArray⟩ : ByteArray))) (by kernel_rfl) (congrArg Value.string (str_cons ((48 : Int) + y) ds)) (agree_cons (by kernel_rfl) agree_nil)))
        · exact ⟨(dig_step (y := y) (c := ((48 : Int) + y)) hD hb4p hya hza (by omega)), (by omega), (by omega), hS9.drop⟩
        · exact (by dsimp only; omega)
theorem l24Text_s_c (n : Int) (w : World) (h0 : -1000000 ≤ n) (h1 : n ≤ 1000000) : Calls Try.prog 93 #[.int .i64 n] w (Ret w (fun v new => ∃ (zs : List Int) (A : Option Addr) (c : Nat), v = .slice A (List.length zs) c ∧ new = [.ro (.slice A (List.length zs) c) (List.length zs) (zs.map (Value.int .u8))] ∧ okz .u8 zs ∧ List.length zs ≤ 21)) := by
  refine calls_FA Try.func93 rfl (n := 7) rfl (l := [(0, Value.int .i64 n)]) rfl (by simp) (fun g => ?_)
  have hS := St.init w
  refine wp_seq ?_
  refine c_reg ?_
  refine q_seg (S := (fun x_ => St w x_ [])) [(2, Value.slice none 0 0)] [.no] True (by kernel_rfl) trivial hS ?_
  refine l_nil rfl ?_
  refine then_n ?_
  refine wp_seq ?_
  refine c_reg ?_
  refine q_seg (S := (fun x_ => St w x_ [])) [(4, Value.int .i64 (n * (7 : Int))), (3, Value.int .i64 n)] [.no, .no] ((InK .i64 (n * (7 : Int)))) (by kernel_rfl) (in64 (by omega) (by omega)) hS ?_
  refine l_op rfl rfl (fun K hK => op_callv (d := some 5) rfl rfl ⟨_, Try.func106, by kernel_rfl, by kernel_rfl⟩ (vs := [Value.int .i64 (n * (7 : Int))]) (by kernel_rfl) (v := Value.string (⟨(Lib.itoa (n * (7 : Int))).toArray⟩ : ByteArray)) (FormatInt_s_c (n * (7 : Int)) w (by omega) (by omega)) hS (fun w1 hS1 => hK _ _ ?_))
  clear hK K
  have hil2 := itoa_len (a := (n * (7 : Int))) (by omega) (by omega)
  refine l_op rfl rfl (fun K hK => op_convS (d := some 6) rfl rfl (s := (⟨(Lib.itoa (n * (7 : Int))).toArray⟩ : ByteArray)) rfl (e := 5) (by kernel_rfl) (by kernel_rfl) (by kernel_rfl) hS1 (fun blk4 cv5 w3 hS3 => hK _ _ ?_))
  clear hK K
  refine q_seg (S := (fun x_ => St w x_ [Res.ro (Value.slice (some ⟨blk4, 0, none⟩) (List.length (bytesZ (⟨(Lib.itoa (n * (7 : Int))).toArray⟩ : ByteArray))) cv5) (List.length (bytesZ (⟨(Lib.itoa (n * (7 : Int))).toArray⟩ : ByteArray))) ((bytesZ (⟨(Lib.itoa (n * (7 : Int))).toArray⟩ : ByteArray)).map (Value.int .u8))])) [(2, Value.slice (some ⟨blk4, 0, none⟩) (List.length (bytesZ (⟨(Lib.itoa (n * (7 : Int))).toArray⟩ : ByteArray))) cv5)] [.no] True (by kernel_rfl) trivial hS3 ?_
  refine l_nil rfl ?_
  refine then_n ?_
  refine wp_ret ?_
  have hil := itoa_len (a := n * 7) (by omega) (by omega)
  exact c_end (S := (fun x_ => St w x_ [Res.ro (Value.slice (some ⟨blk4, 0, none⟩) (List.length (bytesZ (⟨(Lib.itoa (n * (7 : Int))).toArray⟩ : ByteArray))) cv5) (List.length (bytesZ (⟨(Lib.itoa (n * (7 : Int))).toArray⟩ : ByteArray))) ((bytesZ (⟨(Lib.itoa (n * (7 : Int))).toArray⟩ : ByteArray)).map (Value.int .u8))])) (rs := [.tmp 2]) rfl [] (v := Value.slice (some ⟨blk4, 0, none⟩) (List.length (bytesZ (⟨(Lib.itoa (n * (7 : Int))).toArray⟩ : ByteArray))) cv5) (C := True) (by kernel_rfl) trivial hS3 ((hS3.sub (List.Sublist.cons_cons _ List.Sublist.slnil)).rt ⟨(bytesZ (⟨(Lib.itoa (n * (7 : Int))).toArray⟩ : ByteArray)), _, _, rfl, rfl, bytesZ_ok _, by rw [bytesZ_len]; exact hil⟩)
theorem l24DrawRecv_s_c (b : Nat) (A : Option Addr) (n c : Nat) (i h : Int)  (tl : List Res) (w0 w : World) (hS : St w0 w (Res.box b [Value.slice A n c, Value.int .i64 i, Value.int .i64 h] 110 :: tl)) (hC : CurI w0 A n i)  : Calls Try.prog 105 #[.pointer (some ⟨b, 0, none⟩)] w (fun e w' => ∃ v own', e = .returned v ∧ St w0 w' own' ∧ (∃ (i' h' : Int) (a_ : Int) (L_ : List (Int × List Int)) (L_A : Option Addr) (L_c : Nat) (L_y : List It) (D_ : List (Int × List Int)) (D_A : Option Addr) (D_c : Nat) (D_y : List It), v = Value.agg #[Value.int .i64 a_, Value.slice L_A (List.length L_) L_c, Value.slice D_A (List.length D_) D_c] ∧ own' = (Res.win (Value.slice L_A (List.length L_) L_c) 37 2 (List.length L_) (flat true L_y) :: Res.row (Value.slice D_A (List.length D_) D_c) 49 1 (List.length D_) (flat false D_y) :: Res.box b [Value.slice A n c, Value.int .i64 i', Value.int .i64 h'] 110 :: (((L_y.map (It.row .u8 5)) ++ ((D_y.map (It.row .u8 5)) ++ tl)))) ∧ CurI w0 A n i' ∧ (L_y.map (con true) = L_) ∧ (okL .u8 L_) ∧ (D_y.map (con false) = D_) ∧ (okL .u8 D_) ∧ (1 ≤ a_) ∧ (a_ ≤ 25) ∧ (wt L_ + wt D_ ≤ 420))) := by
  obtain ⟨hClo, hChi, hCn, _⟩ := id hC
  refine calls_FA Try.func105 rfl (n := 25) rfl (l := [(0, Value.pointer (some ⟨b, 0, none⟩))]) rfl (by simp) (fun g => ?_)
  refine wp_seq ?_
  refine c_reg ?_
  refine l_op rfl rfl (fun K hK => op_alloc (d := some 2) rfl rfl [Value.int .i64 0, Value.slice none 0 0, Value.slice none 0 0] (by kernel_rfl) hS (fun blk2 w1 hS1 => hK _ _ ?_))
  clear hK K
  refine l_nil rfl ?_
  refine then_n ?_
  refine wp_seq ?_
  refine c_reg ?_
  refine q_seg (S := (fun x_ => St w0 x_ (Res.box blk2 [Value.int .i64 0, Value.slice none 0 0, Value.slice none 0 0] 34 :: Res.box b [Value.slice A n c, Value.int .i64 i, Value.int .i64 h] 110 :: tl))) [(6, Value.agg #[Value.int .i64 1, Value.slice none 0 0, Value.slice none 0 0])] [.no] True (by kernel_rfl) trivial hS1 ?_
  refine l_op rfl rfl (fun K hK => op_alloc (d := some 3) rfl rfl [Value.int .i64 0, Value.slice none 0 0, Value.slice none 0 0] (by kernel_rfl) hS1 (fun blk4 w3 hS3 => hK _ _ ?_))
  clear hK K
  refine l_op rfl rfl (fun K hK => op_store (d := none) rfl rfl (i := 0) (b := blk4) (off := 0) (cs := [Value.int .i64 0, Value.slice none 0 0, Value.slice none 0 0]) (bt := 34) (by kernel_rfl) (by kernel_rfl) [Value.int .i64 1, Value.slice none 0 0, Value.slice none 0 0] (by kernel_rfl) (by kernel_rfl) (Nat.le_of_ble_eq_true (by kernel_rfl)) (by kernel_rfl) (Res.box blk4 [Value.int .i64 1, Value.slice none 0 0, Value.slice none 0 0] 34 :: Res.box blk2 [Value.int .i64 0, Value.slice none 0 0, Value.slice none 0 0] 34 :: Res.box b [Value.slice A n c, Value.int .i64 i, Value.int .i64 h] 110 :: tl) (by kernel_rfl) hS3 (fun w5 hS5 => hK _ _ ?_))
  clear hK K
  refine l_nil rfl ?_
  refine then_n ?_
  refine wp_seq ?_
  refine wp_seq ?_
  refine c_reg ?_
  refine q_seg (S := (fun x_ => St w0 x_ (Res.box blk4 [Value.int .i64 1, Value.slice none 0 0, Value.slice none 0 0] 34 :: Res.box blk2 [Value.int .i64 0, Value.slice none 0 0, Value.slice none 0 0] 34 :: Res.box b [Value.slice A n c, Value.int .i64 i, Value.int .i64 h] 110 :: tl))) [(7, Value.pointer (some ⟨b, 0, none⟩))] [.no] True (by kernel_rfl) trivial hS5 ?_
  refine l_op rfl rfl (fun K hK => op_callm (d := some 8) rfl rfl ⟨_, Try.func92, by kernel_rfl, by kernel_rfl⟩ (vs := [Value.pointer (some ⟨b, 0, none⟩), Value.int .i64 14]) (by kernel_rfl) (l1Below_s_c b A n c i h (14 : Int) _ w0 w5 (hS5.front 2 rfl) hC (by omega)) (fun v7 new8 w6 Rw6 hS6 => ?_))
  obtain ⟨ix10, hx11, xd9, rfl, rfl, hC12, hf13, hf14⟩ := Rw6
  refine hK _ _ ?_
  clear hK K
  refine q_seg (S := (fun x_ => St w0 x_ (Res.box b [Value.slice A n c, Value.int .i64 ix10, Value.int .i64 hx11] 110 :: Res.box blk4 [Value.int .i64 1, Value.slice none 0 0, Value.slice none 0 0] 34 :: Res.box blk2 [Value.int .i64 0, Value.slice none 0 0, Value.slice none 0 0] 34 :: tl))) [(4, Value.int .i64 xd9)] [.no] True (by kernel_rfl) trivial hS6 ?_
  refine l_nil rfl ?_
  refine then_n ?_
  refine wp_block ?_
  have hS6s1 : St w0 w6 (Res.row (Value.slice none 0 0) 49 1 0 (flat false ([] : List It)) :: Res.box b [Value.slice A n c, Value.int .i64 ix10, Value.int .i64 hx11] 110 :: Res.box blk4 [Value.int .i64 1, Value.slice none 0 0, Value.slice none 0 0] 34 :: Res.box blk2 [Value.int .i64 0, Value.slice none 0 0, Value.slice none 0 0] 34 :: tl) := hS6.nilrow 49 1
  have hS6s1s2 : St w0 w6 (Res.win (Value.slice none 0 0) 37 2 0 (flat true ([] : List It)) :: Res.row (Value.slice none 0 0) 49 1 0 (flat false ([] : List It)) :: Res.box b [Value.slice A n c, Value.int .i64 ix10, Value.int .i64 hx11] 110 :: Res.box blk4 [Value.int .i64 1, Value.slice none 0 0, Value.slice none 0 0] 34 :: Res.box blk2 [Value.int .i64 0, Value.slice none 0 0, Value.slice none 0 0] 34 :: ((([] : List It).map (It.row .u8 5)) ++ ((([] : List It).map (It.row .u8 5)) ++ tl))) := hS6s1.nilwin 37 2
  refine c_loop (X := Int × Int × PL × PL × Option Addr × Nat × List It × Option Addr × Nat × List It × Int × Int) (fun (x_ : Int × Int × PL × PL × Option Addr × Nat × List It × Option Addr × Nat × List It × Int × Int) => match x_ with | (j, x, L, D, P, pc, ps, V, vc, ds, ic, hc) => [(0, Value.pointer (some ⟨b, 0, none⟩)), (2, Value.pointer (some ⟨blk2, 0, none⟩)), (3, Value.pointer (some ⟨blk4, 0, none⟩)), (4, Value.int .i64 j)]) (fun (x_ : Int × Int × PL × PL × Option Addr × Nat × List It × Option Addr × Nat × List It × Int × Int) (wr : World) => match x_ with | (j, x, L, D, P, pc, ps, V, vc, ds, ic, hc) => (CurI w0 A n ic) ∧ (0 ≤ j) ∧ (Ok x L D) ∧ (((wt L : Nat) : Int) + ((wt D : Nat) : Int) + 30 * j ≤ 420) ∧ (ps.map (con true) = L) ∧ (ds.map (con false) = D) ∧ (okL .u8 L) ∧ (okL .u8 D) ∧ St w0 wr (Res.win (Value.slice P (List.length L) pc) 37 2 (List.length L) (flat true ps) :: Res.row (Value.slice V (List.length D) vc) 49 1 (List.length D) (flat false ds) :: Res.box b [Value.slice A n c, Value.int .i64 ic, Value.int .i64 hc] 110 :: Res.box blk4 [Value.int .i64 x, Value.slice P (List.length L) pc, Value.slice V (List.length D) vc] 34 :: Res.box blk2 [Value.int .i64 0, Value.slice none 0 0, Value.slice none 0 0] 34 :: ((ps.map (It.row .u8 5)) ++ ((ds.map (It.row .u8 5)) ++ tl)))) (fun (x_ : Int × Int × PL × PL × Option Addr × Nat × List It × Option Addr × Nat × List It × Int × Int) => match x_ with | (j, x, L, D, P, pc, ps, V, vc, ds, ic, hc) => j.toNat) ((xd9, 1, [], [], none, 0, [], none, 0, [], ix10, hx11)) ?_ ?_ ?_
  · exact (agree_cons (by kernel_rfl) (agree_cons (by kernel_rfl) (agree_cons (by kernel_rfl) (agree_cons (by kernel_rfl) agree_nil))))
  · exact ⟨hC12, (by omega), (ord_nil 0).ok, (by simp only [wt]; omega), rfl, rfl, okL.nil, okL.nil, hS6s1s2⟩
  rintro ⟨j, x, L, D, P, pc, ps, V, vc, ds, ic, hc⟩ g16 w15 ⟨hCl, hj0, hOk, hW, hcL, hcD, hokL, hokD, hS15⟩
  obtain ⟨hClo2, hChi2, hCn2, _⟩ := id hCl
  obtain ⟨hOx, hOd, _, _, _⟩ := id hOk
  have hvL := wt_len L
  have hvD := wt_len D
  refine wp_seq ?_
  refine wp_seq ?_
  refine c_reg ?_
  refine q_seg (S := (fun x_ => St w0 x_ (Res.win (Value.slice P (List.length L) pc) 37 2 (List.length L) (flat true ps) :: Res.row (Value.slice V (List.length D) vc) 49 1 (List.length D) (flat false ds) :: Res.box b [Value.slice A n c, Value.int .i64 ic, Value.int .i64 hc] 110 :: Res.box blk4 [Value.int .i64 x, Value.slice P (List.length L) pc, Value.slice V (List.length D) vc] 34 :: Res.box blk2 [Value.int .i64 0, Value.slice none 0 0, Value.slice none 0 0] 34 :: ((ps.map (It.row .u8 5)) ++ ((ds.map (It.row .u8 5)) ++ tl))))) [(10, Value.bool (decide ((0 : Int) < j))), (9, Value.int .i64 j)] [.no, .no] True (by kernel_rfl) trivial hS15 ?_
  refine l_nil rfl ?_
  refine then_n ?_
  rcases Bool.eq_false_or_eq_true (decide ((0 : Int) < j)) with hb17 | hb17
  · skip
    have hb17p := of_decide_eq_true hb17
    refine c_true (b := (decide ((0 : Int) < j))) (by kernel_rfl) hb17 ?_
    refine wp_skip ?_
    refine then_n ?_
    refine wp_seq ?_
    refine wp_block ?_
    refine wp_seq ?_
    refine c_drawnS (S := (fun x_ => St w0 x_ (Res.win (Value.slice P (List.length L) pc) 37 2 (List.length L) (flat true ps) :: Res.row (Value.slice V (List.length D) vc) 49 1 (List.length D) (flat false ds) :: Res.box blk4 [Value.int .i64 x, Value.slice P (List.length L) pc, Value.slice V (List.length D) vc] 34 :: Res.box blk2 [Value.int .i64 0, Value.slice none 0 0, Value.slice none 0 0] 34 :: ((ps.map (It.row .u8 5)) ++ ((ds.map (It.row .u8 5)) ++ tl))))) [] (by kernel_rfl) hS15 (fun w18 hS18 => ?_)
    refine t_seg (S := (fun x_ => St w0 x_ (Res.win (Value.slice P (List.length L) pc) 37 2 (List.length L) (flat true ps) :: Res.row (Value.slice V (List.length D) vc) 49 1 (List.length D) (flat false ds) :: Res.box blk4 [Value.int .i64 x, Value.slice P (List.length L) pc, Value.slice V (List.length D) vc] 34 :: Res.box blk2 [Value.int .i64 0, Value.slice none 0 0, Value.slice none 0 0] 34 :: ((ps.map (It.row .u8 5)) ++ ((ds.map (It.row .u8 5)) ++ tl))))) [(0, .no), (2, .no), (1, .v (Value.int .i64 x))] 3 #[true, true, true, false, false, false] [(14, Value.int .i64 x), (15, Value.pointer (some ⟨b, 0, none⟩)), (13, Value.pointer (some ⟨blk4, 0 + 0, none⟩))] ((LoadsAt Try.prog (fun x_ => St w0 x_ (Res.win (Value.slice P (List.length L) pc) 37 2 (List.length L) (flat true ps) :: Res.row (Value.slice V (List.length D) vc) 49 1 (List.length D) (flat false ds) :: Res.box blk4 [Value.int .i64 x, Value.slice P (List.length L) pc, Value.slice V (List.length D) vc] 34 :: Res.box blk2 [Value.int .i64 0, Value.slice none 0 0, Value.slice none 0 0] 34 :: ((ps.map (It.row .u8 5)) ++ ((ds.map (It.row .u8 5)) ++ tl)))) 3 ⟨blk4, 0 + 0, none⟩ (Value.int .i64 x))) (by kernel_rfl) (Qpanic.then (Qpanic.block (Qpanic.then (Qpanic.then (Qpanic.block (Qpanic.then Qpanic.bp)))))) rfl (by kernel_rfl) (ld_box (i := 2) rfl rfl (by kernel_rfl)) (hS18.sub (List.Sublist.cons_cons _ (List.Sublist.cons_cons _ (List.Sublist.cons _ (List.Sublist.cons_cons _ (List.Sublist.cons_cons _ (List.Sublist.append (List.Sublist.refl _) (List.Sublist.append (List.Sublist.refl _) (List.Sublist.refl _))))))))) ?_
    refine a_op (i := 3) (fuel := 2) (listed' := #[true, true, true, true, false, false]) rfl rfl (by kernel_rfl) (by kernel_rfl) rfl (fun K hK => op_callm (d := some 16) rfl rfl ⟨_, Try.func92, by kernel_rfl, by kernel_rfl⟩ (vs := [Value.pointer (some ⟨b, 0, none⟩), Value.int .i64 4]) (by kernel_rfl) (l1Below_s_c b A n c ic hc (4 : Int) _ w0 w18 (hS18.front 2 rfl) hCl (by omega)) (fun v20 new21 w19 Rw19 hS19 => ?_))
    obtain ⟨ix23, hx24, xd22, rfl, rfl, hC25, hf26, hf27⟩ := Rw19
    refine hK _ _ (fun _ => (hS19.sub (List.Sublist.cons _ (List.Sublist.cons_cons _ (List.Sublist.cons_cons _ (List.Sublist.cons_cons _ (List.Sublist.cons_cons _ (List.Sublist.append (List.Sublist.refl _) (List.Sublist.append (List.Sublist.refl _) (List.Sublist.refl _)))))))))) ?_
    clear hK K
    refine t_seg (S := (fun x_ => St w0 x_ (Res.win (Value.slice P (List.length L) pc) 37 2 (List.length L) (flat true ps) :: Res.row (Value.slice V (List.length D) vc) 49 1 (List.length D) (flat false ds) :: Res.box blk4 [Value.int .i64 x, Value.slice P (List.length L) pc, Value.slice V (List.length D) vc] 34 :: Res.box blk2 [Value.int .i64 0, Value.slice none 0 0, Value.slice none 0 0] 34 :: ((ps.map (It.row .u8 5)) ++ ((ds.map (It.row .u8 5)) ++ tl))))) [(4, .no), (5, .no)] 0 #[true, true, true, true, true, true] [(5, Value.int .i64 (x + xd22)), (17, Value.int .i64 (x + xd22))] ((InK .i64 (x + xd22))) (by kernel_rfl) (Qpanic.then (Qpanic.block (Qpanic.then (Qpanic.then (Qpanic.block (Qpanic.then Qpanic.bp)))))) rfl (by kernel_rfl) (in64 (by omega) (by omega)) (hS19.drop) ?_
    refine a_done (by kernel_rfl) ?_
    refine then_n ?_
    refine c_drawn [6] (by kernel_rfl) hS19 (fun w28 hS28 => ?_)
    refine t_seg (S := (fun x_ => St w0 x_ (Res.box b [Value.slice A n c, Value.int .i64 ix23, Value.int .i64 hx24] 110 :: Res.win (Value.slice P (List.length L) pc) 37 2 (List.length L) (flat true ps) :: Res.row (Value.slice V (List.length D) vc) 49 1 (List.length D) (flat false ds) :: Res.box blk4 [Value.int .i64 x, Value.slice P (List.length L) pc, Value.slice V (List.length D) vc] 34 :: Res.box blk2 [Value.int .i64 0, Value.slice none 0 0, Value.slice none 0 0] 34 :: ((ps.map (It.row .u8 5)) ++ ((ds.map (It.row .u8 5)) ++ tl))))) [(0, .v (Value.agg #[Value.int .i64 x, Value.slice P (List.length L) pc, Value.slice V (List.length D) vc])), (1, .no), (2, .no)] 4 #[true, true, true, false, false, false, false] [(20, Value.int .i64 (x + xd22)), (19, Value.int .i64 (x + xd22)), (18, Value.agg #[Value.int .i64 x, Value.slice P (List.length L) pc, Value.slice V (List.length D) vc])] ((LoadsAt Try.prog (fun x_ => St w0 x_ (Res.box b [Value.slice A n c, Value.int .i64 ix23, Value.int .i64 hx24] 110 :: Res.win (Value.slice P (List.length L) pc) 37 2 (List.length L) (flat true ps) :: Res.row (Value.slice V (List.length D) vc) 49 1 (List.length D) (flat false ds) :: Res.box blk4 [Value.int .i64 x, Value.slice P (List.length L) pc, Value.slice V (List.length D) vc] 34 :: Res.box blk2 [Value.int .i64 0, Value.slice none 0 0, Value.slice none 0 0] 34 :: ((ps.map (It.row .u8 5)) ++ ((ds.map (It.row .u8 5)) ++ tl)))) 34 ⟨blk4, 0, none⟩ (Value.agg #[Value.int .i64 x, Value.slice P (List.length L) pc, Value.slice V (List.length D) vc]))) (by kernel_rfl) (Qpanic.block (Qpanic.then (Qpanic.then (Qpanic.block (Qpanic.then Qpanic.bp))))) rfl (by kernel_rfl) (ld_boxN (i := 3) (k := 3) rfl rfl rfl (by kernel_rfl)) hS28 ?_
    refine a_op (i := 3) (fuel := 3) (listed' := #[true, true, true, true, false, false, false]) rfl rfl (by kernel_rfl) (by kernel_rfl) rfl (fun K hK => op_call (d := some 21) rfl rfl ⟨_, Try.func93, by kernel_rfl, by kernel_rfl⟩ (vs := [Value.int .i64 (x + xd22)]) (by kernel_rfl) (l24Text_s_c (x + xd22) w28 (by omega) (by omega)) hS28 (fun v30 new31 w29 Rw29 hS29 => hK _ _ (fun _ => hS29.after) ?_))
    clear hK K
    obtain ⟨zt32, zt32A, zt32c, rfl, rfl, zt32o, zt32l⟩ := Rw29
    refine t_seg (S := (fun x_ => St w0 x_ (Res.box b [Value.slice A n c, Value.int .i64 ix23, Value.int .i64 hx24] 110 :: Res.win (Value.slice P (List.length L) pc) 37 2 (List.length L) (flat true ps) :: Res.row (Value.slice V (List.length D) vc) 49 1 (List.length D) (flat false ds) :: Res.box blk4 [Value.int .i64 x, Value.slice P (List.length L) pc, Value.slice V (List.length D) vc] 34 :: Res.box blk2 [Value.int .i64 0, Value.slice none 0 0, Value.slice none 0 0] 34 :: ((ps.map (It.row .u8 5)) ++ ((ds.map (It.row .u8 5)) ++ tl))))) [(4, .no)] 2 #[true, true, true, true, true, false, false] [(22, Value.agg #[Value.int .i64 (x + xd22), Value.slice zt32A (List.length zt32) zt32c])] True (by kernel_rfl) (Qpanic.block (Qpanic.then (Qpanic.then (Qpanic.block (Qpanic.then Qpanic.bp))))) rfl (by kernel_rfl) trivial (hS29.drop) ?_
    refine a_op (i := 5) (fuel := 1) (listed' := #[true, true, true, true, true, true, false]) rfl rfl (by kernel_rfl) (by kernel_rfl) rfl (fun K hK => op_call (d := some 23) rfl rfl ⟨_, Try.func16, by kernel_rfl, by kernel_rfl⟩ (vs := [Value.agg #[Value.int .i64 x, Value.slice P (List.length L) pc, Value.slice V (List.length D) vc], Value.agg #[Value.int .i64 (x + xd22), Value.slice zt32A (List.length zt32) zt32c]]) (by kernel_rfl) (ReceivePacket_s_c x P (List.length L) pc L V (List.length D) vc D (x + xd22) zt32A (List.length zt32) zt32c zt32 w29 (i64 (by omega) (by omega)) (hS29.rdlw (κ := .u8) (p := true) (tb := 5) (ys := ps) (List.mem_of_getElem? (i := 2) rfl) (fun y_ hy_ => (List.mem_cons_of_mem _ (List.mem_cons_of_mem _ (List.mem_cons_of_mem _ (List.mem_cons_of_mem _ (List.mem_cons_of_mem _ (List.mem_cons_of_mem _ (List.mem_append_left _ (List.mem_map_of_mem hy_))))))))) hcL hokL rfl) (by omega) (hS29.rdl (κ := .u8) (p := false) (tb := 5) (ys := ds) (List.mem_of_getElem? (i := 3) rfl) (fun y_ hy_ => (List.mem_cons_of_mem _ (List.mem_cons_of_mem _ (List.mem_cons_of_mem _ (List.mem_cons_of_mem _ (List.mem_cons_of_mem _ (List.mem_cons_of_mem _ (List.mem_append_right _ (List.mem_append_left _ (List.mem_map_of_mem hy_)))))))))) hcD hokD rfl) (by omega) (i64 (by omega) (by omega)) (hS29.rdro (List.mem_of_getElem? (i := 0) rfl)) (by omega) zt32o) hS29 (fun v35 new36 w33 Rw33 hS33 => hK _ _ (fun _ => hS33.after.drop) ?_))
    clear hK K
    have hlq34o0 : okL .u8 (rvL x L D (x + xd22) zt32) := (rv_ok (a := x) hokL hokD (i64 (by omega) (by omega)) zt32o).1
    have hlq34l0 : List.length (rvL x L D (x + xd22) zt32) = (List.length (rvL x L D (x + xd22) zt32)) := rfl
    have hlq34v0 := wt_len (rvL x L D (x + xd22) zt32)
    have hlq34o1 : okL .u8 (rvD x L D (x + xd22) zt32) := (rv_ok (a := x) hokL hokD (i64 (by omega) (by omega)) zt32o).2
    have hlq34l1 : List.length (rvD x L D (x + xd22) zt32) = (List.length (rvD x L D (x + xd22) zt32)) := rfl
    have hlq34v1 := wt_len (rvD x L D (x + xd22) zt32)
    have hlq34w := rv_wt (a := x) (L := L) (D := D) (s := (x + xd22)) (z := zt32)
    obtain ⟨Aq37, cq38, yq39, Aq41, cq42, yq43, rfl, rfl, hcq40, hcq44⟩ := Rw33
    have hS33r : St w0 w33 (Res.win (Value.slice Aq37 (List.length (rvL x L D (x + xd22) zt32)) cq38) 37 2 (List.length (rvL x L D (x + xd22) zt32)) (flat true yq39) :: Res.row (Value.slice Aq41 (List.length (rvD x L D (x + xd22) zt32)) cq42) 49 1 (List.length (rvD x L D (x + xd22) zt32)) (flat false yq43) :: Res.ro (Value.slice zt32A (List.length zt32) zt32c) (List.length zt32) (zt32.map (Value.int .u8)) :: Res.box b [Value.slice A n c, Value.int .i64 ix23, Value.int .i64 hx24] 110 :: Res.win (Value.slice P (List.length L) pc) 37 2 (List.length L) (flat true ps) :: Res.row (Value.slice V (List.length D) vc) 49 1 (List.length D) (flat false ds) :: Res.box blk4 [Value.int .i64 x, Value.slice P (List.length L) pc, Value.slice V (List.length D) vc] 34 :: Res.box blk2 [Value.int .i64 0, Value.slice none 0 0, Value.slice none 0 0] 34 :: ((yq39.map (It.row .u8 5)) ++ ((yq43.map (It.row .u8 5)) ++ ((ps.map (It.row .u8 5)) ++ ((ds.map (It.row .u8 5)) ++ tl))))) := St.rot_2 [Res.win (Value.slice Aq37 (List.length (rvL x L D (x + xd22) zt32)) cq38) 37 2 (List.length (rvL x L D (x + xd22) zt32)) (flat true yq39), Res.row (Value.slice Aq41 (List.length (rvD x L D (x + xd22) zt32)) cq42) 49 1 (List.length (rvD x L D (x + xd22) zt32)) (flat false yq43)] [Res.ro (Value.slice zt32A (List.length zt32) zt32c) (List.length zt32) (zt32.map (Value.int .u8)), Res.box b [Value.slice A n c, Value.int .i64 ix23, Value.int .i64 hx24] 110, Res.win (Value.slice P (List.length L) pc) 37 2 (List.length L) (flat true ps), Res.row (Value.slice V (List.length D) vc) 49 1 (List.length D) (flat false ds), Res.box blk4 [Value.int .i64 x, Value.slice P (List.length L) pc, Value.slice V (List.length D) vc] 34, Res.box blk2 [Value.int .i64 0, Value.slice none 0 0, Value.slice none 0 0] 34] ((ps.map (It.row .u8 5)) ++ ((ds.map (It.row .u8 5)) ++ tl)) (yq39.map (It.row .u8 5)) (yq43.map (It.row .u8 5)) hS33
    have hK := rv_keep (s := (x + xd22)) (z := zt32) hOk
    have hrw := rv_wt (a := x) (L := L) (D := D) (s := (x + xd22)) (z := zt32)
    refine a_op (i := 6) (fuel := 0) (listed' := #[true, true, true, true, true, true, true]) rfl rfl (by kernel_rfl) (by kernel_rfl) rfl (fun K hK => op_store (d := none) rfl rfl (i := 6) (b := blk4) (off := 0) (cs := [Value.int .i64 x, Value.slice P (List.length L) pc, Value.slice V (List.length D) vc]) (bt := 34) (by kernel_rfl) (by kernel_rfl) [Value.int .i64 (rvA x L D (x + xd22) zt32), Value.slice Aq37 (List.length (rvL x L D (x + xd22) zt32)) cq38, Value.slice Aq41 (List.length (rvD x L D (x + xd22) zt32)) cq42] (by kernel_rfl) (by kernel_rfl) (Nat.le_of_ble_eq_true (by kernel_rfl)) (by kernel_rfl) (Res.win (Value.slice Aq37 (List.length (rvL x L D (x + xd22) zt32)) cq38) 37 2 (List.length (rvL x L D (x + xd22) zt32)) (flat true yq39) :: Res.row (Value.slice Aq41 (List.length (rvD x L D (x + xd22) zt32)) cq42) 49 1 (List.length (rvD x L D (x + xd22) zt32)) (flat false yq43) :: Res.ro (Value.slice zt32A (List.length zt32) zt32c) (List.length zt32) (zt32.map (Value.int .u8)) :: Res.box b [Value.slice A n c, Value.int .i64 ix23, Value.int .i64 hx24] 110 :: Res.win (Value.slice P (List.length L) pc) 37 2 (List.length L) (flat true ps) :: Res.row (Value.slice V (List.length D) vc) 49 1 (List.length D) (flat false ds) :: Res.box blk4 [Value.int .i64 (rvA x L D (x + xd22) zt32), Value.slice Aq37 (List.length (rvL x L D (x + xd22) zt32)) cq38, Value.slice Aq41 (List.length (rvD x L D (x + xd22) zt32)) cq42] 34 :: Res.box blk2 [Value.int .i64 0, Value.slice none 0 0, Value.slice none 0 0] 34 :: ((yq39.map (It.row .u8 5)) ++ ((yq43.map (It.row .u8 5)) ++ ((ps.map (It.row .u8 5)) ++ ((ds.map (It.row .u8 5)) ++ tl))))) (by kernel_rfl) hS33r (fun w45 hS45 => hK _ _ (fun h => absurd h (by decide)) ?_))
    clear hK K
    refine a_done (by kernel_rfl) ?_
    refine blk_n ?_
    refine then_n ?_
    refine c_reg ?_
    refine q_seg (S := (fun x_ => St w0 x_ (Res.win (Value.slice Aq37 (List.length (rvL x L D (x + xd22) zt32)) cq38) 37 2 (List.length (rvL x L D (x + xd22) zt32)) (flat true yq39) :: Res.row (Value.slice Aq41 (List.length (rvD x L D (x + xd22) zt32)) cq42) 49 1 (List.length (rvD x L D (x + xd22) zt32)) (flat false yq43) :: Res.ro (Value.slice zt32A (List.length zt32) zt32c) (List.length zt32) (zt32.map (Value.int .u8)) :: Res.box b [Value.slice A n c, Value.int .i64 ix23, Value.int .i64 hx24] 110 :: Res.win (Value.slice P (List.length L) pc) 37 2 (List.length L) (flat true ps) :: Res.row (Value.slice V (List.length D) vc) 49 1 (List.length D) (flat false ds) :: Res.box blk4 [Value.int .i64 (rvA x L D (x + xd22) zt32), Value.slice Aq37 (List.length (rvL x L D (x + xd22) zt32)) cq38, Value.slice Aq41 (List.length (rvD x L D (x + xd22) zt32)) cq42] 34 :: Res.box blk2 [Value.int .i64 0, Value.slice none 0 0, Value.slice none 0 0] 34 :: ((yq39.map (It.row .u8 5)) ++ ((yq43.map (It.row .u8 5)) ++ ((ps.map (It.row .u8 5)) ++ ((ds.map (It.row .u8 5)) ++ tl))))))) [(4, Value.int .i64 (j - (1 : Int))), (12, Value.int .i64 (j - (1 : Int))), (11, Value.int .i64 j)] [.no, .no, .no] ((InK .i64 (j - (1 : Int)))) (by kernel_rfl) (in64 (by omega) (by omega)) hS45 ?_
    refine l_nil rfl ?_
    refine then_n ?_
    have hS45s3 : St w0 w45 (Res.win (Value.slice Aq37 (List.length (rvL x L D (x + xd22) zt32)) cq38) 37 2 (List.length (rvL x L D (x + xd22) zt32)) (flat true yq39) :: Res.row (Value.slice Aq41 (List.length (rvD x L D (x + xd22) zt32)) cq42) 49 1 (List.length (rvD x L D (x + xd22) zt32)) (flat false yq43) :: Res.box b [Value.slice A n c, Value.int .i64 ix23, Value.int .i64 hx24] 110 :: Res.box blk4 [Value.int .i64 (rvA x L D (x + xd22) zt32), Value.slice Aq37 (List.length (rvL x L D (x + xd22) zt32)) cq38, Value.slice Aq41 (List.length (rvD x L D (x + xd22) zt32)) cq42] 34 :: Res.box blk2 [Value.int .i64 0, Value.slice none 0 0, Value.slice none 0 0] 34 :: ((yq39.map (It.row .u8 5)) ++ ((yq43.map (It.row .u8 5)) ++ tl))) := (hS45.sub (List.Sublist.cons_cons _ (List.Sublist.cons_cons _ (List.Sublist.cons _ (List.Sublist.cons_cons _ (List.Sublist.cons _ (List.Sublist.cons _ (List.Sublist.cons_cons _ (List.Sublist.cons_cons _ (List.Sublist.append (List.Sublist.refl _) (List.Sublist.append (List.Sublist.refl _) (List.Sublist.trans (List.Sublist.trans (List.Sublist.refl _) (List.sublist_append_right _ _)) (List.sublist_append_right _ _)))))))))))))
    refine round_end ((j - 1, (rvA x L D (x + xd22) zt32), (rvL x L D (x + xd22) zt32), (rvD x L D (x + xd22) zt32), Aq37, cq38, yq39, Aq41, cq42, yq43, ix23, hx24)) ?_ ?_ ?_
    · exact (agree_cons (by kernel_rfl) (agree_cons (by kernel_rfl) (agree_cons (by kernel_rfl) (agree_cons (by kernel_rfl) agree_nil))))
    · exact ⟨hC25, (by omega), hK.1, (by omega), hcq40, hcq44, hlq34o0, hlq34o1, hS45s3⟩
    · exact (by first | omega | (dsimp only; omega))
  · skip
    have hb17p := of_decide_eq_false hb17
    refine c_false (b := (decide ((0 : Int) < j))) (by kernel_rfl) hb17 ?_
    refine wp_exit ?_
    refine then_x ?_
    refine then_x ?_
    refine blk_hit ?_
    refine then_n ?_
    refine wp_seq ?_
    refine c_reg ?_
    refine q_seg (S := (fun x_ => St w0 x_ (Res.win (Value.slice P (List.length L) pc) 37 2 (List.length L) (flat true ps) :: Res.row (Value.slice V (List.length D) vc) 49 1 (List.length D) (flat false ds) :: Res.box b [Value.slice A n c, Value.int .i64 ic, Value.int .i64 hc] 110 :: Res.box blk4 [Value.int .i64 x, Value.slice P (List.length L) pc, Value.slice V (List.length D) vc] 34 :: Res.box blk2 [Value.int .i64 0, Value.slice none 0 0, Value.slice none 0 0] 34 :: ((ps.map (It.row .u8 5)) ++ ((ds.map (It.row .u8 5)) ++ tl))))) [(24, Value.agg #[Value.int .i64 x, Value.slice P (List.length L) pc, Value.slice V (List.length D) vc])] [.v (Value.agg #[Value.int .i64 x, Value.slice P (List.length L) pc, Value.slice V (List.length D) vc])] ((LoadsAt Try.prog (fun x_ => St w0 x_ (Res.win (Value.slice P (List.length L) pc) 37 2 (List.length L) (flat true ps) :: Res.row (Value.slice V (List.length D) vc) 49 1 (List.length D) (flat false ds) :: Res.box b [Value.slice A n c, Value.int .i64 ic, Value.int .i64 hc] 110 :: Res.box blk4 [Value.int .i64 x, Value.slice P (List.length L) pc, Value.slice V (List.length D) vc] 34 :: Res.box blk2 [Value.int .i64 0, Value.slice none 0 0, Value.slice none 0 0] 34 :: ((ps.map (It.row .u8 5)) ++ ((ds.map (It.row .u8 5)) ++ tl)))) 34 ⟨blk4, 0, none⟩ (Value.agg #[Value.int .i64 x, Value.slice P (List.length L) pc, Value.slice V (List.length D) vc]))) (by kernel_rfl) (ld_boxN (i := 3) (k := 3) rfl rfl rfl (by kernel_rfl)) hS15 ?_
    refine l_op rfl rfl (fun K hK => op_store (d := none) rfl rfl (i := 4) (b := blk2) (off := 0) (cs := [Value.int .i64 0, Value.slice none 0 0, Value.slice none 0 0]) (bt := 34) (by kernel_rfl) (by kernel_rfl) [Value.int .i64 x, Value.slice P (List.length L) pc, Value.slice V (List.length D) vc] (by kernel_rfl) (by kernel_rfl) (Nat.le_of_ble_eq_true (by kernel_rfl)) (by kernel_rfl) (Res.win (Value.slice P (List.length L) pc) 37 2 (List.length L) (flat true ps) :: Res.row (Value.slice V (List.length D) vc) 49 1 (List.length D) (flat false ds) :: Res.box b [Value.slice A n c, Value.int .i64 ic, Value.int .i64 hc] 110 :: Res.box blk4 [Value.int .i64 x, Value.slice P (List.length L) pc, Value.slice V (List.length D) vc] 34 :: Res.box blk2 [Value.int .i64 x, Value.slice P (List.length L) pc, Value.slice V (List.length D) vc] 34 :: ((ps.map (It.row .u8 5)) ++ ((ds.map (It.row .u8 5)) ++ tl))) (by kernel_rfl) hS15 (fun w46 hS46 => hK _ _ ?_))
    clear hK K
    refine l_nil rfl ?_
    refine then_n ?_
    refine wp_ret ?_
    have hS46s4 : St w0 w46 (Res.win (Value.slice P (List.length L) pc) 37 2 (List.length L) (flat true ps) :: Res.row (Value.slice V (List.length D) vc) 49 1 (List.length D) (flat false ds) :: Res.box b [Value.slice A n c, Value.int .i64 ic, Value.int .i64 hc] 110 :: ((ps.map (It.row .u8 5)) ++ ((ds.map (It.row .u8 5)) ++ tl))) := (hS46.sub (List.Sublist.cons_cons _ (List.Sublist.cons_cons _ (List.Sublist.cons_cons _ (List.Sublist.cons _ (List.Sublist.cons _ (List.Sublist.append (List.Sublist.refl _) (List.Sublist.append (List.Sublist.refl _) (List.Sublist.refl _)))))))))
    have hSo := St.inB [Res.win (Value.slice P (List.length L) pc) 37 2 (List.length L) (flat true ps), Res.row (Value.slice V (List.length D) vc) 49 1 (List.length D) (flat false ds), Res.box b [Value.slice A n c, Value.int .i64 ic, Value.int .i64 hc] 110] [] [(ps.map (It.row .u8 5)), (ds.map (It.row .u8 5))] tl hS46s4
    obtain ⟨hOx, hOd, _, _, _⟩ := id hOk
    exact c_end (S := (fun x_ => St w0 x_ (Res.win (Value.slice P (List.length L) pc) 37 2 (List.length L) (flat true ps) :: Res.row (Value.slice V (List.length D) vc) 49 1 (List.length D) (flat false ds) :: Res.box b [Value.slice A n c, Value.int .i64 ic, Value.int .i64 hc] 110 :: Res.box blk4 [Value.int .i64 x, Value.slice P (List.length L) pc, Value.slice V (List.length D) vc] 34 :: Res.box blk2 [Value.int .i64 x, Value.slice P (List.length L) pc, Value.slice V (List.length D) vc] 34 :: ((ps.map (It.row .u8 5)) ++ ((ds.map (It.row .u8 5)) ++ tl))))) (rs := [.cell 2 34]) rfl [Value.agg #[Value.int .i64 x, Value.slice P (List.length L) pc, Value.slice V (List.length D) vc]] (v := Value.agg #[Value.int .i64 x, Value.slice P (List.length L) pc, Value.slice V (List.length D) vc]) (C := ((LoadsAt Try.prog (fun x_ => St w0 x_ (Res.win (Value.slice P (List.length L) pc) 37 2 (List.length L) (flat true ps) :: Res.row (Value.slice V (List.length D) vc) 49 1 (List.length D) (flat false ds) :: Res.box b [Value.slice A n c, Value.int .i64 ic, Value.int .i64 hc] 110 :: Res.box blk4 [Value.int .i64 x, Value.slice P (List.length L) pc, Value.slice V (List.length D) vc] 34 :: Res.box blk2 [Value.int .i64 x, Value.slice P (List.length L) pc, Value.slice V (List.length D) vc] 34 :: ((ps.map (It.row .u8 5)) ++ ((ds.map (It.row .u8 5)) ++ tl)))) 34 ⟨blk2, 0, none⟩ (Value.agg #[Value.int .i64 x, Value.slice P (List.length L) pc, Value.slice V (List.length D) vc])))) (by kernel_rfl) (ld_boxN (i := 4) (k := 3) rfl rfl rfl (by kernel_rfl)) hS46 (⟨_, _, rfl, hSo, ic, hc, x, L, P, pc, ps, D, V, vc, ds, rfl, rfl, hCl, hcL, hokL, hcD, hokD, (by omega), (by omega), (by omega)⟩)
theorem l24AnyRecv_s_c (b : Nat) (A : Option Addr) (n c : Nat) (i h : Int)  (tl : List Res) (w0 w : World) (hS : St w0 w (Res.box b [Value.slice A n c, Value.int .i64 i, Value.int .i64 h] 110 :: tl)) (hC : CurI w0 A n i)  : Calls Try.prog 91 #[.pointer (some ⟨b, 0, none⟩)] w (fun e w' => ∃ v own', e = .returned v ∧ St w0 w' own' ∧ (∃ (i' h' : Int) (a_ : Int) (L_ : List (Int × List Int)) (L_A : Option Addr) (L_c : Nat) (L_y : List It) (D_ : List (Int × List Int)) (D_A : Option Addr) (D_c : Nat) (D_y : List It), v = Value.agg #[Value.int .i64 a_, Value.slice L_A (List.length L_) L_c, Value.slice D_A (List.length D_) D_c] ∧ own' = (Res.win (Value.slice L_A (List.length L_) L_c) 37 2 (List.length L_) (flat true L_y) :: Res.row (Value.slice D_A (List.length D_) D_c) 49 1 (List.length D_) (flat false D_y) :: Res.box b [Value.slice A n c, Value.int .i64 i', Value.int .i64 h'] 110 :: (((L_y.map (It.row .u8 5)) ++ ((D_y.map (It.row .u8 5)) ++ tl)))) ∧ CurI w0 A n i' ∧ (L_y.map (con true) = L_) ∧ (okL .u8 L_) ∧ (D_y.map (con false) = D_) ∧ (okL .u8 D_) ∧ (0 ≤ a_) ∧ (a_ ≤ 26) ∧ (wt L_ + wt D_ ≤ 430))) := by
  obtain ⟨hClo, hChi, hCn, _⟩ := id hC
  refine calls_FA Try.func91 rfl (n := 31) rfl (l := [(0, Value.pointer (some ⟨b, 0, none⟩))]) rfl (by simp) (fun g => ?_)
  refine wp_seq ?_
  refine c_reg ?_
  refine l_op rfl rfl (fun K hK => op_alloc (d := some 2) rfl rfl [Value.int .i64 0, Value.slice none 0 0, Value.slice none 0 0] (by kernel_rfl) hS (fun blk2 w1 hS1 => hK _ _ ?_))
  clear hK K
  refine l_nil rfl ?_
  refine then_n ?_
  refine wp_seq ?_
  refine c_reg ?_
  refine q_seg (S := (fun x_ => St w0 x_ (Res.box blk2 [Value.int .i64 0, Value.slice none 0 0, Value.slice none 0 0] 34 :: Res.box b [Value.slice A n c, Value.int .i64 i, Value.int .i64 h] 110 :: tl))) [(4, Value.pointer (some ⟨b, 0, none⟩))] [.no] True (by kernel_rfl) trivial hS1 ?_
  refine l_op rfl rfl (fun K hK => op_callm (d := some 5) rfl rfl ⟨_, Try.func105, by kernel_rfl, by kernel_rfl⟩ (vs := [Value.pointer (some ⟨b, 0, none⟩)]) (by kernel_rfl) (l24DrawRecv_s_c b A n c i h  _ w0 w1 (hS1.front 1 rfl) hC ) (fun v4 new5 w3 Rw3 hS3 => ?_))
  obtain ⟨ix9, hx10, ad6, ld7, ld7A, ld7c, ld7y, ld8, ld8A, ld8c, ld8y, rfl, rfl, hC11, ld7q, ld7o, ld8q, ld8o, hf12, hf13, hf14⟩ := Rw3
  have hS3r : St w0 w3 (Res.win (Value.slice ld7A (List.length ld7) ld7c) 37 2 (List.length ld7) (flat true ld7y) :: Res.row (Value.slice ld8A (List.length ld8) ld8c) 49 1 (List.length ld8) (flat false ld8y) :: Res.box b [Value.slice A n c, Value.int .i64 ix9, Value.int .i64 hx10] 110 :: Res.box blk2 [Value.int .i64 0, Value.slice none 0 0, Value.slice none 0 0] 34 :: ((ld7y.map (It.row .u8 5)) ++ ((ld8y.map (It.row .u8 5)) ++ tl))) := St.outB [Res.win (Value.slice ld7A (List.length ld7) ld7c) 37 2 (List.length ld7) (flat true ld7y), Res.row (Value.slice ld8A (List.length ld8) ld8c) 49 1 (List.length ld8) (flat false ld8y), Res.box b [Value.slice A n c, Value.int .i64 ix9, Value.int .i64 hx10] 110] [Res.box blk2 [Value.int .i64 0, Value.slice none 0 0, Value.slice none 0 0] 34] [(ld7y.map (It.row .u8 5)), (ld8y.map (It.row .u8 5))] tl hS3
  have ld7w := wt_len ld7
  have ld8w := wt_len ld8
  refine hK _ _ ?_
  clear hK K
  refine l_op rfl rfl (fun K hK => op_alloc (d := some 3) rfl rfl [Value.int .i64 0, Value.slice none 0 0, Value.slice none 0 0] (by kernel_rfl) hS3r (fun blk16 w15 hS15 => hK _ _ ?_))
  clear hK K
  refine l_op rfl rfl (fun K hK => op_store (d := none) rfl rfl (i := 0) (b := blk16) (off := 0) (cs := [Value.int .i64 0, Value.slice none 0 0, Value.slice none 0 0]) (bt := 34) (by kernel_rfl) (by kernel_rfl) [Value.int .i64 ad6, Value.slice ld7A (List.length ld7) ld7c, Value.slice ld8A (List.length ld8) ld8c] (by kernel_rfl) (by kernel_rfl) (Nat.le_of_ble_eq_true (by kernel_rfl)) (by kernel_rfl) (Res.box blk16 [Value.int .i64 ad6, Value.slice ld7A (List.length ld7) ld7c, Value.slice ld8A (List.length ld8) ld8c] 34 :: Res.win (Value.slice ld7A (List.length ld7) ld7c) 37 2 (List.length ld7) (flat true ld7y) :: Res.row (Value.slice ld8A (List.length ld8) ld8c) 49 1 (List.length ld8) (flat false ld8y) :: Res.box b [Value.slice A n c, Value.int .i64 ix9, Value.int .i64 hx10] 110 :: Res.box blk2 [Value.int .i64 0, Value.slice none 0 0, Value.slice none 0 0] 34 :: ((ld7y.map (It.row .u8 5)) ++ ((ld8y.map (It.row .u8 5)) ++ tl))) (by kernel_rfl) hS15 (fun w17 hS17 => hK _ _ ?_))
  clear hK K
  refine l_nil rfl ?_
  refine then_n ?_
  refine wp_seq ?_
  refine wp_seq ?_
  refine c_reg ?_
  refine q_seg (S := (fun x_ => St w0 x_ (Res.box blk16 [Value.int .i64 ad6, Value.slice ld7A (List.length ld7) ld7c, Value.slice ld8A (List.length ld8) ld8c] 34 :: Res.win (Value.slice ld7A (List.length ld7) ld7c) 37 2 (List.length ld7) (flat true ld7y) :: Res.row (Value.slice ld8A (List.length ld8) ld8c) 49 1 (List.length ld8) (flat false ld8y) :: Res.box b [Value.slice A n c, Value.int .i64 ix9, Value.int .i64 hx10] 110 :: Res.box blk2 [Value.int .i64 0, Value.slice none 0 0, Value.slice none 0 0] 34 :: ((ld7y.map (It.row .u8 5)) ++ ((ld8y.map (It.row .u8 5)) ++ tl))))) [(6, Value.pointer (some ⟨b, 0, none⟩))] [.no] True (by kernel_rfl) trivial hS17 ?_
  refine l_op rfl rfl (fun K hK => op_callm (d := some 7) rfl rfl ⟨_, Try.func92, by kernel_rfl, by kernel_rfl⟩ (vs := [Value.pointer (some ⟨b, 0, none⟩), Value.int .i64 8]) (by kernel_rfl) (l1Below_s_c b A n c ix9 hx10 (8 : Int) _ w0 w17 (hS17.front 3 rfl) hC11 (by omega)) (fun v19 new20 w18 Rw18 hS18 => ?_))
  obtain ⟨ix22, hx23, xd21, rfl, rfl, hC24, hf25, hf26⟩ := Rw18
  refine hK _ _ ?_
  clear hK K
  refine l_nil rfl ?_
  refine then_n ?_
  refine wp_block ?_
  refine wp_seq ?_
  refine c_reg ?_
  refine q_seg (S := (fun x_ => St w0 x_ (Res.box b [Value.slice A n c, Value.int .i64 ix22, Value.int .i64 hx23] 110 :: Res.box blk16 [Value.int .i64 ad6, Value.slice ld7A (List.length ld7) ld7c, Value.slice ld8A (List.length ld8) ld8c] 34 :: Res.win (Value.slice ld7A (List.length ld7) ld7c) 37 2 (List.length ld7) (flat true ld7y) :: Res.row (Value.slice ld8A (List.length ld8) ld8c) 49 1 (List.length ld8) (flat false ld8y) :: Res.box blk2 [Value.int .i64 0, Value.slice none 0 0, Value.slice none 0 0] 34 :: ((ld7y.map (It.row .u8 5)) ++ ((ld8y.map (It.row .u8 5)) ++ tl))))) [(8, Value.bool (decide (xd21 = (0 : Int)))), (9, Value.bool (decide (xd21 = (0 : Int))))] [.no, .no] True (by kernel_rfl) trivial hS18 ?_
  refine l_nil rfl ?_
  refine then_n ?_
  rcases Bool.eq_false_or_eq_true (decide (xd21 = (0 : Int))) with hb27 | hb27
  · skip
    have hb27p := of_decide_eq_true hb27
    refine c_true (b := (decide (xd21 = (0 : Int)))) (by kernel_rfl) hb27 ?_
    refine c_drawnS (S := (fun x_ => St w0 x_ (Res.box blk16 [Value.int .i64 ad6, Value.slice ld7A (List.length ld7) ld7c, Value.slice ld8A (List.length ld8) ld8c] 34 :: Res.win (Value.slice ld7A (List.length ld7) ld7c) 37 2 (List.length ld7) (flat true ld7y) :: Res.row (Value.slice ld8A (List.length ld8) ld8c) 49 1 (List.length ld8) (flat false ld8y) :: Res.box blk2 [Value.int .i64 0, Value.slice none 0 0, Value.slice none 0 0] 34 :: ((ld7y.map (It.row .u8 5)) ++ ((ld8y.map (It.row .u8 5)) ++ tl))))) [7] (by kernel_rfl) hS18 (fun w28 hS28 => ?_)
    refine t_seg (S := (fun x_ => St w0 x_ (Res.box blk16 [Value.int .i64 ad6, Value.slice ld7A (List.length ld7) ld7c, Value.slice ld8A (List.length ld8) ld8c] 34 :: Res.win (Value.slice ld7A (List.length ld7) ld7c) 37 2 (List.length ld7) (flat true ld7y) :: Res.row (Value.slice ld8A (List.length ld8) ld8c) 49 1 (List.length ld8) (flat false ld8y) :: Res.box blk2 [Value.int .i64 0, Value.slice none 0 0, Value.slice none 0 0] 34 :: ((ld7y.map (It.row .u8 5)) ++ ((ld8y.map (It.row .u8 5)) ++ tl))))) [(0, .no), (2, .no), (1, .v (Value.int .i64 ad6))] 5 #[true, true, true, false, false, false, false, false] [(11, Value.int .i64 ad6), (12, Value.pointer (some ⟨b, 0, none⟩)), (10, Value.pointer (some ⟨blk16, 0 + 0, none⟩))] ((LoadsAt Try.prog (fun x_ => St w0 x_ (Res.box blk16 [Value.int .i64 ad6, Value.slice ld7A (List.length ld7) ld7c, Value.slice ld8A (List.length ld8) ld8c] 34 :: Res.win (Value.slice ld7A (List.length ld7) ld7c) 37 2 (List.length ld7) (flat true ld7y) :: Res.row (Value.slice ld8A (List.length ld8) ld8c) 49 1 (List.length ld8) (flat false ld8y) :: Res.box blk2 [Value.int .i64 0, Value.slice none 0 0, Value.slice none 0 0] 34 :: ((ld7y.map (It.row .u8 5)) ++ ((ld8y.map (It.row .u8 5)) ++ tl)))) 3 ⟨blk16, 0 + 0, none⟩ (Value.int .i64 ad6))) (by kernel_rfl) (Qpanic.block (Qpanic.then Qpanic.bp)) rfl (by kernel_rfl) (ld_box (i := 0) rfl rfl (by kernel_rfl)) (hS28.drop) ?_
    refine a_op (i := 3) (fuel := 4) (listed' := #[true, true, true, true, false, false, false, false]) rfl rfl (by kernel_rfl) (by kernel_rfl) rfl (fun K hK => op_buildSlice (d := some 13) rfl rfl (e := 3) (by kernel_rfl) 1 (by kernel_rfl) (by decide) (by decide) [Value.int .i64 1, Value.int .i64 (-1)] (by kernel_rfl) rfl hS28 (fun blk30 w29 hS29 => hK _ _ (fun _ => hS29.drop.drop) ?_))
    clear hK K
    refine a_op (i := 4) (fuel := 3) (listed' := #[true, true, true, true, true, false, false, false]) rfl rfl (by kernel_rfl) (by kernel_rfl) rfl (fun K hK => op_callm (d := some 14) rfl rfl ⟨_, Try.func86, by kernel_rfl, by kernel_rfl⟩ (vs := [Value.pointer (some ⟨b, 0, none⟩), Value.slice (some ⟨blk30, 0, none⟩) 2 2]) (by kernel_rfl) (l1Int_s_c b A n c ix22 hx23 (some ⟨blk30, 0, none⟩) 2 ([1, (-1)]) _ w0 w29 (hS29.front 1 rfl) hC24 (by first | omega | decide | simp)) (fun v32 new33 w31 Rw31 hS31 => ?_))
    obtain ⟨ix35, hx36, xd34, rfl, rfl, hC37, hf38⟩ := Rw31
    simp only [List.mem_cons, List.mem_nil_iff, or_false, List.not_mem_nil] at hf38
    have hf38b : -1 ≤ xd34 ∧ xd34 ≤ 1 := by omega
    refine hK _ _ (fun _ => (hS31.sub (List.Sublist.cons _ (List.Sublist.cons _ (List.Sublist.cons_cons _ (List.Sublist.cons_cons _ (List.Sublist.cons_cons _ (List.Sublist.cons_cons _ (List.Sublist.append (List.Sublist.refl _) (List.Sublist.append (List.Sublist.refl _) (List.Sublist.refl _))))))))))) ?_
    clear hK K
    refine t_seg (S := (fun x_ => St w0 x_ (Res.box blk16 [Value.int .i64 ad6, Value.slice ld7A (List.length ld7) ld7c, Value.slice ld8A (List.length ld8) ld8c] 34 :: Res.win (Value.slice ld7A (List.length ld7) ld7c) 37 2 (List.length ld7) (flat true ld7y) :: Res.row (Value.slice ld8A (List.length ld8) ld8c) 49 1 (List.length ld8) (flat false ld8y) :: Res.box blk2 [Value.int .i64 0, Value.slice none 0 0, Value.slice none 0 0] 34 :: ((ld7y.map (It.row .u8 5)) ++ ((ld8y.map (It.row .u8 5)) ++ tl))))) [(5, .no), (6, .no)] 1 #[true, true, true, true, true, true, true, false] [(16, Value.pointer (some ⟨blk16, 0 + 0, none⟩)), (15, Value.int .i64 (ad6 + xd34))] ((InK .i64 (ad6 + xd34))) (by kernel_rfl) (Qpanic.block (Qpanic.then Qpanic.bp)) rfl (by kernel_rfl) (in64 (by omega) (by omega)) (hS31.drop.drop) ?_
    refine a_op (i := 7) (fuel := 0) (listed' := #[true, true, true, true, true, true, true, true]) rfl rfl (by kernel_rfl) (by kernel_rfl) rfl (fun K hK => op_store (d := none) rfl rfl (i := 2) (b := blk16) (off := 0 + 0) (cs := [Value.int .i64 ad6, Value.slice ld7A (List.length ld7) ld7c, Value.slice ld8A (List.length ld8) ld8c]) (bt := 34) (by kernel_rfl) (by kernel_rfl) [Value.int .i64 (ad6 + xd34)] (by kernel_rfl) (by kernel_rfl) (Nat.le_of_ble_eq_true (by kernel_rfl)) (by kernel_rfl) (Res.box b [Value.slice A n c, Value.int .i64 ix35, Value.int .i64 hx36] 110 :: Res.row (Value.slice (some ⟨blk30, 0, none⟩) 2 2) 3 1 2 ([Value.int .i64 1, Value.int .i64 (-1)]) :: Res.box blk16 [Value.int .i64 (ad6 + xd34), Value.slice ld7A (List.length ld7) ld7c, Value.slice ld8A (List.length ld8) ld8c] 34 :: Res.win (Value.slice ld7A (List.length ld7) ld7c) 37 2 (List.length ld7) (flat true ld7y) :: Res.row (Value.slice ld8A (List.length ld8) ld8c) 49 1 (List.length ld8) (flat false ld8y) :: Res.box blk2 [Value.int .i64 0, Value.slice none 0 0, Value.slice none 0 0] 34 :: ((ld7y.map (It.row .u8 5)) ++ ((ld8y.map (It.row .u8 5)) ++ tl))) (by kernel_rfl) hS31 (fun w39 hS39 => hK _ _ (fun h => absurd h (by decide)) ?_))
    clear hK K
    refine a_done (by kernel_rfl) ?_
    refine blk_n ?_
    refine then_n ?_
    refine wp_seq ?_
    refine c_reg ?_
    refine q_seg (S := (fun x_ => St w0 x_ (Res.box b [Value.slice A n c, Value.int .i64 ix35, Value.int .i64 hx36] 110 :: Res.row (Value.slice (some ⟨blk30, 0, none⟩) 2 2) 3 1 2 ([Value.int .i64 1, Value.int .i64 (-1)]) :: Res.box blk16 [Value.int .i64 (ad6 + xd34), Value.slice ld7A (List.length ld7) ld7c, Value.slice ld8A (List.length ld8) ld8c] 34 :: Res.win (Value.slice ld7A (List.length ld7) ld7c) 37 2 (List.length ld7) (flat true ld7y) :: Res.row (Value.slice ld8A (List.length ld8) ld8c) 49 1 (List.length ld8) (flat false ld8y) :: Res.box blk2 [Value.int .i64 0, Value.slice none 0 0, Value.slice none 0 0] 34 :: ((ld7y.map (It.row .u8 5)) ++ ((ld8y.map (It.row .u8 5)) ++ tl))))) [(30, Value.agg #[Value.int .i64 (ad6 + xd34), Value.slice ld7A (List.length ld7) ld7c, Value.slice ld8A (List.length ld8) ld8c])] [.v (Value.agg #[Value.int .i64 (ad6 + xd34), Value.slice ld7A (List.length ld7) ld7c, Value.slice ld8A (List.length ld8) ld8c])] ((LoadsAt Try.prog (fun x_ => St w0 x_ (Res.box b [Value.slice A n c, Value.int .i64 ix35, Value.int .i64 hx36] 110 :: Res.row (Value.slice (some ⟨blk30, 0, none⟩) 2 2) 3 1 2 ([Value.int .i64 1, Value.int .i64 (-1)]) :: Res.box blk16 [Value.int .i64 (ad6 + xd34), Value.slice ld7A (List.length ld7) ld7c, Value.slice ld8A (List.length ld8) ld8c] 34 :: Res.win (Value.slice ld7A (List.length ld7) ld7c) 37 2 (List.length ld7) (flat true ld7y) :: Res.row (Value.slice ld8A (List.length ld8) ld8c) 49 1 (List.length ld8) (flat false ld8y) :: Res.box blk2 [Value.int .i64 0, Value.slice none 0 0, Value.slice none 0 0] 34 :: ((ld7y.map (It.row .u8 5)) ++ ((ld8y.map (It.row .u8 5)) ++ tl)))) 34 ⟨blk16, 0, none⟩ (Value.agg #[Value.int .i64 (ad6 + xd34), Value.slice ld7A (List.length ld7) ld7c, Value.slice ld8A (List.length ld8) ld8c]))) (by kernel_rfl) (ld_boxN (i := 2) (k := 3) rfl rfl rfl (by kernel_rfl)) hS39 ?_
    refine l_op rfl rfl (fun K hK => op_store (d := none) rfl rfl (i := 5) (b := blk2) (off := 0) (cs := [Value.int .i64 0, Value.slice none 0 0, Value.slice none 0 0]) (bt := 34) (by kernel_rfl) (by kernel_rfl) [Value.int .i64 (ad6 + xd34), Value.slice ld7A (List.length ld7) ld7c, Value.slice ld8A (List.length ld8) ld8c] (by kernel_rfl) (by kernel_rfl) (Nat.le_of_ble_eq_true (by kernel_rfl)) (by kernel_rfl) (Res.box b [Value.slice A n c, Value.int .i64 ix35, Value.int .i64 hx36] 110 :: Res.row (Value.slice (some ⟨blk30, 0, none⟩) 2 2) 3 1 2 ([Value.int .i64 1, Value.int .i64 (-1)]) :: Res.box blk16 [Value.int .i64 (ad6 + xd34), Value.slice ld7A (List.length ld7) ld7c, Value.slice ld8A (List.length ld8) ld8c] 34 :: Res.win (Value.slice ld7A (List.length ld7) ld7c) 37 2 (List.length ld7) (flat true ld7y) :: Res.row (Value.slice ld8A (List.length ld8) ld8c) 49 1 (List.length ld8) (flat false ld8y) :: Res.box blk2 [Value.int .i64 (ad6 + xd34), Value.slice ld7A (List.length ld7) ld7c, Value.slice ld8A (List.length ld8) ld8c] 34 :: ((ld7y.map (It.row .u8 5)) ++ ((ld8y.map (It.row .u8 5)) ++ tl))) (by kernel_rfl) hS39 (fun w40 hS40 => hK _ _ ?_))
    clear hK K
    refine l_nil rfl ?_
    refine then_n ?_
    refine wp_ret ?_
    have hS40s1 : St w0 w40 (Res.box b [Value.slice A n c, Value.int .i64 ix35, Value.int .i64 hx36] 110 :: Res.win (Value.slice ld7A (List.length ld7) ld7c) 37 2 (List.length ld7) (flat true ld7y) :: Res.row (Value.slice ld8A (List.length ld8) ld8c) 49 1 (List.length ld8) (flat false ld8y) :: ((ld7y.map (It.row .u8 5)) ++ ((ld8y.map (It.row .u8 5)) ++ tl))) := (hS40.sub (List.Sublist.cons_cons _ (List.Sublist.cons _ (List.Sublist.cons _ (List.Sublist.cons_cons _ (List.Sublist.cons_cons _ (List.Sublist.cons _ (List.Sublist.append (List.Sublist.refl _) (List.Sublist.append (List.Sublist.refl _) (List.Sublist.refl _))))))))))
    have hS40s1s2 : St w0 w40 (Res.box b [Value.slice A n c, Value.int .i64 ix35, Value.int .i64 hx36] 110 :: Res.win (Value.slice ld7A (List.length ld7) ld7c) 37 2 (List.length ld7) (flat true ld7y) :: Res.row (Value.slice ld8A (List.length ld8) ld8c) 49 1 (List.length ld8) (flat false ld8y) :: ((ld7y.map (It.row .u8 5)) ++ ((ld8y.map (It.row .u8 5)) ++ tl))) := hS40s1.front 0 rfl
    have hS40s1s2s3 : St w0 w40 (Res.row (Value.slice ld8A (List.length ld8) ld8c) 49 1 (List.length ld8) (flat false ld8y) :: Res.box b [Value.slice A n c, Value.int .i64 ix35, Value.int .i64 hx36] 110 :: Res.win (Value.slice ld7A (List.length ld7) ld7c) 37 2 (List.length ld7) (flat true ld7y) :: ((ld7y.map (It.row .u8 5)) ++ ((ld8y.map (It.row .u8 5)) ++ tl))) := hS40s1s2.front 2 rfl
    have hS40s1s2s3s4 : St w0 w40 (Res.win (Value.slice ld7A (List.length ld7) ld7c) 37 2 (List.length ld7) (flat true ld7y) :: Res.row (Value.slice ld8A (List.length ld8) ld8c) 49 1 (List.length ld8) (flat false ld8y) :: Res.box b [Value.slice A n c, Value.int .i64 ix35, Value.int .i64 hx36] 110 :: ((ld7y.map (It.row .u8 5)) ++ ((ld8y.map (It.row .u8 5)) ++ tl))) := hS40s1s2s3.front 2 rfl
    have hSo := St.inB [Res.win (Value.slice ld7A (List.length ld7) ld7c) 37 2 (List.length ld7) (flat true ld7y), Res.row (Value.slice ld8A (List.length ld8) ld8c) 49 1 (List.length ld8) (flat false ld8y), Res.box b [Value.slice A n c, Value.int .i64 ix35, Value.int .i64 hx36] 110] [] [(ld7y.map (It.row .u8 5)), (ld8y.map (It.row .u8 5))] tl hS40s1s2s3s4
    exact c_end (S := (fun x_ => St w0 x_ (Res.box b [Value.slice A n c, Value.int .i64 ix35, Value.int .i64 hx36] 110 :: Res.row (Value.slice (some ⟨blk30, 0, none⟩) 2 2) 3 1 2 ([Value.int .i64 1, Value.int .i64 (-1)]) :: Res.box blk16 [Value.int .i64 (ad6 + xd34), Value.slice ld7A (List.length ld7) ld7c, Value.slice ld8A (List.length ld8) ld8c] 34 :: Res.win (Value.slice ld7A (List.length ld7) ld7c) 37 2 (List.length ld7) (flat true ld7y) :: Res.row (Value.slice ld8A (List.length ld8) ld8c) 49 1 (List.length ld8) (flat false ld8y) :: Res.box blk2 [Value.int .i64 (ad6 + xd34), Value.slice ld7A (List.length ld7) ld7c, Value.slice ld8A (List.length ld8) ld8c] 34 :: ((ld7y.map (It.row .u8 5)) ++ ((ld8y.map (It.row .u8 5)) ++ tl))))) (rs := [.cell 2 34]) rfl [Value.agg #[Value.int .i64 (ad6 + xd34), Value.slice ld7A (List.length ld7) ld7c, Value.slice ld8A (List.length ld8) ld8c]] (v := Value.agg #[Value.int .i64 (ad6 + xd34), Value.slice ld7A (List.length ld7) ld7c, Value.slice ld8A (List.length ld8) ld8c]) (C := ((LoadsAt Try.prog (fun x_ => St w0 x_ (Res.box b [Value.slice A n c, Value.int .i64 ix35, Value.int .i64 hx36] 110 :: Res.row (Value.slice (some ⟨blk30, 0, none⟩) 2 2) 3 1 2 ([Value.int .i64 1, Value.int .i64 (-1)]) :: Res.box blk16 [Value.int .i64 (ad6 + xd34), Value.slice ld7A (List.length ld7) ld7c, Value.slice ld8A (List.length ld8) ld8c] 34 :: Res.win (Value.slice ld7A (List.length ld7) ld7c) 37 2 (List.length ld7) (flat true ld7y) :: Res.row (Value.slice ld8A (List.length ld8) ld8c) 49 1 (List.length ld8) (flat false ld8y) :: Res.box blk2 [Value.int .i64 (ad6 + xd34), Value.slice ld7A (List.length ld7) ld7c, Value.slice ld8A (List.length ld8) ld8c] 34 :: ((ld7y.map (It.row .u8 5)) ++ ((ld8y.map (It.row .u8 5)) ++ tl)))) 34 ⟨blk2, 0, none⟩ (Value.agg #[Value.int .i64 (ad6 + xd34), Value.slice ld7A (List.length ld7) ld7c, Value.slice ld8A (List.length ld8) ld8c])))) (by kernel_rfl) (ld_boxN (i := 5) (k := 3) rfl rfl rfl (by kernel_rfl)) hS40 (⟨_, _, rfl, hSo, ix35, hx36, (ad6 + xd34), ld7, ld7A, ld7c, ld7y, ld8, ld8A, ld8c, ld8y, rfl, rfl, hC37, ld7q, ld7o, ld8q, ld8o, (by omega), (by omega), (by first | omega | (simp only [wt_append, wt_one, List.length_nil]; omega))⟩)
  · skip
    have hb27p := of_decide_eq_false hb27
    refine c_false (b := (decide (xd21 = (0 : Int)))) (by kernel_rfl) hb27 ?_
    refine wp_seq ?_
    refine c_reg ?_
    refine q_seg (S := (fun x_ => St w0 x_ (Res.box b [Value.slice A n c, Value.int .i64 ix22, Value.int .i64 hx23] 110 :: Res.box blk16 [Value.int .i64 ad6, Value.slice ld7A (List.length ld7) ld7c, Value.slice ld8A (List.length ld8) ld8c] 34 :: Res.win (Value.slice ld7A (List.length ld7) ld7c) 37 2 (List.length ld7) (flat true ld7y) :: Res.row (Value.slice ld8A (List.length ld8) ld8c) 49 1 (List.length ld8) (flat false ld8y) :: Res.box blk2 [Value.int .i64 0, Value.slice none 0 0, Value.slice none 0 0] 34 :: ((ld7y.map (It.row .u8 5)) ++ ((ld8y.map (It.row .u8 5)) ++ tl))))) [(17, Value.bool (decide (xd21 = (1 : Int)))), (18, Value.bool (decide (xd21 = (1 : Int))))] [.no, .no] True (by kernel_rfl) trivial hS18 ?_
    refine l_nil rfl ?_
    refine then_n ?_
    rcases Bool.eq_false_or_eq_true (decide (xd21 = (1 : Int))) with hb41 | hb41
    · skip
      have hb41p := of_decide_eq_true hb41
      refine c_true (b := (decide (xd21 = (1 : Int)))) (by kernel_rfl) hb41 ?_
      refine c_drawnS (S := (fun x_ => St w0 x_ (Res.box blk16 [Value.int .i64 ad6, Value.slice ld7A (List.length ld7) ld7c, Value.slice ld8A (List.length ld8) ld8c] 34 :: Res.box blk2 [Value.int .i64 0, Value.slice none 0 0, Value.slice none 0 0] 34 :: tl))) [11] (by kernel_rfl) hS18 (fun w42 hS42 => ?_)
      refine t_seg (S := (fun x_ => St w0 x_ (Res.box blk16 [Value.int .i64 ad6, Value.slice ld7A (List.length ld7) ld7c, Value.slice ld8A (List.length ld8) ld8c] 34 :: Res.box blk2 [Value.int .i64 0, Value.slice none 0 0, Value.slice none 0 0] 34 :: tl))) [(0, .no), (2, .no), (4, .no), (1, .v (Value.slice ld7A (List.length ld7) ld7c)), (3, .v (Value.int .i64 ad6))] 7 #[true, true, true, true, true, false, false, false, false, false, false, false] [(22, Value.int .i64 ad6), (20, Value.slice ld7A (List.length ld7) ld7c), (23, Value.pointer (some ⟨b, 0, none⟩)), (21, Value.pointer (some ⟨blk16, 0 + 0, none⟩)), (19, Value.pointer (some ⟨blk16, 0 + 1, none⟩))] ((LoadsAt Try.prog (fun x_ => St w0 x_ (Res.box blk16 [Value.int .i64 ad6, Value.slice ld7A (List.length ld7) ld7c, Value.slice ld8A (List.length ld8) ld8c] 34 :: Res.box blk2 [Value.int .i64 0, Value.slice none 0 0, Value.slice none 0 0] 34 :: tl)) 31 ⟨blk16, 0 + 1, none⟩ (Value.slice ld7A (List.length ld7) ld7c)) ∧ (LoadsAt Try.prog (fun x_ => St w0 x_ (Res.box blk16 [Value.int .i64 ad6, Value.slice ld7A (List.length ld7) ld7c, Value.slice ld8A (List.length ld8) ld8c] 34 :: Res.box blk2 [Value.int .i64 0, Value.slice none 0 0, Value.slice none 0 0] 34 :: tl)) 3 ⟨blk16, 0 + 0, none⟩ (Value.int .i64 ad6))) (by kernel_rfl) (Qpanic.block (Qpanic.then Qpanic.bp)) rfl (by kernel_rfl) ⟨(ld_box (i := 0) rfl rfl (by kernel_rfl)), (ld_box (i := 0) rfl rfl (by kernel_rfl))⟩ (hS42.sub (List.Sublist.cons _ (List.Sublist.cons_cons _ (List.Sublist.cons _ (List.Sublist.cons _ (List.Sublist.cons_cons _ (List.Sublist.trans (List.Sublist.trans (List.Sublist.refl _) (List.sublist_append_right _ _)) (List.sublist_append_right _ _)))))))) ?_
      refine a_op (i := 5) (fuel := 6) (listed' := #[true, true, true, true, true, true, false, false, false, false, false, false]) rfl rfl (by kernel_rfl) (by kernel_rfl) rfl (fun K hK => op_callm (d := some 24) rfl rfl ⟨_, Try.func92, by kernel_rfl, by kernel_rfl⟩ (vs := [Value.pointer (some ⟨b, 0, none⟩), Value.int .i64 10]) (by kernel_rfl) (l1Below_s_c b A n c ix22 hx23 (10 : Int) _ w0 w42 hS42 hC24 (by omega)) (fun v44 new45 w43 Rw43 hS43 => ?_))
      obtain ⟨ix47, hx48, xd46, rfl, rfl, hC49, hf50, hf51⟩ := Rw43
      refine hK _ _ (fun _ => (hS43.sub (List.Sublist.cons _ (List.Sublist.cons_cons _ (List.Sublist.cons _ (List.Sublist.cons _ (List.Sublist.cons_cons _ (List.Sublist.trans (List.Sublist.trans (List.Sublist.refl _) (List.sublist_append_right _ _)) (List.sublist_append_right _ _))))))))) ?_
      clear hK K
      refine t_seg (S := (fun x_ => St w0 x_ (Res.box blk16 [Value.int .i64 ad6, Value.slice ld7A (List.length ld7) ld7c, Value.slice ld8A (List.length ld8) ld8c] 34 :: Res.box blk2 [Value.int .i64 0, Value.slice none 0 0, Value.slice none 0 0] 34 :: tl))) [(6, .no), (7, .no)] 4 #[true, true, true, true, true, true, true, true, false, false, false, false] [(26, Value.agg #[Value.int .i64 (ad6 + xd46), Value.slice none 0 0]), (25, Value.int .i64 (ad6 + xd46))] ((InK .i64 (ad6 + xd46))) (by kernel_rfl) (Qpanic.block (Qpanic.then Qpanic.bp)) rfl (by kernel_rfl) (in64 (by omega) (by omega)) (hS43.sub (List.Sublist.cons _ (List.Sublist.cons_cons _ (List.Sublist.cons _ (List.Sublist.cons _ (List.Sublist.cons_cons _ (List.Sublist.trans (List.Sublist.trans (List.Sublist.refl _) (List.sublist_append_right _ _)) (List.sublist_append_right _ _)))))))) ?_
      refine a_op (i := 8) (fuel := 3) (listed' := #[true, true, true, true, true, true, true, true, true, false, false, false]) rfl rfl (by kernel_rfl) (by kernel_rfl) rfl (fun K hK => op_buildSlice (d := some 27) rfl rfl (e := 37) (by kernel_rfl) 2 (by kernel_rfl) (by decide) (by decide) [Value.int .i64 (ad6 + xd46), Value.slice none 0 0] (by kernel_rfl) rfl hS43 (fun blk53 w52 hS52 => hK _ _ (fun _ => (hS52.sub (List.Sublist.cons _ (List.Sublist.cons _ (List.Sublist.cons_cons _ (List.Sublist.cons _ (List.Sublist.cons _ (List.Sublist.cons_cons _ (List.Sublist.trans (List.Sublist.trans (List.Sublist.refl _) (List.sublist_append_right _ _)) (List.sublist_append_right _ _)))))))))) ?_))
      clear hK K
      refine a_op (i := 9) (fuel := 2) (listed' := #[true, true, true, true, true, true, true, true, true, true, false, false]) rfl rfl (by kernel_rfl) (by kernel_rfl) rfl (fun K hK => op_appendWin (d := some 28) rfl rfl el_37 hS52 (i := 3) rfl rfl (by decide) rfl (news := [Value.int .i64 (ad6 + xd46), Value.slice none 0 0]) (hS52.rd (List.mem_of_getElem? (i := 0) rfl)) (all_one (by rfl)) (by omega) (by omega) (fun Av55 cv55 w54 hS54 => hK _ _ (fun _ => (hS54.sub (List.Sublist.cons _ (List.Sublist.cons _ (List.Sublist.cons_cons _ (List.Sublist.cons _ (List.Sublist.cons _ (List.Sublist.cons_cons _ (List.Sublist.trans (List.Sublist.trans (List.Sublist.refl _) (List.sublist_append_right _ _)) (List.sublist_append_right _ _)))))))))) ?_))
      clear hK K
      have hS54s5 : St w0 w54 (Res.row (Value.slice none 0 0) 5 1 0 (([] : List Int).map (Value.int .u8)) :: Res.row (Value.slice (some ⟨blk53, 0, none⟩) 1 1) 37 2 1 ([Value.int .i64 (ad6 + xd46), Value.slice none 0 0]) :: Res.box b [Value.slice A n c, Value.int .i64 ix47, Value.int .i64 hx48] 110 :: Res.box blk16 [Value.int .i64 ad6, Value.slice ld7A (List.length ld7) ld7c, Value.slice ld8A (List.length ld8) ld8c] 34 :: Res.win (Value.slice Av55 ((List.length ld7) + 1) cv55) 37 2 ((List.length ld7) + 1) ((flat true ld7y) ++ [Value.int .i64 (ad6 + xd46), Value.slice none 0 0]) :: Res.row (Value.slice ld8A (List.length ld8) ld8c) 49 1 (List.length ld8) (flat false ld8y) :: Res.box blk2 [Value.int .i64 0, Value.slice none 0 0, Value.slice none 0 0] 34 :: ((ld7y.map (It.row .u8 5)) ++ ((ld8y.map (It.row .u8 5)) ++ tl))) := hS54.nilrow 5 1
      have hS54s5s6 : St w0 w54 (Res.row (Value.slice none 0 0) 5 1 0 (([] : List Int).map (Value.int .u8)) :: Res.row (Value.slice (some ⟨blk53, 0, none⟩) 1 1) 37 2 1 ([Value.int .i64 (ad6 + xd46), Value.slice none 0 0]) :: Res.box b [Value.slice A n c, Value.int .i64 ix47, Value.int .i64 hx48] 110 :: Res.box blk16 [Value.int .i64 ad6, Value.slice ld7A (List.length ld7) ld7c, Value.slice ld8A (List.length ld8) ld8c] 34 :: Res.win (Value.slice Av55 ((List.length ld7) + 1) cv55) 37 2 ((List.length ld7) + 1) (flat true (ld7y ++ [(It.mk (ad6 + xd46) none 0 ([] : List Int))])) :: Res.row (Value.slice ld8A (List.length ld8) ld8c) 49 1 (List.length ld8) (flat false ld8y) :: Res.box blk2 [Value.int .i64 0, Value.slice none 0 0, Value.slice none 0 0] 34 :: ((ld7y.map (It.row .u8 5)) ++ ((ld8y.map (It.row .u8 5)) ++ tl))) := hS54s5.eqv (by rw [flat_snoc]; rfl)
      have hS54s5s6s7 : St w0 w54 (Res.row (Value.slice none 0 0) 5 1 0 (([] : List Int).map (Value.int .u8)) :: Res.box b [Value.slice A n c, Value.int .i64 ix47, Value.int .i64 hx48] 110 :: Res.box blk16 [Value.int .i64 ad6, Value.slice ld7A (List.length ld7) ld7c, Value.slice ld8A (List.length ld8) ld8c] 34 :: Res.win (Value.slice Av55 ((List.length ld7) + 1) cv55) 37 2 ((List.length ld7) + 1) (flat true (ld7y ++ [(It.mk (ad6 + xd46) none 0 ([] : List Int))])) :: Res.row (Value.slice ld8A (List.length ld8) ld8c) 49 1 (List.length ld8) (flat false ld8y) :: Res.box blk2 [Value.int .i64 0, Value.slice none 0 0, Value.slice none 0 0] 34 :: ((ld7y.map (It.row .u8 5)) ++ ((ld8y.map (It.row .u8 5)) ++ tl))) := (hS54s5s6.sub (List.Sublist.cons_cons _ (List.Sublist.cons _ (List.Sublist.cons_cons _ (List.Sublist.cons_cons _ (List.Sublist.cons_cons _ (List.Sublist.cons_cons _ (List.Sublist.cons_cons _ (List.Sublist.append (List.Sublist.refl _) (List.Sublist.append (List.Sublist.refl _) (List.Sublist.refl _)))))))))))
      have hS54s5s6s7s8 : St w0 w54 (Res.box b [Value.slice A n c, Value.int .i64 ix47, Value.int .i64 hx48] 110 :: Res.box blk16 [Value.int .i64 ad6, Value.slice ld7A (List.length ld7) ld7c, Value.slice ld8A (List.length ld8) ld8c] 34 :: Res.win (Value.slice Av55 ((List.length ld7) + 1) cv55) 37 2 ((List.length ld7) + 1) (flat true (ld7y ++ [(It.mk (ad6 + xd46) none 0 ([] : List Int))])) :: Res.row (Value.slice ld8A (List.length ld8) ld8c) 49 1 (List.length ld8) (flat false ld8y) :: Res.box blk2 [Value.int .i64 0, Value.slice none 0 0, Value.slice none 0 0] 34 :: (((ld7y ++ [(It.mk (ad6 + xd46) none 0 ([] : List Int))]).map (It.row .u8 5)) ++ ((ld8y.map (It.row .u8 5)) ++ tl))) := St.pickB (κ := .u8) (tb := 5) [Res.box b [Value.slice A n c, Value.int .i64 ix47, Value.int .i64 hx48] 110, Res.box blk16 [Value.int .i64 ad6, Value.slice ld7A (List.length ld7) ld7c, Value.slice ld8A (List.length ld8) ld8c] 34, Res.win (Value.slice Av55 ((List.length ld7) + 1) cv55) 37 2 ((List.length ld7) + 1) (flat true (ld7y ++ [(It.mk (ad6 + xd46) none 0 ([] : List Int))])), Res.row (Value.slice ld8A (List.length ld8) ld8c) 49 1 (List.length ld8) (flat false ld8y), Res.box blk2 [Value.int .i64 0, Value.slice none 0 0, Value.slice none 0 0] 34] [] ((ld8y.map (It.row .u8 5)) ++ tl) ld7y (It.mk (ad6 + xd46) none 0 ([] : List Int)) hS54s5s6s7
      have hcq56 : (ld7y ++ [(It.mk (ad6 + xd46) none 0 ([] : List Int))]).map (con true) = (ld7 ++ [((ad6 + xd46), ([] : List Int))]) := by rw [List.map_append, ld7q]; rfl
      have hcq56l : List.length (ld7 ++ [((ad6 + xd46), ([] : List Int))]) = ((List.length ld7) + 1) := by have h1_ : List.length ld7 = (List.length ld7) := rfl; rw [List.length_append, List.length_singleton] <;> omega
      refine t_seg (S := (fun x_ => St w0 x_ (Res.box blk16 [Value.int .i64 ad6, Value.slice ld7A (List.length ld7) ld7c, Value.slice ld8A (List.length ld8) ld8c] 34 :: Res.box blk2 [Value.int .i64 0, Value.slice none 0 0, Value.slice none 0 0] 34 :: tl))) [(10, .no)] 1 #[true, true, true, true, true, true, true, true, true, true, true, false] [(29, Value.pointer (some ⟨blk16, 0 + 1, none⟩))] True (by kernel_rfl) (Qpanic.block (Qpanic.then Qpanic.bp)) rfl (by kernel_rfl) trivial (hS54s5s6s7s8.sub (List.Sublist.cons _ (List.Sublist.cons_cons _ (List.Sublist.cons _ (List.Sublist.cons _ (List.Sublist.cons_cons _ (List.Sublist.trans (List.Sublist.trans (List.Sublist.refl _) (List.sublist_append_right _ _)) (List.sublist_append_right _ _)))))))) ?_
      refine a_op (i := 11) (fuel := 0) (listed' := #[true, true, true, true, true, true, true, true, true, true, true, true]) rfl rfl (by kernel_rfl) (by kernel_rfl) rfl (fun K hK => op_store (d := none) rfl rfl (i := 1) (b := blk16) (off := 0 + 1) (cs := [Value.int .i64 ad6, Value.slice ld7A (List.length ld7) ld7c, Value.slice ld8A (List.length ld8) ld8c]) (bt := 34) (by kernel_rfl) (by kernel_rfl) [Value.slice Av55 ((List.length ld7) + 1) cv55] (by kernel_rfl) (by kernel_rfl) (Nat.le_of_ble_eq_true (by kernel_rfl)) (by kernel_rfl) (Res.box b [Value.slice A n c, Value.int .i64 ix47, Value.int .i64 hx48] 110 :: Res.box blk16 [Value.int .i64 ad6, Value.slice Av55 ((List.length ld7) + 1) cv55, Value.slice ld8A (List.length ld8) ld8c] 34 :: Res.win (Value.slice Av55 ((List.length ld7) + 1) cv55) 37 2 ((List.length ld7) + 1) (flat true (ld7y ++ [(It.mk (ad6 + xd46) none 0 ([] : List Int))])) :: Res.row (Value.slice ld8A (List.length ld8) ld8c) 49 1 (List.length ld8) (flat false ld8y) :: Res.box blk2 [Value.int .i64 0, Value.slice none 0 0, Value.slice none 0 0] 34 :: (((ld7y ++ [(It.mk (ad6 + xd46) none 0 ([] : List Int))]).map (It.row .u8 5)) ++ ((ld8y.map (It.row .u8 5)) ++ tl))) (by kernel_rfl) hS54s5s6s7s8 (fun w57 hS57 => hK _ _ (fun h => absurd h (by decide)) ?_))
      clear hK K
      refine a_done (by kernel_rfl) ?_
      refine blk_n ?_
      refine then_n ?_
      refine wp_seq ?_
      refine c_reg ?_
      refine q_seg (S := (fun x_ => St w0 x_ (Res.box b [Value.slice A n c, Value.int .i64 ix47, Value.int .i64 hx48] 110 :: Res.box blk16 [Value.int .i64 ad6, Value.slice Av55 ((List.length ld7) + 1) cv55, Value.slice ld8A (List.length ld8) ld8c] 34 :: Res.win (Value.slice Av55 ((List.length ld7) + 1) cv55) 37 2 ((List.length ld7) + 1) (flat true (ld7y ++ [(It.mk (ad6 + xd46) none 0 ([] : List Int))])) :: Res.row (Value.slice ld8A (List.length ld8) ld8c) 49 1 (List.length ld8) (flat false ld8y) :: Res.box blk2 [Value.int .i64 0, Value.slice none 0 0, Value.slice none 0 0] 34 :: (((ld7y ++ [(It.mk (ad6 + xd46) none 0 ([] : List Int))]).map (It.row .u8 5)) ++ ((ld8y.map (It.row .u8 5)) ++ tl))))) [(30, Value.agg #[Value.int .i64 ad6, Value.slice Av55 ((List.length ld7) + 1) cv55, Value.slice ld8A (List.length ld8) ld8c])] [.v (Value.agg #[Value.int .i64 ad6, Value.slice Av55 ((List.length ld7) + 1) cv55, Value.slice ld8A (List.length ld8) ld8c])] ((LoadsAt Try.prog (fun x_ => St w0 x_ (Res.box b [Value.slice A n c, Value.int .i64 ix47, Value.int .i64 hx48] 110 :: Res.box blk16 [Value.int .i64 ad6, Value.slice Av55 ((List.length ld7) + 1) cv55, Value.slice ld8A (List.length ld8) ld8c] 34 :: Res.win (Value.slice Av55 ((List.length ld7) + 1) cv55) 37 2 ((List.length ld7) + 1) (flat true (ld7y ++ [(It.mk (ad6 + xd46) none 0 ([] : List Int))])) :: Res.row (Value.slice ld8A (List.length ld8) ld8c) 49 1 (List.length ld8) (flat false ld8y) :: Res.box blk2 [Value.int .i64 0, Value.slice none 0 0, Value.slice none 0 0] 34 :: (((ld7y ++ [(It.mk (ad6 + xd46) none 0 ([] : List Int))]).map (It.row .u8 5)) ++ ((ld8y.map (It.row .u8 5)) ++ tl)))) 34 ⟨blk16, 0, none⟩ (Value.agg #[Value.int .i64 ad6, Value.slice Av55 ((List.length ld7) + 1) cv55, Value.slice ld8A (List.length ld8) ld8c]))) (by kernel_rfl) (ld_boxN (i := 1) (k := 3) rfl rfl rfl (by kernel_rfl)) hS57 ?_
      refine l_op rfl rfl (fun K hK => op_store (d := none) rfl rfl (i := 4) (b := blk2) (off := 0) (cs := [Value.int .i64 0, Value.slice none 0 0, Value.slice none 0 0]) (bt := 34) (by kernel_rfl) (by kernel_rfl) [Value.int .i64 ad6, Value.slice Av55 ((List.length ld7) + 1) cv55, Value.slice ld8A (List.length ld8) ld8c] (by kernel_rfl) (by kernel_rfl) (Nat.le_of_ble_eq_true (by kernel_rfl)) (by kernel_rfl) (Res.box b [Value.slice A n c, Value.int .i64 ix47, Value.int .i64 hx48] 110 :: Res.box blk16 [Value.int .i64 ad6, Value.slice Av55 ((List.length ld7) + 1) cv55, Value.slice ld8A (List.length ld8) ld8c] 34 :: Res.win (Value.slice Av55 ((List.length ld7) + 1) cv55) 37 2 ((List.length ld7) + 1) (flat true (ld7y ++ [(It.mk (ad6 + xd46) none 0 ([] : List Int))])) :: Res.row (Value.slice ld8A (List.length ld8) ld8c) 49 1 (List.length ld8) (flat false ld8y) :: Res.box blk2 [Value.int .i64 ad6, Value.slice Av55 ((List.length ld7) + 1) cv55, Value.slice ld8A (List.length ld8) ld8c] 34 :: (((ld7y ++ [(It.mk (ad6 + xd46) none 0 ([] : List Int))]).map (It.row .u8 5)) ++ ((ld8y.map (It.row .u8 5)) ++ tl))) (by kernel_rfl) hS57 (fun w58 hS58 => hK _ _ ?_))
      clear hK K
      refine l_nil rfl ?_
      refine then_n ?_
      refine wp_ret ?_
      have hS58s9 : St w0 w58 (Res.box b [Value.slice A n c, Value.int .i64 ix47, Value.int .i64 hx48] 110 :: Res.win (Value.slice Av55 ((List.length ld7) + 1) cv55) 37 2 ((List.length ld7) + 1) (flat true (ld7y ++ [(It.mk (ad6 + xd46) none 0 ([] : List Int))])) :: Res.row (Value.slice ld8A (List.length ld8) ld8c) 49 1 (List.length ld8) (flat false ld8y) :: (((ld7y ++ [(It.mk (ad6 + xd46) none 0 ([] : List Int))]).map (It.row .u8 5)) ++ ((ld8y.map (It.row .u8 5)) ++ tl))) := (hS58.sub (List.Sublist.cons_cons _ (List.Sublist.cons _ (List.Sublist.cons_cons _ (List.Sublist.cons_cons _ (List.Sublist.cons _ (List.Sublist.append (List.Sublist.refl _) (List.Sublist.append (List.Sublist.refl _) (List.Sublist.refl _)))))))))
      have hS58s9s10 : St w0 w58 (Res.box b [Value.slice A n c, Value.int .i64 ix47, Value.int .i64 hx48] 110 :: Res.win (Value.slice Av55 ((List.length ld7) + 1) cv55) 37 2 ((List.length ld7) + 1) (flat true (ld7y ++ [(It.mk (ad6 + xd46) none 0 ([] : List Int))])) :: Res.row (Value.slice ld8A (List.length ld8) ld8c) 49 1 (List.length ld8) (flat false ld8y) :: (((ld7y ++ [(It.mk (ad6 + xd46) none 0 ([] : List Int))]).map (It.row .u8 5)) ++ ((ld8y.map (It.row .u8 5)) ++ tl))) := hS58s9.front 0 rfl
      have hS58s9s10s11 : St w0 w58 (Res.row (Value.slice ld8A (List.length ld8) ld8c) 49 1 (List.length ld8) (flat false ld8y) :: Res.box b [Value.slice A n c, Value.int .i64 ix47, Value.int .i64 hx48] 110 :: Res.win (Value.slice Av55 ((List.length ld7) + 1) cv55) 37 2 ((List.length ld7) + 1) (flat true (ld7y ++ [(It.mk (ad6 + xd46) none 0 ([] : List Int))])) :: (((ld7y ++ [(It.mk (ad6 + xd46) none 0 ([] : List Int))]).map (It.row .u8 5)) ++ ((ld8y.map (It.row .u8 5)) ++ tl))) := hS58s9s10.front 2 rfl
      have hS58s9s10s11s12 : St w0 w58 (Res.win (Value.slice Av55 ((List.length ld7) + 1) cv55) 37 2 ((List.length ld7) + 1) (flat true (ld7y ++ [(It.mk (ad6 + xd46) none 0 ([] : List Int))])) :: Res.row (Value.slice ld8A (List.length ld8) ld8c) 49 1 (List.length ld8) (flat false ld8y) :: Res.box b [Value.slice A n c, Value.int .i64 ix47, Value.int .i64 hx48] 110 :: (((ld7y ++ [(It.mk (ad6 + xd46) none 0 ([] : List Int))]).map (It.row .u8 5)) ++ ((ld8y.map (It.row .u8 5)) ++ tl))) := hS58s9s10s11.front 2 rfl
      have hSo := St.inB [Res.win (Value.slice Av55 ((List.length ld7) + 1) cv55) 37 2 ((List.length ld7) + 1) (flat true (ld7y ++ [(It.mk (ad6 + xd46) none 0 ([] : List Int))])), Res.row (Value.slice ld8A (List.length ld8) ld8c) 49 1 (List.length ld8) (flat false ld8y), Res.box b [Value.slice A n c, Value.int .i64 ix47, Value.int .i64 hx48] 110] [] [((ld7y ++ [(It.mk (ad6 + xd46) none 0 ([] : List Int))]).map (It.row .u8 5)), (ld8y.map (It.row .u8 5))] tl hS58s9s10s11s12
      exact c_end (S := (fun x_ => St w0 x_ (Res.box b [Value.slice A n c, Value.int .i64 ix47, Value.int .i64 hx48] 110 :: Res.box blk16 [Value.int .i64 ad6, Value.slice Av55 ((List.length ld7) + 1) cv55, Value.slice ld8A (List.length ld8) ld8c] 34 :: Res.win (Value.slice Av55 ((List.length ld7) + 1) cv55) 37 2 ((List.length ld7) + 1) (flat true (ld7y ++ [(It.mk (ad6 + xd46) none 0 ([] : List Int))])) :: Res.row (Value.slice ld8A (List.length ld8) ld8c) 49 1 (List.length ld8) (flat false ld8y) :: Res.box blk2 [Value.int .i64 ad6, Value.slice Av55 ((List.length ld7) + 1) cv55, Value.slice ld8A (List.length ld8) ld8c] 34 :: (((ld7y ++ [(It.mk (ad6 + xd46) none 0 ([] : List Int))]).map (It.row .u8 5)) ++ ((ld8y.map (It.row .u8 5)) ++ tl))))) (rs := [.cell 2 34]) rfl [Value.agg #[Value.int .i64 ad6, Value.slice Av55 ((List.length ld7) + 1) cv55, Value.slice ld8A (List.length ld8) ld8c]] (v := Value.agg #[Value.int .i64 ad6, Value.slice Av55 ((List.length ld7) + 1) cv55, Value.slice ld8A (List.length ld8) ld8c]) (C := ((LoadsAt Try.prog (fun x_ => St w0 x_ (Res.box b [Value.slice A n c, Value.int .i64 ix47, Value.int .i64 hx48] 110 :: Res.box blk16 [Value.int .i64 ad6, Value.slice Av55 ((List.length ld7) + 1) cv55, Value.slice ld8A (List.length ld8) ld8c] 34 :: Res.win (Value.slice Av55 ((List.length ld7) + 1) cv55) 37 2 ((List.length ld7) + 1) (flat true (ld7y ++ [(It.mk (ad6 + xd46) none 0 ([] : List Int))])) :: Res.row (Value.slice ld8A (List.length ld8) ld8c) 49 1 (List.length ld8) (flat false ld8y) :: Res.box blk2 [Value.int .i64 ad6, Value.slice Av55 ((List.length ld7) + 1) cv55, Value.slice ld8A (List.length ld8) ld8c] 34 :: (((ld7y ++ [(It.mk (ad6 + xd46) none 0 ([] : List Int))]).map (It.row .u8 5)) ++ ((ld8y.map (It.row .u8 5)) ++ tl)))) 34 ⟨blk2, 0, none⟩ (Value.agg #[Value.int .i64 ad6, Value.slice Av55 ((List.length ld7) + 1) cv55, Value.slice ld8A (List.length ld8) ld8c])))) (by kernel_rfl) (ld_boxN (i := 4) (k := 3) rfl rfl rfl (by kernel_rfl)) hS58 (⟨_, _, rfl, hSo, ix47, hx48, ad6, (ld7 ++ [((ad6 + xd46), ([] : List Int))]), Av55, cv55, (ld7y ++ [(It.mk (ad6 + xd46) none 0 ([] : List Int))]), ld8, ld8A, ld8c, ld8y, (by first | (rw [hcq56l]; done) | (rw [hcq56l]; rfl)), (by first | (rw [hcq56l]; done) | (rw [hcq56l]; rfl)), hC49, hcq56, (okL.append ld7o (okL.one (i64 (by omega) (by omega)) (fun z h => by simp at h))), ld8q, ld8o, (by omega), (by omega), (by first | omega | (simp only [wt_append, wt_one, List.length_nil]; omega))⟩)
    · skip
      have hb41p := of_decide_eq_false hb41
      refine c_false (b := (decide (xd21 = (1 : Int)))) (by kernel_rfl) hb41 ?_
      refine wp_skip ?_
      refine blk_n ?_
      refine then_n ?_
      refine wp_seq ?_
      refine c_reg ?_
      refine q_seg (S := (fun x_ => St w0 x_ (Res.box b [Value.slice A n c, Value.int .i64 ix22, Value.int .i64 hx23] 110 :: Res.box blk16 [Value.int .i64 ad6, Value.slice ld7A (List.length ld7) ld7c, Value.slice ld8A (List.length ld8) ld8c] 34 :: Res.win (Value.slice ld7A (List.length ld7) ld7c) 37 2 (List.length ld7) (flat true ld7y) :: Res.row (Value.slice ld8A (List.length ld8) ld8c) 49 1 (List.length ld8) (flat false ld8y) :: Res.box blk2 [Value.int .i64 0, Value.slice none 0 0, Value.slice none 0 0] 34 :: ((ld7y.map (It.row .u8 5)) ++ ((ld8y.map (It.row .u8 5)) ++ tl))))) [(30, Value.agg #[Value.int .i64 ad6, Value.slice ld7A (List.length ld7) ld7c, Value.slice ld8A (List.length ld8) ld8c])] [.v (Value.agg #[Value.int .i64 ad6, Value.slice ld7A (List.length ld7) ld7c, Value.slice ld8A (List.length ld8) ld8c])] ((LoadsAt Try.prog (fun x_ => St w0 x_ (Res.box b [Value.slice A n c, Value.int .i64 ix22, Value.int .i64 hx23] 110 :: Res.box blk16 [Value.int .i64 ad6, Value.slice ld7A (List.length ld7) ld7c, Value.slice ld8A (List.length ld8) ld8c] 34 :: Res.win (Value.slice ld7A (List.length ld7) ld7c) 37 2 (List.length ld7) (flat true ld7y) :: Res.row (Value.slice ld8A (List.length ld8) ld8c) 49 1 (List.length ld8) (flat false ld8y) :: Res.box blk2 [Value.int .i64 0, Value.slice none 0 0, Value.slice none 0 0] 34 :: ((ld7y.map (It.row .u8 5)) ++ ((ld8y.map (It.row .u8 5)) ++ tl)))) 34 ⟨blk16, 0, none⟩ (Value.agg #[Value.int .i64 ad6, Value.slice ld7A (List.length ld7) ld7c, Value.slice ld8A (List.length ld8) ld8c]))) (by kernel_rfl) (ld_boxN (i := 1) (k := 3) rfl rfl rfl (by kernel_rfl)) hS18 ?_
      refine l_op rfl rfl (fun K hK => op_store (d := none) rfl rfl (i := 4) (b := blk2) (off := 0) (cs := [Value.int .i64 0, Value.slice none 0 0, Value.slice none 0 0]) (bt := 34) (by kernel_rfl) (by kernel_rfl) [Value.int .i64 ad6, Value.slice ld7A (List.length ld7) ld7c, Value.slice ld8A (List.length ld8) ld8c] (by kernel_rfl) (by kernel_rfl) (Nat.le_of_ble_eq_true (by kernel_rfl)) (by kernel_rfl) (Res.box b [Value.slice A n c, Value.int .i64 ix22, Value.int .i64 hx23] 110 :: Res.box blk16 [Value.int .i64 ad6, Value.slice ld7A (List.length ld7) ld7c, Value.slice ld8A (List.length ld8) ld8c] 34 :: Res.win (Value.slice ld7A (List.length ld7) ld7c) 37 2 (List.length ld7) (flat true ld7y) :: Res.row (Value.slice ld8A (List.length ld8) ld8c) 49 1 (List.length ld8) (flat false ld8y) :: Res.box blk2 [Value.int .i64 ad6, Value.slice ld7A (List.length ld7) ld7c, Value.slice ld8A (List.length ld8) ld8c] 34 :: ((ld7y.map (It.row .u8 5)) ++ ((ld8y.map (It.row .u8 5)) ++ tl))) (by kernel_rfl) hS18 (fun w59 hS59 => hK _ _ ?_))
      clear hK K
      refine l_nil rfl ?_
      refine then_n ?_
      refine wp_ret ?_
      have hS59s13 : St w0 w59 (Res.box b [Value.slice A n c, Value.int .i64 ix22, Value.int .i64 hx23] 110 :: Res.win (Value.slice ld7A (List.length ld7) ld7c) 37 2 (List.length ld7) (flat true ld7y) :: Res.row (Value.slice ld8A (List.length ld8) ld8c) 49 1 (List.length ld8) (flat false ld8y) :: ((ld7y.map (It.row .u8 5)) ++ ((ld8y.map (It.row .u8 5)) ++ tl))) := (hS59.sub (List.Sublist.cons_cons _ (List.Sublist.cons _ (List.Sublist.cons_cons _ (List.Sublist.cons_cons _ (List.Sublist.cons _ (List.Sublist.append (List.Sublist.refl _) (List.Sublist.append (List.Sublist.refl _) (List.Sublist.refl _)))))))))
      have hS59s13s14 : St w0 w59 (Res.box b [Value.slice A n c, Value.int .i64 ix22, Value.int .i64 hx23] 110 :: Res.win (Value.slice ld7A (List.length ld7) ld7c) 37 2 (List.length ld7) (flat true ld7y) :: Res.row (Value.slice ld8A (List.length ld8) ld8c) 49 1 (List.length ld8) (flat false ld8y) :: ((ld7y.map (It.row .u8 5)) ++ ((ld8y.map (It.row .u8 5)) ++ tl))) := hS59s13.front 0 rfl
      have hS59s13s14s15 : St w0 w59 (Res.row (Value.slice ld8A (List.length ld8) ld8c) 49 1 (List.length ld8) (flat false ld8y) :: Res.box b [Value.slice A n c, Value.int .i64 ix22, Value.int .i64 hx23] 110 :: Res.win (Value.slice ld7A (List.length ld7) ld7c) 37 2 (List.length ld7) (flat true ld7y) :: ((ld7y.map (It.row .u8 5)) ++ ((ld8y.map (It.row .u8 5)) ++ tl))) := hS59s13s14.front 2 rfl
      have hS59s13s14s15s16 : St w0 w59 (Res.win (Value.slice ld7A (List.length ld7) ld7c) 37 2 (List.length ld7) (flat true ld7y) :: Res.row (Value.slice ld8A (List.length ld8) ld8c) 49 1 (List.length ld8) (flat false ld8y) :: Res.box b [Value.slice A n c, Value.int .i64 ix22, Value.int .i64 hx23] 110 :: ((ld7y.map (It.row .u8 5)) ++ ((ld8y.map (It.row .u8 5)) ++ tl))) := hS59s13s14s15.front 2 rfl
      have hSo := St.inB [Res.win (Value.slice ld7A (List.length ld7) ld7c) 37 2 (List.length ld7) (flat true ld7y), Res.row (Value.slice ld8A (List.length ld8) ld8c) 49 1 (List.length ld8) (flat false ld8y), Res.box b [Value.slice A n c, Value.int .i64 ix22, Value.int .i64 hx23] 110] [] [(ld7y.map (It.row .u8 5)), (ld8y.map (It.row .u8 5))] tl hS59s13s14s15s16
      exact c_end (S := (fun x_ => St w0 x_ (Res.box b [Value.slice A n c, Value.int .i64 ix22, Value.int .i64 hx23] 110 :: Res.box blk16 [Value.int .i64 ad6, Value.slice ld7A (List.length ld7) ld7c, Value.slice ld8A (List.length ld8) ld8c] 34 :: Res.win (Value.slice ld7A (List.length ld7) ld7c) 37 2 (List.length ld7) (flat true ld7y) :: Res.row (Value.slice ld8A (List.length ld8) ld8c) 49 1 (List.length ld8) (flat false ld8y) :: Res.box blk2 [Value.int .i64 ad6, Value.slice ld7A (List.length ld7) ld7c, Value.slice ld8A (List.length ld8) ld8c] 34 :: ((ld7y.map (It.row .u8 5)) ++ ((ld8y.map (It.row .u8 5)) ++ tl))))) (rs := [.cell 2 34]) rfl [Value.agg #[Value.int .i64 ad6, Value.slice ld7A (List.length ld7) ld7c, Value.slice ld8A (List.length ld8) ld8c]] (v := Value.agg #[Value.int .i64 ad6, Value.slice ld7A (List.length ld7) ld7c, Value.slice ld8A (List.length ld8) ld8c]) (C := ((LoadsAt Try.prog (fun x_ => St w0 x_ (Res.box b [Value.slice A n c, Value.int .i64 ix22, Value.int .i64 hx23] 110 :: Res.box blk16 [Value.int .i64 ad6, Value.slice ld7A (List.length ld7) ld7c, Value.slice ld8A (List.length ld8) ld8c] 34 :: Res.win (Value.slice ld7A (List.length ld7) ld7c) 37 2 (List.length ld7) (flat true ld7y) :: Res.row (Value.slice ld8A (List.length ld8) ld8c) 49 1 (List.length ld8) (flat false ld8y) :: Res.box blk2 [Value.int .i64 ad6, Value.slice ld7A (List.length ld7) ld7c, Value.slice ld8A (List.length ld8) ld8c] 34 :: ((ld7y.map (It.row .u8 5)) ++ ((ld8y.map (It.row .u8 5)) ++ tl)))) 34 ⟨blk2, 0, none⟩ (Value.agg #[Value.int .i64 ad6, Value.slice ld7A (List.length ld7) ld7c, Value.slice ld8A (List.length ld8) ld8c])))) (by kernel_rfl) (ld_boxN (i := 4) (k := 3) rfl rfl rfl (by kernel_rfl)) hS59 (⟨_, _, rfl, hSo, ix22, hx23, ad6, ld7, ld7A, ld7c, ld7y, ld8, ld8A, ld8c, ld8y, rfl, rfl, hC24, ld7q, ld7o, ld8q, ld8o, (by omega), (by omega), (by first | omega | (simp only [wt_append, wt_one, List.length_nil]; omega))⟩)
theorem DrawReceivePacket_s_c (A : Option Addr) (n c : Nat) (zs : List Int) (w : World) (hn : n ≤ 1048576) (hz : okz .u8 zs) (hr : Rd w w.heap.size A n (zs.map (Value.int .u8))) : Calls Try.prog 57 #[.slice A n c] w (Ret w (fun v new => ∃ (a_ : Int) (L_ : List (Int × List Int)) (L_A : Option Addr) (L_c : Nat) (L_y : List It) (D_ : List (Int × List Int)) (D_A : Option Addr) (D_c : Nat) (D_y : List It) (n_ : Int) (z_ : List Int) (z_A : Option Addr) (z_c : Nat), v = Value.tuple #[Value.agg #[Value.int .i64 a_, Value.slice L_A (List.length L_) L_c, Value.slice D_A (List.length D_) D_c], Value.agg #[Value.int .i64 n_, Value.slice z_A (List.length z_) z_c]] ∧ new = (Res.win (Value.slice L_A (List.length L_) L_c) 37 2 (List.length L_) (flat true L_y) :: Res.row (Value.slice D_A (List.length D_) D_c) 49 1 (List.length D_) (flat false D_y) :: Res.ro (Value.slice z_A (List.length z_) z_c) (List.length z_) (z_.map (Value.int .u8)) :: (((L_y.map (It.row .u8 5)) ++ ((D_y.map (It.row .u8 5)) ++ [])))) ∧ (L_y.map (con true) = L_) ∧ (okL .u8 L_) ∧ (D_y.map (con false) = D_) ∧ (okL .u8 D_) ∧ (0 ≤ a_) ∧ (a_ ≤ 26) ∧ (wt L_ + wt D_ ≤ 430) ∧ (-2 ≤ n_) ∧ (n_ ≤ 40) ∧ (okz .u8 z_) ∧ (List.length z_ ≤ 21))) := by
  have hzl := hr.len
  refine calls_FA Try.func57 rfl (n := 22) rfl (l := [(0, Value.slice A n c)]) rfl (by simp) (fun g => ?_)
  have hS := St.init w
  refine wp_seq ?_
  refine c_reg ?_
  refine l_op rfl rfl (fun K hK => op_alloc (d := some 2) rfl rfl [Value.int .i64 0, Value.slice none 0 0, Value.slice none 0 0] (by kernel_rfl) hS (fun blk2 w1 hS1 => hK _ _ ?_))
  clear hK K
  refine l_op rfl rfl (fun K hK => op_alloc (d := some 3) rfl rfl [Value.int .i64 0, Value.slice none 0 0] (by kernel_rfl) hS1 (fun blk4 w3 hS3 => hK _ _ ?_))
  clear hK K
  refine l_nil rfl ?_
  refine then_n ?_
  refine wp_seq ?_
  refine c_reg ?_
  refine q_seg (S := (fun x_ => St w x_ [Res.box blk4 [Value.int .i64 0, Value.slice none 0 0] 37, Res.box blk2 [Value.int .i64 0, Value.slice none 0 0, Value.slice none 0 0] 34])) [(7, Value.slice A n c)] [.no] True (by kernel_rfl) trivial hS3 ?_
  refine l_op rfl rfl (fun K hK => op_call (d := some 8) rfl rfl ⟨_, Try.func83, by kernel_rfl, by kernel_rfl⟩ (vs := [Value.slice A n c]) (by kernel_rfl) (l1New_c A n c zs w3 (by omega) hz (hS3.rdlow hr)) hS3 (fun v6 new7 w5 Rw5 hS5 => hK _ _ ?_))
  clear hK K
  obtain ⟨blk8, hx9, rfl, rfl⟩ := Rw5
  have hC10 : CurI w A n 0 := CurI.zero (by omega) hz hr
  refine q_seg (S := (fun x_ => St w x_ [Res.box blk8 [Value.slice A n c, Value.int .i64 0, Value.int .i64 hx9] 110, Res.box blk4 [Value.int .i64 0, Value.slice none 0 0] 37, Res.box blk2 [Value.int .i64 0, Value.slice none 0 0, Value.slice none 0 0] 34])) [(4, Value.pointer (some ⟨blk8, 0, none⟩))] [.no] True (by kernel_rfl) trivial hS5 ?_
  refine l_nil rfl ?_
  refine then_n ?_
  refine wp_seq ?_
  refine c_reg ?_
  refine q_seg (S := (fun x_ => St w x_ [Res.box blk8 [Value.slice A n c, Value.int .i64 0, Value.int .i64 hx9] 110, Res.box blk4 [Value.int .i64 0, Value.slice none 0 0] 37, Res.box blk2 [Value.int .i64 0, Value.slice none 0 0, Value.slice none 0 0] 34])) [(9, Value.pointer (some ⟨blk8, 0, none⟩))] [.no] True (by kernel_rfl) trivial hS5 ?_
  refine l_op rfl rfl (fun K hK => op_callm (d := some 10) rfl rfl ⟨_, Try.func91, by kernel_rfl, by kernel_rfl⟩ (vs := [Value.pointer (some ⟨blk8, 0, none⟩)]) (by kernel_rfl) (l24AnyRecv_s_c blk8 A n c 0 hx9  _ w w5 hS5 hC10 ) (fun v12 new13 w11 Rw11 hS11 => ?_))
  obtain ⟨ix17, hx18, ad14, ld15, ld15A, ld15c, ld15y, ld16, ld16A, ld16c, ld16y, rfl, rfl, hC19, ld15q, ld15o, ld16q, ld16o, hf20, hf21, hf22⟩ := Rw11
  have hS11r : St w w11 (Res.win (Value.slice ld15A (List.length ld15) ld15c) 37 2 (List.length ld15) (flat true ld15y) :: Res.row (Value.slice ld16A (List.length ld16) ld16c) 49 1 (List.length ld16) (flat false ld16y) :: Res.box blk8 [Value.slice A n c, Value.int .i64 ix17, Value.int .i64 hx18] 110 :: Res.box blk4 [Value.int .i64 0, Value.slice none 0 0] 37 :: Res.box blk2 [Value.int .i64 0, Value.slice none 0 0, Value.slice none 0 0] 34 :: ((ld15y.map (It.row .u8 5)) ++ ((ld16y.map (It.row .u8 5)) ++ []))) := St.outB [Res.win (Value.slice ld15A (List.length ld15) ld15c) 37 2 (List.length ld15) (flat true ld15y), Res.row (Value.slice ld16A (List.length ld16) ld16c) 49 1 (List.length ld16) (flat false ld16y), Res.box blk8 [Value.slice A n c, Value.int .i64 ix17, Value.int .i64 hx18] 110] [Res.box blk4 [Value.int .i64 0, Value.slice none 0 0] 37, Res.box blk2 [Value.int .i64 0, Value.slice none 0 0, Value.slice none 0 0] 34] [(ld15y.map (It.row .u8 5)), (ld16y.map (It.row .u8 5))] [] hS11
  have ld15w := wt_len ld15
  have ld16w := wt_len ld16
  refine hK _ _ ?_
  clear hK K
  refine l_op rfl rfl (fun K hK => op_alloc (d := some 5) rfl rfl [Value.int .i64 0, Value.slice none 0 0, Value.slice none 0 0] (by kernel_rfl) hS11r (fun blk24 w23 hS23 => hK _ _ ?_))
  clear hK K
  refine l_op rfl rfl (fun K hK => op_store (d := none) rfl rfl (i := 0) (b := blk24) (off := 0) (cs := [Value.int .i64 0, Value.slice none 0 0, Value.slice none 0 0]) (bt := 34) (by kernel_rfl) (by kernel_rfl) [Value.int .i64 ad14, Value.slice ld15A (List.length ld15) ld15c, Value.slice ld16A (List.length ld16) ld16c] (by kernel_rfl) (by kernel_rfl) (Nat.le_of_ble_eq_true (by kernel_rfl)) (by kernel_rfl) (Res.box blk24 [Value.int .i64 ad14, Value.slice ld15A (List.length ld15) ld15c, Value.slice ld16A (List.length ld16) ld16c] 34 :: Res.win (Value.slice ld15A (List.length ld15) ld15c) 37 2 (List.length ld15) (flat true ld15y) :: Res.row (Value.slice ld16A (List.length ld16) ld16c) 49 1 (List.length ld16) (flat false ld16y) :: Res.box blk8 [Value.slice A n c, Value.int .i64 ix17, Value.int .i64 hx18] 110 :: Res.box blk4 [Value.int .i64 0, Value.slice none 0 0] 37 :: Res.box blk2 [Value.int .i64 0, Value.slice none 0 0, Value.slice none 0 0] 34 :: ((ld15y.map (It.row .u8 5)) ++ ((ld16y.map (It.row .u8 5)) ++ []))) (by kernel_rfl) hS23 (fun w25 hS25 => hK _ _ ?_))
  clear hK K
  refine l_nil rfl ?_
  refine then_n ?_
  refine wp_seq ?_
  refine c_drawnS (S := (fun x_ => St w x_ (Res.box blk24 [Value.int .i64 ad14, Value.slice ld15A (List.length ld15) ld15c, Value.slice ld16A (List.length ld16) ld16c] 34 :: Res.win (Value.slice ld15A (List.length ld15) ld15c) 37 2 (List.length ld15) (flat true ld15y) :: Res.row (Value.slice ld16A (List.length ld16) ld16c) 49 1 (List.length ld16) (flat false ld16y) :: Res.box blk4 [Value.int .i64 0, Value.slice none 0 0] 37 :: Res.box blk2 [Value.int .i64 0, Value.slice none 0 0, Value.slice none 0 0] 34 :: ((ld15y.map (It.row .u8 5)) ++ ((ld16y.map (It.row .u8 5)) ++ []))))) [] (by kernel_rfl) hS25 (fun w26 hS26 => ?_)
  refine t_seg (S := (fun x_ => St w x_ (Res.box blk24 [Value.int .i64 ad14, Value.slice ld15A (List.length ld15) ld15c, Value.slice ld16A (List.length ld16) ld16c] 34 :: Res.win (Value.slice ld15A (List.length ld15) ld15c) 37 2 (List.length ld15) (flat true ld15y) :: Res.row (Value.slice ld16A (List.length ld16) ld16c) 49 1 (List.length ld16) (flat false ld16y) :: Res.box blk4 [Value.int .i64 0, Value.slice none 0 0] 37 :: Res.box blk2 [Value.int .i64 0, Value.slice none 0 0, Value.slice none 0 0] 34 :: ((ld15y.map (It.row .u8 5)) ++ ((ld16y.map (It.row .u8 5)) ++ []))))) [(0, .no), (2, .no), (1, .v (Value.int .i64 ad14))] 4 #[true, true, true, false, false, false, false] [(12, Value.int .i64 ad14), (13, Value.pointer (some ⟨blk8, 0, none⟩)), (11, Value.pointer (some ⟨blk24, 0 + 0, none⟩))] ((LoadsAt Try.prog (fun x_ => St w x_ (Res.box blk24 [Value.int .i64 ad14, Value.slice ld15A (List.length ld15) ld15c, Value.slice ld16A (List.length ld16) ld16c] 34 :: Res.win (Value.slice ld15A (List.length ld15) ld15c) 37 2 (List.length ld15) (flat true ld15y) :: Res.row (Value.slice ld16A (List.length ld16) ld16c) 49 1 (List.length ld16) (flat false ld16y) :: Res.box blk4 [Value.int .i64 0, Value.slice none 0 0] 37 :: Res.box blk2 [Value.int .i64 0, Value.slice none 0 0, Value.slice none 0 0] 34 :: ((ld15y.map (It.row .u8 5)) ++ ((ld16y.map (It.row .u8 5)) ++ [])))) 3 ⟨blk24, 0 + 0, none⟩ (Value.int .i64 ad14))) (by kernel_rfl) (Qpanic.then Qpanic.bp) rfl (by kernel_rfl) (ld_box (i := 0) rfl rfl (by kernel_rfl)) (hS26.sub (List.Sublist.cons_cons _ (List.Sublist.cons_cons _ (List.Sublist.cons_cons _ (List.Sublist.cons _ (List.Sublist.cons_cons _ (List.Sublist.cons_cons _ (List.Sublist.append (List.Sublist.refl _) (List.Sublist.append (List.Sublist.refl _) List.Sublist.slnil))))))))) ?_
  refine a_op (i := 3) (fuel := 3) (listed' := #[true, true, true, true, false, false, false]) rfl rfl (by kernel_rfl) (by kernel_rfl) rfl (fun K hK => op_callm (d := some 14) rfl rfl ⟨_, Try.func92, by kernel_rfl, by kernel_rfl⟩ (vs := [Value.pointer (some ⟨blk8, 0, none⟩), Value.int .i64 11]) (by kernel_rfl) (l1Below_s_c blk8 A n c ix17 hx18 (11 : Int) _ w w26 (hS26.front 3 rfl) hC19 (by omega)) (fun v28 new29 w27 Rw27 hS27 => ?_))
  obtain ⟨ix31, hx32, xd30, rfl, rfl, hC33, hf34, hf35⟩ := Rw27
  refine hK _ _ (fun _ => (hS27.sub (List.Sublist.cons _ (List.Sublist.cons_cons _ (List.Sublist.cons_cons _ (List.Sublist.cons_cons _ (List.Sublist.cons_cons _ (List.Sublist.cons_cons _ (List.Sublist.append (List.Sublist.refl _) (List.Sublist.append (List.Sublist.refl _) List.Sublist.slnil)))))))))) ?_
  clear hK K
  refine t_seg (S := (fun x_ => St w x_ (Res.box blk24 [Value.int .i64 ad14, Value.slice ld15A (List.length ld15) ld15c, Value.slice ld16A (List.length ld16) ld16c] 34 :: Res.win (Value.slice ld15A (List.length ld15) ld15c) 37 2 (List.length ld15) (flat true ld15y) :: Res.row (Value.slice ld16A (List.length ld16) ld16c) 49 1 (List.length ld16) (flat false ld16y) :: Res.box blk4 [Value.int .i64 0, Value.slice none 0 0] 37 :: Res.box blk2 [Value.int .i64 0, Value.slice none 0 0, Value.slice none 0 0] 34 :: ((ld15y.map (It.row .u8 5)) ++ ((ld16y.map (It.row .u8 5)) ++ []))))) [(4, .no), (5, .no), (6, .no)] 0 #[true, true, true, true, true, true, true] [(6, Value.int .i64 ((ad14 + xd30) - (2 : Int))), (16, Value.int .i64 ((ad14 + xd30) - (2 : Int))), (15, Value.int .i64 (ad14 + xd30))] ((InK .i64 (ad14 + xd30)) ∧ (InK .i64 ((ad14 + xd30) - (2 : Int)))) (by kernel_rfl) (Qpanic.then Qpanic.bp) rfl (by kernel_rfl) ⟨(in64 (by omega) (by omega)), (in64 (by omega) (by omega))⟩ (hS27.drop) ?_
  refine a_done (by kernel_rfl) ?_
  refine then_n ?_
  refine wp_seq ?_
  refine c_drawn [5, 6] (by kernel_rfl) hS27 (fun w36 hS36 => ?_)
  refine t_seg (S := (fun x_ => St w x_ (Res.box blk8 [Value.slice A n c, Value.int .i64 ix31, Value.int .i64 hx32] 110 :: Res.box blk24 [Value.int .i64 ad14, Value.slice ld15A (List.length ld15) ld15c, Value.slice ld16A (List.length ld16) ld16c] 34 :: Res.win (Value.slice ld15A (List.length ld15) ld15c) 37 2 (List.length ld15) (flat true ld15y) :: Res.row (Value.slice ld16A (List.length ld16) ld16c) 49 1 (List.length ld16) (flat false ld16y) :: Res.box blk4 [Value.int .i64 0, Value.slice none 0 0] 37 :: Res.box blk2 [Value.int .i64 0, Value.slice none 0 0, Value.slice none 0 0] 34 :: ((ld15y.map (It.row .u8 5)) ++ ((ld16y.map (It.row .u8 5)) ++ []))))) [(0, .v (Value.agg #[Value.int .i64 ad14, Value.slice ld15A (List.length ld15) ld15c, Value.slice ld16A (List.length ld16) ld16c])), (1, .no), (2, .no)] 4 #[true, true, true, false, false, false, false] [(19, Value.int .i64 ((ad14 + xd30) - (2 : Int))), (18, Value.int .i64 ((ad14 + xd30) - (2 : Int))), (17, Value.agg #[Value.int .i64 ad14, Value.slice ld15A (List.length ld15) ld15c, Value.slice ld16A (List.length ld16) ld16c])] ((LoadsAt Try.prog (fun x_ => St w x_ (Res.box blk8 [Value.slice A n c, Value.int .i64 ix31, Value.int .i64 hx32] 110 :: Res.box blk24 [Value.int .i64 ad14, Value.slice ld15A (List.length ld15) ld15c, Value.slice ld16A (List.length ld16) ld16c] 34 :: Res.win (Value.slice ld15A (List.length ld15) ld15c) 37 2 (List.length ld15) (flat true ld15y) :: Res.row (Value.slice ld16A (List.length ld16) ld16c) 49 1 (List.length ld16) (flat false ld16y) :: Res.box blk4 [Value.int .i64 0, Value.slice none 0 0] 37 :: Res.box blk2 [Value.int .i64 0, Value.slice none 0 0, Value.slice none 0 0] 34 :: ((ld15y.map (It.row .u8 5)) ++ ((ld16y.map (It.row .u8 5)) ++ [])))) 34 ⟨blk24, 0, none⟩ (Value.agg #[Value.int .i64 ad14, Value.slice ld15A (List.length ld15) ld15c, Value.slice ld16A (List.length ld16) ld16c]))) (by kernel_rfl) (Qpanic.then Qpanic.bp) rfl (by kernel_rfl) (ld_boxN (i := 1) (k := 3) rfl rfl rfl (by kernel_rfl)) hS36 ?_
  refine a_op (i := 3) (fuel := 3) (listed' := #[true, true, true, true, false, false, false]) rfl rfl (by kernel_rfl) (by kernel_rfl) rfl (fun K hK => op_call (d := some 20) rfl rfl ⟨_, Try.func93, by kernel_rfl, by kernel_rfl⟩ (vs := [Value.int .i64 ((ad14 + xd30) - (2 : Int))]) (by kernel_rfl) (l24Text_s_c ((ad14 + xd30) - (2 : Int)) w36 (by omega) (by omega)) hS36 (fun v38 new39 w37 Rw37 hS37 => hK _ _ (fun _ => hS37.after) ?_))
  clear hK K
  obtain ⟨zt40, zt40A, zt40c, rfl, rfl, zt40o, zt40l⟩ := Rw37
  refine t_seg (S := (fun x_ => St w x_ (Res.box blk8 [Value.slice A n c, Value.int .i64 ix31, Value.int .i64 hx32] 110 :: Res.box blk24 [Value.int .i64 ad14, Value.slice ld15A (List.length ld15) ld15c, Value.slice ld16A (List.length ld16) ld16c] 34 :: Res.win (Value.slice ld15A (List.length ld15) ld15c) 37 2 (List.length ld15) (flat true ld15y) :: Res.row (Value.slice ld16A (List.length ld16) ld16c) 49 1 (List.length ld16) (flat false ld16y) :: Res.box blk4 [Value.int .i64 0, Value.slice none 0 0] 37 :: Res.box blk2 [Value.int .i64 0, Value.slice none 0 0, Value.slice none 0 0] 34 :: ((ld15y.map (It.row .u8 5)) ++ ((ld16y.map (It.row .u8 5)) ++ []))))) [(4, .no)] 2 #[true, true, true, true, true, false, false] [(21, Value.agg #[Value.int .i64 ((ad14 + xd30) - (2 : Int)), Value.slice zt40A (List.length zt40) zt40c])] True (by kernel_rfl) (Qpanic.then Qpanic.bp) rfl (by kernel_rfl) trivial (hS37.drop) ?_
  refine a_op (i := 5) (fuel := 1) (listed' := #[true, true, true, true, true, true, false]) rfl rfl (by kernel_rfl) (by kernel_rfl) rfl (fun K hK => op_store (d := none) rfl rfl (i := 6) (b := blk2) (off := 0) (cs := [Value.int .i64 0, Value.slice none 0 0, Value.slice none 0 0]) (bt := 34) (by kernel_rfl) (by kernel_rfl) [Value.int .i64 ad14, Value.slice ld15A (List.length ld15) ld15c, Value.slice ld16A (List.length ld16) ld16c] (by kernel_rfl) (by kernel_rfl) (Nat.le_of_ble_eq_true (by kernel_rfl)) (by kernel_rfl) (Res.ro (Value.slice zt40A (List.length zt40) zt40c) (List.length zt40) (zt40.map (Value.int .u8)) :: Res.box blk8 [Value.slice A n c, Value.int .i64 ix31, Value.int .i64 hx32] 110 :: Res.box blk24 [Value.int .i64 ad14, Value.slice ld15A (List.length ld15) ld15c, Value.slice ld16A (List.length ld16) ld16c] 34 :: Res.win (Value.slice ld15A (List.length ld15) ld15c) 37 2 (List.length ld15) (flat true ld15y) :: Res.row (Value.slice ld16A (List.length ld16) ld16c) 49 1 (List.length ld16) (flat false ld16y) :: Res.box blk4 [Value.int .i64 0, Value.slice none 0 0] 37 :: Res.box blk2 [Value.int .i64 ad14, Value.slice ld15A (List.length ld15) ld15c, Value.slice ld16A (List.length ld16) ld16c] 34 :: ((ld15y.map (It.row .u8 5)) ++ ((ld16y.map (It.row .u8 5)) ++ []))) (by kernel_rfl) hS37 (fun w41 hS41 => hK _ _ (fun h => absurd h (by decide)) ?_))
  clear hK K
  refine a_op (i := 6) (fuel := 0) (listed' := #[true, true, true, true, true, true, true]) rfl rfl (by kernel_rfl) (by kernel_rfl) rfl (fun K hK => op_store (d := none) rfl rfl (i := 5) (b := blk4) (off := 0) (cs := [Value.int .i64 0, Value.slice none 0 0]) (bt := 37) (by kernel_rfl) (by kernel_rfl) [Value.int .i64 ((ad14 + xd30) - (2 : Int)), Value.slice zt40A (List.length zt40) zt40c] (by kernel_rfl) (by kernel_rfl) (Nat.le_of_ble_eq_true (by kernel_rfl)) (by kernel_rfl) (Res.ro (Value.slice zt40A (List.length zt40) zt40c) (List.length zt40) (zt40.map (Value.int .u8)) :: Res.box blk8 [Value.slice A n c, Value.int .i64 ix31, Value.int .i64 hx32] 110 :: Res.box blk24 [Value.int .i64 ad14, Value.slice ld15A (List.length ld15) ld15c, Value.slice ld16A (List.length ld16) ld16c] 34 :: Res.win (Value.slice ld15A (List.length ld15) ld15c) 37 2 (List.length ld15) (flat true ld15y) :: Res.row (Value.slice ld16A (List.length ld16) ld16c) 49 1 (List.length ld16) (flat false ld16y) :: Res.box blk4 [Value.int .i64 ((ad14 + xd30) - (2 : Int)), Value.slice zt40A (List.length zt40) zt40c] 37 :: Res.box blk2 [Value.int .i64 ad14, Value.slice ld15A (List.length ld15) ld15c, Value.slice ld16A (List.length ld16) ld16c] 34 :: ((ld15y.map (It.row .u8 5)) ++ ((ld16y.map (It.row .u8 5)) ++ []))) (by kernel_rfl) hS41 (fun w42 hS42 => hK _ _ (fun h => absurd h (by decide)) ?_))
  clear hK K
  refine a_done (by kernel_rfl) ?_
  refine then_n ?_
  refine wp_ret ?_
  have hS42s1 : St w w42 (Res.ro (Value.slice zt40A (List.length zt40) zt40c) (List.length zt40) (zt40.map (Value.int .u8)) :: Res.win (Value.slice ld15A (List.length ld15) ld15c) 37 2 (List.length ld15) (flat true ld15y) :: Res.row (Value.slice ld16A (List.length ld16) ld16c) 49 1 (List.length ld16) (flat false ld16y) :: ((ld15y.map (It.row .u8 5)) ++ ((ld16y.map (It.row .u8 5)) ++ []))) := (hS42.sub (List.Sublist.cons_cons _ (List.Sublist.cons _ (List.Sublist.cons _ (List.Sublist.cons_cons _ (List.Sublist.cons_cons _ (List.Sublist.cons _ (List.Sublist.cons _ (List.Sublist.append (List.Sublist.refl _) (List.Sublist.append (List.Sublist.refl _) List.Sublist.slnil))))))))))
  have hS42s1s2 : St w w42 (Res.ro (Value.slice zt40A (List.length zt40) zt40c) (List.length zt40) (zt40.map (Value.int .u8)) :: Res.win (Value.slice ld15A (List.length ld15) ld15c) 37 2 (List.length ld15) (flat true ld15y) :: Res.row (Value.slice ld16A (List.length ld16) ld16c) 49 1 (List.length ld16) (flat false ld16y) :: ((ld15y.map (It.row .u8 5)) ++ ((ld16y.map (It.row .u8 5)) ++ []))) := hS42s1.front 0 rfl
  have hS42s1s2s3 : St w w42 (Res.row (Value.slice ld16A (List.length ld16) ld16c) 49 1 (List.length ld16) (flat false ld16y) :: Res.ro (Value.slice zt40A (List.length zt40) zt40c) (List.length zt40) (zt40.map (Value.int .u8)) :: Res.win (Value.slice ld15A (List.length ld15) ld15c) 37 2 (List.length ld15) (flat true ld15y) :: ((ld15y.map (It.row .u8 5)) ++ ((ld16y.map (It.row .u8 5)) ++ []))) := hS42s1s2.front 2 rfl
  have hS42s1s2s3s4 : St w w42 (Res.win (Value.slice ld15A (List.length ld15) ld15c) 37 2 (List.length ld15) (flat true ld15y) :: Res.row (Value.slice ld16A (List.length ld16) ld16c) 49 1 (List.length ld16) (flat false ld16y) :: Res.ro (Value.slice zt40A (List.length zt40) zt40c) (List.length zt40) (zt40.map (Value.int .u8)) :: ((ld15y.map (It.row .u8 5)) ++ ((ld16y.map (It.row .u8 5)) ++ []))) := hS42s1s2s3.front 2 rfl
  exact c_end (S := (fun x_ => St w x_ (Res.ro (Value.slice zt40A (List.length zt40) zt40c) (List.length zt40) (zt40.map (Value.int .u8)) :: Res.box blk8 [Value.slice A n c, Value.int .i64 ix31, Value.int .i64 hx32] 110 :: Res.box blk24 [Value.int .i64 ad14, Value.slice ld15A (List.length ld15) ld15c, Value.slice ld16A (List.length ld16) ld16c] 34 :: Res.win (Value.slice ld15A (List.length ld15) ld15c) 37 2 (List.length ld15) (flat true ld15y) :: Res.row (Value.slice ld16A (List.length ld16) ld16c) 49 1 (List.length ld16) (flat false ld16y) :: Res.box blk4 [Value.int .i64 ((ad14 + xd30) - (2 : Int)), Value.slice zt40A (List.length zt40) zt40c] 37 :: Res.box blk2 [Value.int .i64 ad14, Value.slice ld15A (List.length ld15) ld15c, Value.slice ld16A (List.length ld16) ld16c] 34 :: ((ld15y.map (It.row .u8 5)) ++ ((ld16y.map (It.row .u8 5)) ++ []))))) (rs := [.cell 2 34, .cell 3 37]) rfl [Value.agg #[Value.int .i64 ad14, Value.slice ld15A (List.length ld15) ld15c, Value.slice ld16A (List.length ld16) ld16c], Value.agg #[Value.int .i64 ((ad14 + xd30) - (2 : Int)), Value.slice zt40A (List.length zt40) zt40c]] (v := Value.tuple #[Value.agg #[Value.int .i64 ad14, Value.slice ld15A (List.length ld15) ld15c, Value.slice ld16A (List.length ld16) ld16c], Value.agg #[Value.int .i64 ((ad14 + xd30) - (2 : Int)), Value.slice zt40A (List.length zt40) zt40c]]) (C := ((LoadsAt Try.prog (fun x_ => St w x_ (Res.ro (Value.slice zt40A (List.length zt40) zt40c) (List.length zt40) (zt40.map (Value.int .u8)) :: Res.box blk8 [Value.slice A n c, Value.int .i64 ix31, Value.int .i64 hx32] 110 :: Res.box blk24 [Value.int .i64 ad14, Value.slice ld15A (List.length ld15) ld15c, Value.slice ld16A (List.length ld16) ld16c] 34 :: Res.win (Value.slice ld15A (List.length ld15) ld15c) 37 2 (List.length ld15) (flat true ld15y) :: Res.row (Value.slice ld16A (List.length ld16) ld16c) 49 1 (List.length ld16) (flat false ld16y) :: Res.box blk4 [Value.int .i64 ((ad14 + xd30) - (2 : Int)), Value.slice zt40A (List.length zt40) zt40c] 37 :: Res.box blk2 [Value.int .i64 ad14, Value.slice ld15A (List.length ld15) ld15c, Value.slice ld16A (List.length ld16) ld16c] 34 :: ((ld15y.map (It.row .u8 5)) ++ ((ld16y.map (It.row .u8 5)) ++ [])))) 34 ⟨blk2, 0, none⟩ (Value.agg #[Value.int .i64 ad14, Value.slice ld15A (List.length ld15) ld15c, Value.slice ld16A (List.length ld16) ld16c])) ∧ (LoadsAt Try.prog (fun x_ => St w x_ (Res.ro (Value.slice zt40A (List.length zt40) zt40c) (List.length zt40) (zt40.map (Value.int .u8)) :: Res.box blk8 [Value.slice A n c, Value.int .i64 ix31, Value.int .i64 hx32] 110 :: Res.box blk24 [Value.int .i64 ad14, Value.slice ld15A (List.length ld15) ld15c, Value.slice ld16A (List.length ld16) ld16c] 34 :: Res.win (Value.slice ld15A (List.length ld15) ld15c) 37 2 (List.length ld15) (flat true ld15y) :: Res.row (Value.slice ld16A (List.length ld16) ld16c) 49 1 (List.length ld16) (flat false ld16y) :: Res.box blk4 [Value.int .i64 ((ad14 + xd30) - (2 : Int)), Value.slice zt40A (List.length zt40) zt40c] 37 :: Res.box blk2 [Value.int .i64 ad14, Value.slice ld15A (List.length ld15) ld15c, Value.slice ld16A (List.length ld16) ld16c] 34 :: ((ld15y.map (It.row .u8 5)) ++ ((ld16y.map (It.row .u8 5)) ++ [])))) 37 ⟨blk4, 0, none⟩ (Value.agg #[Value.int .i64 ((ad14 + xd30) - (2 : Int)), Value.slice zt40A (List.length zt40) zt40c])))) (by kernel_rfl) ⟨(ld_boxN (i := 6) (k := 3) rfl rfl rfl (by kernel_rfl)), (ld_boxN (i := 5) (k := 2) rfl rfl rfl (by kernel_rfl))⟩ hS42 (hS42s1s2s3s4.rt ⟨ad14, ld15, ld15A, ld15c, ld15y, ld16, ld16A, ld16c, ld16y, ((ad14 + xd30) - (2 : Int)), zt40, zt40A, zt40c, rfl, rfl, ld15q, ld15o, ld16q, ld16o, (by omega), (by omega), (by omega), (by omega), (by omega), zt40o, (by omega)⟩)
theorem samePackets_c (A B : Option Addr) (n c m d : Nat) (L M : List (Int × List Int)) (w : World) (hs : wt L ≤ 1099511627776) (hs2 : wt M ≤ 1099511627776) (hr : RdL .u8 true w w.heap.size A n L) (hr2 : RdL .u8 true w w.heap.size B m M) : Calls Try.prog 46 #[.slice A n c, .slice B m d] w (RetV w (.bool (decide (L = M)))) := by
  obtain ⟨hok, ys, hr, rfl⟩ := hr
  have hwl := wt_len (ys.map (con true))
  have hln := hr.len
  rw [List.length_map] at hwl
  obtain ⟨hok2, zs, hr2, rfl⟩ := hr2
  have hwl2 := wt_len (zs.map (con true))
  have hln2 := hr2.len
  rw [List.length_map] at hwl2
  refine calls_FA Try.func46 rfl (n := 42) rfl (l := [(0, Value.slice A n c), (1, Value.slice B m d)]) rfl (by simp) (fun g => ?_)
  have hS := St.init w
  refine wp_seq ?_
  refine c_reg ?_
  refine q_seg (S := (fun x_ => St w x_ [])) [(4, Value.bool false)] [.no] True (by kernel_rfl) trivial hS ?_
  refine l_nil rfl ?_
  refine then_n ?_
  refine wp_seq ?_
  refine wp_seq ?_
  refine c_reg ?_
  refine q_seg (S := (fun x_ => St w x_ [])) [(10, Value.bool (!(decide (((n : Nat) : Int) = ((m : Nat) : Int))))), (9, Value.int .i64 ((m : Nat) : Int)), (8, Value.slice B m d), (7, Value.int .i64 ((n : Nat) : Int)), (6, Value.slice A n c)] [.no, .no, .no, .no, .no] True (by kernel_rfl) trivial hS ?_
  refine l_nil rfl ?_
  refine then_n ?_
  rcases Bool.eq_false_or_eq_true (decide (((n : Nat) : Int) = ((m : Nat) : Int))) with hb1 | hb1
  · skip
    have hb1p := of_decide_eq_true hb1
    refine c_false (b := (!(decide (((n : Nat) : Int) = ((m : Nat) : Int))))) (by kernel_rfl) (nb (v := true) hb1) ?_
    refine wp_skip ?_
    refine then_n ?_
    refine wp_seq ?_
    refine wp_seq ?_
    refine c_reg ?_
    refine q_seg (S := (fun x_ => St w x_ [])) [(5, Value.int .i64 0)] [.no] True (by kernel_rfl) trivial hS ?_
    refine l_nil rfl ?_
    refine then_n ?_
    refine wp_block ?_
    refine c_loop (X := Nat) (fun (k : Nat) => [(0, Value.slice A n c), (1, Value.slice B m d), (5, Value.int .i64 ((k : Nat) : Int))]) (fun (k : Nat) (wr : World) => (k ≤ n) ∧ ((ys.map (con true)).take k = (zs.map (con true)).take k) ∧ St w wr []) (fun (k : Nat) => n - k) 0 ?_ ?_ ?_
    · exact (agree_cons (by kernel_rfl) (agree_cons (by kernel_rfl) (agree_cons (by kernel_rfl) agree_nil)))
    · exact ⟨Nat.zero_le _, rfl, hS⟩
    rintro k g3 w2 ⟨hkn, htk, hS2⟩
    refine wp_seq ?_
    refine wp_seq ?_
    refine c_reg ?_
    refine q_seg (S := (fun x_ => St w x_ [])) [(14, Value.bool (decide (((k : Nat) : Int) < ((n : Nat) : Int)))), (13, Value.int .i64 ((n : Nat) : Int)), (12, Value.slice A n c), (11, Value.int .i64 ((k : Nat) : Int))] [.no, .no, .no, .no] True (by kernel_rfl) trivial hS2 ?_
    refine l_nil rfl ?_
    refine then_n ?_
    rcases Bool.eq_false_or_eq_true (decide (((k : Nat) : Int) < ((n : Nat) : Int))) with hb4 | hb4
    · skip
      have hb4p := of_decide_eq_true hb4
      obtain ⟨b, off, rfl, hbB, hcl⟩ := hr.at (k := k) (by omega)
      obtain ⟨y, hyk, hym⟩ := get_of_lt (l := ys) (k := k) (by have := hr.len; omega)
      obtain ⟨hy1, hy2, hy3⟩ := hr.el y hym
      obtain ⟨hyi, hyz⟩ := hok _ (List.mem_map_of_mem (f := (con true)) hym)
      have hyl : y.zs.length + 1 ≤ wt (ys.map (con true)) := wt_mem (List.mem_map_of_mem (f := (con true)) hym)
      obtain ⟨b2, off2, rfl, hbB2, hcl2⟩ := hr2.at (k := k) (by omega)
      obtain ⟨z, hzk, hzm⟩ := get_of_lt (l := zs) (k := k) (by have := hr2.len; omega)
      obtain ⟨hz1, hz2, hz3⟩ := hr2.el z hzm
      obtain ⟨hzi, hzz⟩ := hok2 _ (List.mem_map_of_mem (f := (con true)) hzm)
      have hzl : z.zs.length + 1 ≤ wt (zs.map (con true)) := wt_mem (List.mem_map_of_mem (f := (con true)) hzm)
      refine c_true (b := (decide (((k : Nat) : Int) < ((n : Nat) : Int)))) (by kernel_rfl) hb4 ?_
      refine wp_skip ?_
      refine then_n ?_
      refine wp_seq ?_
      refine wp_block ?_
      refine wp_seq ?_
      refine c_drawn [] (by kernel_rfl) hS2 (fun w5 hS5 => ?_)
      refine t_seg (S := (fun x_ => St w x_ [])) [(0, .no), (1, .no), (5, .no), (6, .no), (2, .no), (7, .no), (3, .no), (8, .no), (4, .v (Value.int .i64 y.s)), (9, .v (Value.int .i64 z.s)), (10, .no), (11, .no)] 13 #[true, true, true, true, true, true, true, true, true, true, true, true, false, false, false, false, false, false, false, false, false, false, false, false, false] [(28, Value.bool (!(decide (y.s = z.s)))), (27, Value.bool (!(decide (y.s = z.s)))), (26, Value.int .i64 z.s), (21, Value.int .i64 y.s), (25, Value.pointer (some ⟨b2, off2 + Int.toNat ((k : Nat) : Int) * 2 + 0, none⟩)), (20, Value.pointer (some ⟨b, off + Int.toNat ((k : Nat) : Int) * 2 + 0, none⟩)), (24, Value.pointer (some ⟨b2, off2 + Int.toNat ((k : Nat) : Int) * 2, none⟩)), (19, Value.pointer (some ⟨b, off + Int.toNat ((k : Nat) : Int) * 2, none⟩)), (23, Value.int .i64 ((k : Nat) : Int)), (22, Value.slice (some ⟨b2, off2, none⟩) m d), (18, Value.int .i64 ((k : Nat) : Int)), (17, Value.slice (some ⟨b, off, none⟩) n c)] (((0 : Int) ≤ ((k : Nat) : Int)) ∧ (((k : Nat) : Int) < ((n : Nat) : Int)) ∧ ((0 : Int) ≤ ((k : Nat) : Int)) ∧ (((k : Nat) : Int) < ((m : Nat) : Int)) ∧ (LoadsAt Try.prog (fun x_ => St w x_ []) 3 ⟨b, off + Int.toNat ((k : Nat) : Int) * 2 + 0, none⟩ (Value.int .i64 y.s)) ∧ (LoadsAt Try.prog (fun x_ => St w x_ []) 3 ⟨b2, off2 + Int.toNat ((k : Nat) : Int) * 2 + 0, none⟩ (Value.int .i64 z.s))) (by kernel_rfl) (Qpanic.then (Qpanic.block (Qpanic.then (Qpanic.then (Qpanic.block (Qpanic.then Qpanic.bp)))))) rfl (by kernel_rfl) ⟨(by omega), (by omega), (by omega), (by omega), (ld_low (flat_cell (p := true) (r := 0) hcl hyk rfl) (by kernel_rfl)), (ld_low (flat_cell (p := true) (r := 0) hcl2 hzk rfl) (by kernel_rfl))⟩ hS5 ?_
      rcases Bool.eq_false_or_eq_true (decide (y.s = z.s)) with hb6 | hb6
      · skip
        have hb6p := of_decide_eq_true hb6
        refine t_seg (S := (fun x_ => St w x_ [])) [(12, .no), (13, .no), (17, .no), (18, .no), (14, .no), (19, .no), (15, .no), (20, .no), (16, .v (Value.slice y.A y.zs.length y.c)), (21, .v (Value.slice z.A z.zs.length z.c))] 3 #[true, true, true, true, true, true, true, true, true, true, true, true, true, true, true, true, true, true, true, true, true, true, false, false, false] [(38, Value.slice z.A z.zs.length z.c), (33, Value.slice y.A y.zs.length y.c), (37, Value.pointer (some ⟨b2, off2 + Int.toNat ((k : Nat) : Int) * 2 + 1, none⟩)), (32, Value.pointer (some ⟨b, off + Int.toNat ((k : Nat) : Int) * 2 + 1, none⟩)), (36, Value.pointer (some ⟨b2, off2 + Int.toNat ((k : Nat) : Int) * 2, none⟩)), (31, Value.pointer (some ⟨b, off + Int.toNat ((k : Nat) : Int) * 2, none⟩)), (35, Value.int .i64 ((k : Nat) : Int)), (34, Value.slice (some ⟨b2, off2, none⟩) m d), (30, Value.int .i64 ((k : Nat) : Int)), (29, Value.slice (some ⟨b, off, none⟩) n c)] (((!(decide (y.s = z.s))) = false) ∧ ((!(decide (y.s = z.s))) = false) ∧ ((!(decide (y.s = z.s))) = false) ∧ ((!(decide (y.s = z.s))) = false) ∧ ((!(decide (y.s = z.s))) = false) ∧ ((0 : Int) ≤ ((k : Nat) : Int)) ∧ (((k : Nat) : Int) < ((n : Nat) : Int)) ∧ ((!(decide (y.s = z.s))) = false) ∧ ((0 : Int) ≤ ((k : Nat) : Int)) ∧ (((k : Nat) : Int) < ((m : Nat) : Int)) ∧ ((!(decide (y.s = z.s))) = false) ∧ ((!(decide (y.s = z.s))) = false) ∧ ((!(decide (y.s = z.s))) = false) ∧ (LoadsAt Try.prog (fun x_ => St w x_ []) 26 ⟨b, off + Int.toNat ((k : Nat) : Int) * 2 + 1, none⟩ (Value.slice y.A y.zs.length y.c)) ∧ ((!(decide (y.s = z.s))) = false) ∧ (LoadsAt Try.prog (fun x_ => St w x_ []) 26 ⟨b2, off2 + Int.toNat ((k : Nat) : Int) * 2 + 1, none⟩ (Value.slice z.A z.zs.length z.c))) (by kernel_rfl) (Qpanic.then (Qpanic.block (Qpanic.then (Qpanic.then (Qpanic.block (Qpanic.then Qpanic.bp)))))) rfl (by kernel_rfl) ⟨(nb (v := true) hb6), (nb (v := true) hb6), (nb (v := true) hb6), (nb (v := true) hb6), (nb (v := true) hb6), (by omega), (by omega), (nb (v := true) hb6), (by omega), (by omega), (nb (v := true) hb6), (nb (v := true) hb6), (nb (v := true) hb6), (ld_low (flat_cell (p := true) (r := 1) hcl hyk rfl) (by kernel_rfl)), (nb (v := true) hb6), (ld_low (flat_cell (p := true) (r := 1) hcl2 hzk rfl) (by kernel_rfl))⟩ hS5 ?_
        refine a_opg (i := 22) (fuel := 2) (listed' := #[true, true, true, true, true, true, true, true, true, true, true, true, true, true, true, true, true, true, true, true, true, true, true, false, false]) rfl rfl (by kernel_rfl) (by kernel_rfl) (b := (!(decide (y.s = z.s)))) (want := false) (by kernel_rfl) (nb (v := true) hb6) (fun K hK => op_callv (d := some 39) rfl rfl ⟨_, Try.func28, by kernel_rfl, by kernel_rfl⟩ (vs := [Value.slice y.A y.zs.length y.c, Value.slice z.A z.zs.length z.c]) (by kernel_rfl) (v := Value.bool (decide (y.zs = z.zs))) (sameBytes_c y.A z.A y.zs.length y.c z.zs.length z.c y.zs z.zs w5 (by omega) (by omega) (hS5.rdlow hy1) (hS5.rdlow hz1)) hS5 (fun w7 hS7 => hK _ _ (fun _ => hS7) ?_))
        clear hK K
        refine t_seg (S := (fun x_ => St w x_ [])) [(23, .no), (24, .v (.bool false))] 0 #[true, true, true, true, true, true, true, true, true, true, true, true, true, true, true, true, true, true, true, true, true, true, true, true, true] [(41, Value.bool (!(decide (y.zs = z.zs)))), (40, Value.bool (!(decide (y.zs = z.zs))))] (((!(decide (y.s = z.s))) = false) ∧ ((!(decide (y.s = z.s))) = false)) (by kernel_rfl) (Qpanic.then (Qpanic.block (Qpanic.then (Qpanic.then (Qpanic.block (Qpanic.then Qpanic.bp)))))) rfl (by kernel_rfl) ⟨(nb (v := true) hb6), (nb (v := true) hb6)⟩ hS7 ?_
        refine a_done (by kernel_rfl) ?_
        refine then_n ?_
        rcases Bool.eq_false_or_eq_true (decide (y.zs = z.zs)) with hb8 | hb8
        · skip
          have hb8p := of_decide_eq_true hb8
          refine c_false (b := (!(decide (y.zs = z.zs)))) (by kernel_rfl) (nb (v := true) hb8) ?_
          refine wp_skip ?_
          refine blk_n ?_
          refine then_n ?_
          refine c_reg ?_
          refine q_seg (S := (fun x_ => St w x_ [])) [(5, Value.int .i64 (((k : Nat) : Int) + (1 : Int))), (16, Value.int .i64 (((k : Nat) : Int) + (1 : Int))), (15, Value.int .i64 ((k : Nat) : Int))] [.no, .no, .no] ((InK .i64 (((k : Nat) : Int) + (1 : Int)))) (by kernel_rfl) (in64 (by omega) (by omega)) hS7 ?_
          refine l_nil rfl ?_
          refine then_n ?_
          refine round_end (k + 1) ?_ ?_ ?_
          · exact (agree_cons (by kernel_rfl) (agree_cons (by kernel_rfl) (agree_cons (by kernel_rfl) agree_nil)))
          · exact ⟨(by omega), (tk_step htk (con_get hyk) (con_get hzk) (con_tt hb6p hb8p)), hS7⟩
          · exact (by first | omega | (dsimp only; omega))
        · skip
          have hb8p := of_decide_eq_false hb8
          refine c_true (b := (!(decide (y.zs = z.zs)))) (by kernel_rfl) (nb (v := false) hb8) ?_
          refine wp_seq ?_
          refine c_reg ?_
          refine q_seg (S := (fun x_ => St w x_ [])) [(4, Value.bool false)] [.no] True (by kernel_rfl) trivial hS7 ?_
          refine l_nil rfl ?_
          refine then_n ?_
          refine wp_ret ?_
          refine blk_r ?_
          refine then_r ?_
          refine then_r ?_
          refine blk_r ?_
          refine then_r ?_
          exact c_end (S := (fun x_ => St w x_ [])) (rs := [.tmp 4]) rfl [] (v := Value.bool false) (C := True) (by kernel_rfl) trivial hS7 ((hS7.rv (congrArg Value.bool (same_false (con_get hyk) (con_get hzk) (con_ne hb8p)).symm)))
      · skip
        have hb6p := of_decide_eq_false hb6
        refine t_seg (S := (fun x_ => St w x_ [])) [(12, .skip), (13, .skip), (17, .skip), (18, .skip), (14, .skip), (19, .skip), (15, .skip), (20, .skip), (16, .skip), (21, .skip), (22, .skip), (23, .skip), (24, .v (.bool true))] 0 #[true, true, true, true, true, true, true, true, true, true, true, true, true, true, true, true, true, true, true, true, true, true, true, true, true] [(41, Value.bool true), (40, undef), (39, undef), (38, undef), (33, undef), (37, undef), (32, undef), (36, undef), (31, undef), (35, undef), (34, undef), (30, undef), (29, undef)] (((!(decide (y.s = z.s))) = !false) ∧ ((!(decide (y.s = z.s))) = !false) ∧ ((!(decide (y.s = z.s))) = !false) ∧ ((!(decide (y.s = z.s))) = !false) ∧ ((!(decide (y.s = z.s))) = !false) ∧ ((!(decide (y.s = z.s))) = !false) ∧ ((!(decide (y.s = z.s))) = !false) ∧ ((!(decide (y.s = z.s))) = !false) ∧ ((!(decide (y.s = z.s))) = !false) ∧ ((!(decide (y.s = z.s))) = !false) ∧ ((!(decide (y.s = z.s))) = !false) ∧ ((!(decide (y.s = z.s))) = !false) ∧ ((!(decide (y.s = z.s))) = true)) (by kernel_rfl) (Qpanic.then (Qpanic.block (Qpanic.then (Qpanic.then (Qpanic.block (Qpanic.then Qpanic.bp)))))) rfl (by kernel_rfl) ⟨(nb (v := false) hb6), (nb (v := false) hb6), (nb (v := false) hb6), (nb (v := false) hb6), (nb (v := false) hb6), (nb (v := false) hb6), (nb (v := false) hb6), (nb (v := false) hb6), (nb (v := false) hb6), (nb (v := false) hb6), (nb (v := false) hb6), (nb (v := false) hb6), (nb (v := false) hb6)⟩ hS5 ?_
        refine a_done (by kernel_rfl) ?_
        refine then_n ?_
        refine c_true (b := true) (by kernel_rfl) rfl ?_
        refine wp_seq ?_
        refine c_reg ?_
        refine q_seg (S := (fun x_ => St w x_ [])) [(4, Value.bool false)] [.no] True (by kernel_rfl) trivial hS5 ?_
        refine l_nil rfl ?_
        refine then_n ?_
        refine wp_ret ?_
        refine blk_r ?_
        refine then_r ?_
        refine then_r ?_
        refine blk_r ?_
        refine then_r ?_
        exact c_end (S := (fun x_ => St w x_ [])) (rs := [.tmp 4]) rfl [] (v := Value.bool false) (C := True) (by kernel_rfl) trivial hS5 ((hS5.rv (congrArg Value.bool (same_false (con_get hyk) (con_get hzk) (con_ne1 hb6p)).symm)))
    · skip
      have hb4p := of_decide_eq_false hb4
      refine c_false (b := (decide (((k : Nat) : Int) < ((n : Nat) : Int)))) (by kernel_rfl) hb4 ?_
      refine wp_exit ?_
      refine then_x ?_
      refine then_x ?_
      refine blk_hit ?_
      refine then_n ?_
      refine wp_seq ?_
      refine c_reg ?_
      refine q_seg (S := (fun x_ => St w x_ [])) [(4, Value.bool true)] [.no] True (by kernel_rfl) trivial hS2 ?_
      refine l_nil rfl ?_
      refine then_n ?_
      refine wp_ret ?_
      exact c_end (S := (fun x_ => St w x_ [])) (rs := [.tmp 4]) rfl [] (v := Value.bool true) (C := True) (by kernel_rfl) trivial hS2 ((hS2.rv (congrArg Value.bool (same_true htk (by rw [List.length_map]; omega) (by rw [List.length_map]; omega)).symm)))
  · skip
    have hb1p := of_decide_eq_false hb1
    refine c_true (b := (!(decide (((n : Nat) : Int) = ((m : Nat) : Int))))) (by kernel_rfl) (nb (v := false) hb1) ?_
    refine wp_seq ?_
    refine c_reg ?_
    refine q_seg (S := (fun x_ => St w x_ [])) [(4, Value.bool false)] [.no] True (by kernel_rfl) trivial hS ?_
    refine l_nil rfl ?_
    refine then_n ?_
    refine wp_ret ?_
    refine then_r ?_
    exact c_end (S := (fun x_ => St w x_ [])) (rs := [.tmp 4]) rfl [] (v := Value.bool false) (C := True) (by kernel_rfl) trivial hS ((hS.rv (congrArg Value.bool (same_len (by rw [List.length_map, List.length_map]; omega)).symm)))
theorem samePayloads_c (A B : Option Addr) (n c m d : Nat) (L M : List (Int × List Int)) (w : World) (hs : wt L ≤ 1099511627776) (hs2 : wt M ≤ 1099511627776) (hr : RdL .u8 false w w.heap.size A n L) (hr2 : RdL .u8 false w w.heap.size B m M) : Calls Try.prog 59 #[.slice A n c, .slice B m d] w (RetV w (.bool (decide (L = M)))) := by
  obtain ⟨hok, ys, hr, rfl⟩ := hr
  have hwl := wt_len (ys.map (con false))
  have hln := hr.len
  rw [List.length_map] at hwl
  obtain ⟨hok2, zs, hr2, rfl⟩ := hr2
  have hwl2 := wt_len (zs.map (con false))
  have hln2 := hr2.len
  rw [List.length_map] at hwl2
  refine calls_FA Try.func59 rfl (n := 29) rfl (l := [(0, Value.slice A n c), (1, Value.slice B m d)]) rfl (by simp) (fun g => ?_)
  have hS := St.init w
  refine wp_seq ?_
  refine c_reg ?_
  refine q_seg (S := (fun x_ => St w x_ [])) [(4, Value.bool false)] [.no] True (by kernel_rfl) trivial hS ?_
  refine l_nil rfl ?_
  refine then_n ?_
  refine wp_seq ?_
  refine wp_seq ?_
  refine c_reg ?_
  refine q_seg (S := (fun x_ => St w x_ [])) [(10, Value.bool (!(decide (((n : Nat) : Int) = ((m : Nat) : Int))))), (9, Value.int .i64 ((m : Nat) : Int)), (8, Value.slice B m d), (7, Value.int .i64 ((n : Nat) : Int)), (6, Value.slice A n c)] [.no, .no, .no, .no, .no] True (by kernel_rfl) trivial hS ?_
  refine l_nil rfl ?_
  refine then_n ?_
  rcases Bool.eq_false_or_eq_true (decide (((n : Nat) : Int) = ((m : Nat) : Int))) with hb1 | hb1
  · skip
    have hb1p := of_decide_eq_true hb1
    refine c_false (b := (!(decide (((n : Nat) : Int) = ((m : Nat) : Int))))) (by kernel_rfl) (nb (v := true) hb1) ?_
    refine wp_skip ?_
    refine then_n ?_
    refine wp_seq ?_
    refine wp_seq ?_
    refine c_reg ?_
    refine q_seg (S := (fun x_ => St w x_ [])) [(5, Value.int .i64 0)] [.no] True (by kernel_rfl) trivial hS ?_
    refine l_nil rfl ?_
    refine then_n ?_
    refine wp_block ?_
    refine c_loop (X := Nat) (fun (k : Nat) => [(0, Value.slice A n c), (1, Value.slice B m d), (5, Value.int .i64 ((k : Nat) : Int))]) (fun (k : Nat) (wr : World) => (k ≤ n) ∧ ((ys.map (con false)).take k = (zs.map (con false)).take k) ∧ St w wr []) (fun (k : Nat) => n - k) 0 ?_ ?_ ?_
    · exact (agree_cons (by kernel_rfl) (agree_cons (by kernel_rfl) (agree_cons (by kernel_rfl) agree_nil)))
    · exact ⟨Nat.zero_le _, rfl, hS⟩
    rintro k g3 w2 ⟨hkn, htk, hS2⟩
    refine wp_seq ?_
    refine wp_seq ?_
    refine c_reg ?_
    refine q_seg (S := (fun x_ => St w x_ [])) [(14, Value.bool (decide (((k : Nat) : Int) < ((n : Nat) : Int)))), (13, Value.int .i64 ((n : Nat) : Int)), (12, Value.slice A n c), (11, Value.int .i64 ((k : Nat) : Int))] [.no, .no, .no, .no] True (by kernel_rfl) trivial hS2 ?_
    refine l_nil rfl ?_
    refine then_n ?_
    rcases Bool.eq_false_or_eq_true (decide (((k : Nat) : Int) < ((n : Nat) : Int))) with hb4 | hb4
    · skip
      have hb4p := of_decide_eq_true hb4
      obtain ⟨b, off, rfl, hbB, hcl⟩ := hr.at (k := k) (by omega)
      obtain ⟨y, hyk, hym⟩ := get_of_lt (l := ys) (k := k) (by have := hr.len; omega)
      obtain ⟨hy1, hy2, hy3⟩ := hr.el y hym
      obtain ⟨hyi, hyz⟩ := hok _ (List.mem_map_of_mem (f := (con false)) hym)
      have hyl : y.zs.length + 1 ≤ wt (ys.map (con false)) := wt_mem (List.mem_map_of_mem (f := (con false)) hym)
      obtain ⟨b2, off2, rfl, hbB2, hcl2⟩ := hr2.at (k := k) (by omega)
      obtain ⟨z, hzk, hzm⟩ := get_of_lt (l := zs) (k := k) (by have := hr2.len; omega)
      obtain ⟨hz1, hz2, hz3⟩ := hr2.el z hzm
      obtain ⟨hzi, hzz⟩ := hok2 _ (List.mem_map_of_mem (f := (con false)) hzm)
      have hzl : z.zs.length + 1 ≤ wt (zs.map (con false)) := wt_mem (List.mem_map_of_mem (f := (con false)) hzm)
      refine c_true (b := (decide (((k : Nat) : Int) < ((n : Nat) : Int)))) (by kernel_rfl) hb4 ?_
      refine wp_skip ?_
      refine then_n ?_
      refine wp_seq ?_
      refine wp_block ?_
      refine wp_seq ?_
      refine c_drawn [] (by kernel_rfl) hS2 (fun w5 hS5 => ?_)
      refine t_seg (S := (fun x_ => St w x_ [])) [(0, .no), (1, .no), (5, .no), (6, .no), (2, .no), (7, .no), (3, .no), (8, .no), (4, .v (Value.slice y.A y.zs.length y.c)), (9, .v (Value.slice z.A z.zs.length z.c))] 2 #[true, true, true, true, true, true, true, true, true, true, false, false] [(26, Value.slice z.A z.zs.length z.c), (21, Value.slice y.A y.zs.length y.c), (25, Value.pointer (some ⟨b2, off2 + Int.toNat ((k : Nat) : Int) * 1 + 0, none⟩)), (20, Value.pointer (some ⟨b, off + Int.toNat ((k : Nat) : Int) * 1 + 0, none⟩)), (24, Value.pointer (some ⟨b2, off2 + Int.toNat ((k : Nat) : Int) * 1, none⟩)), (19, Value.pointer (some ⟨b, off + Int.toNat ((k : Nat) : Int) * 1, none⟩)), (23, Value.int .i64 ((k : Nat) : Int)), (22, Value.slice (some ⟨b2, off2, none⟩) m d), (18, Value.int .i64 ((k : Nat) : Int)), (17, Value.slice (some ⟨b, off, none⟩) n c)] (((0 : Int) ≤ ((k : Nat) : Int)) ∧ (((k : Nat) : Int) < ((n : Nat) : Int)) ∧ ((0 : Int) ≤ ((k : Nat) : Int)) ∧ (((k : Nat) : Int) < ((m : Nat) : Int)) ∧ (LoadsAt Try.prog (fun x_ => St w x_ []) 26 ⟨b, off + Int.toNat ((k : Nat) : Int) * 1 + 0, none⟩ (Value.slice y.A y.zs.length y.c)) ∧ (LoadsAt Try.prog (fun x_ => St w x_ []) 26 ⟨b2, off2 + Int.toNat ((k : Nat) : Int) * 1 + 0, none⟩ (Value.slice z.A z.zs.length z.c))) (by kernel_rfl) (Qpanic.then (Qpanic.block (Qpanic.then (Qpanic.then (Qpanic.block (Qpanic.then Qpanic.bp)))))) rfl (by kernel_rfl) ⟨(by omega), (by omega), (by omega), (by omega), (ld_low (flat_cell (p := false) (r := 0) hcl hyk rfl) (by kernel_rfl)), (ld_low (flat_cell (p := false) (r := 0) hcl2 hzk rfl) (by kernel_rfl))⟩ hS5 ?_
      refine a_op (i := 10) (fuel := 1) (listed' := #[true, true, true, true, true, true, true, true, true, true, true, false]) rfl rfl (by kernel_rfl) (by kernel_rfl) rfl (fun K hK => op_callv (d := some 27) rfl rfl ⟨_, Try.func28, by kernel_rfl, by kernel_rfl⟩ (vs := [Value.slice y.A y.zs.length y.c, Value.slice z.A z.zs.length z.c]) (by kernel_rfl) (v := Value.bool (decide (y.zs = z.zs))) (sameBytes_c y.A z.A y.zs.length y.c z.zs.length z.c y.zs z.zs w5 (by omega) (by omega) (hS5.rdlow hy1) (hS5.rdlow hz1)) hS5 (fun w6 hS6 => hK _ _ (fun _ => hS6) ?_))
      clear hK K
      refine t_seg (S := (fun x_ => St w x_ [])) [(11, .no)] 0 #[true, true, true, true, true, true, true, true, true, true, true, true] [(28, Value.bool (!(decide (y.zs = z.zs))))] True (by kernel_rfl) (Qpanic.then (Qpanic.block (Qpanic.then (Qpanic.then (Qpanic.block (Qpanic.then Qpanic.bp)))))) rfl (by kernel_rfl) trivial hS6 ?_
      refine a_done (by kernel_rfl) ?_
      refine then_n ?_
      rcases Bool.eq_false_or_eq_true (decide (y.zs = z.zs)) with hb7 | hb7
      · skip
        have hb7p := of_decide_eq_true hb7
        refine c_false (b := (!(decide (y.zs = z.zs)))) (by kernel_rfl) (nb (v := true) hb7) ?_
        refine wp_skip ?_
        refine blk_n ?_
        refine then_n ?_
        refine c_reg ?_
        refine q_seg (S := (fun x_ => St w x_ [])) [(5, Value.int .i64 (((k : Nat) : Int) + (1 : Int))), (16, Value.int .i64 (((k : Nat) : Int) + (1 : Int))), (15, Value.int .i64 ((k : Nat) : Int))] [.no, .no, .no] ((InK .i64 (((k : Nat) : Int) + (1 : Int)))) (by kernel_rfl) (in64 (by omega) (by omega)) hS6 ?_
        refine l_nil rfl ?_
        refine then_n ?_
        refine round_end (k + 1) ?_ ?_ ?_
        · exact (agree_cons (by kernel_rfl) (agree_cons (by kernel_rfl) (agree_cons (by kernel_rfl) agree_nil)))
        · exact ⟨(by omega), (tk_step htk (con_get hyk) (con_get hzk) (con_ff hb7p)), hS6⟩
        · exact (by first | omega | (dsimp only; omega))
      · skip
        have hb7p := of_decide_eq_false hb7
        refine c_true (b := (!(decide (y.zs = z.zs)))) (by kernel_rfl) (nb (v := false) hb7) ?_
        refine wp_seq ?_
        refine c_reg ?_
        refine q_seg (S := (fun x_ => St w x_ [])) [(4, Value.bool false)] [.no] True (by kernel_rfl) trivial hS6 ?_
        refine l_nil rfl ?_
        refine then_n ?_
        refine wp_ret ?_
        refine blk_r ?_
        refine then_r ?_
        refine then_r ?_
        refine blk_r ?_
        refine then_r ?_
        exact c_end (S := (fun x_ => St w x_ [])) (rs := [.tmp 4]) rfl [] (v := Value.bool false) (C := True) (by kernel_rfl) trivial hS6 ((hS6.rv (congrArg Value.bool (same_false (con_get hyk) (con_get hzk) (con_ne hb7p)).symm)))
    · skip
      have hb4p := of_decide_eq_false hb4
      refine c_false (b := (decide (((k : Nat) : Int) < ((n : Nat) : Int)))) (by kernel_rfl) hb4 ?_
      refine wp_exit ?_
      refine then_x ?_
      refine then_x ?_
      refine blk_hit ?_
      refine then_n ?_
      refine wp_seq ?_
      refine c_reg ?_
      refine q_seg (S := (fun x_ => St w x_ [])) [(4, Value.bool true)] [.no] True (by kernel_rfl) trivial hS2 ?_
      refine l_nil rfl ?_
      refine then_n ?_
      refine wp_ret ?_
      exact c_end (S := (fun x_ => St w x_ [])) (rs := [.tmp 4]) rfl [] (v := Value.bool true) (C := True) (by kernel_rfl) trivial hS2 ((hS2.rv (congrArg Value.bool (same_true htk (by rw [List.length_map]; omega) (by rw [List.length_map]; omega)).symm)))
  · skip
    have hb1p := of_decide_eq_false hb1
    refine c_true (b := (!(decide (((n : Nat) : Int) = ((m : Nat) : Int))))) (by kernel_rfl) (nb (v := false) hb1) ?_
    refine wp_seq ?_
    refine c_reg ?_
    refine q_seg (S := (fun x_ => St w x_ [])) [(4, Value.bool false)] [.no] True (by kernel_rfl) trivial hS ?_
    refine l_nil rfl ?_
    refine then_n ?_
    refine wp_ret ?_
    refine then_r ?_
    exact c_end (S := (fun x_ => St w x_ [])) (rs := [.tmp 4]) rfl [] (v := Value.bool false) (C := True) (by kernel_rfl) trivial hS ((hS.rv (congrArg Value.bool (same_len (by rw [List.length_map, List.length_map]; omega)).symm)))
theorem sameReceiver_c (a0 : Int) (a1A : Option Addr) (a1n a1c : Nat) (a1L : List (Int × List Int)) (a2A : Option Addr) (a2n a2c : Nat) (a2L : List (Int × List Int)) (b0 : Int) (b1A : Option Addr) (b1n b1c : Nat) (b1L : List (Int × List Int)) (b2A : Option Addr) (b2n b2c : Nat) (b2L : List (Int × List Int)) (w : World) (a1h : RdL .u8 true w w.heap.size a1A a1n a1L) (a1w : wt a1L ≤ 1099511627776) (a2h : RdL .u8 false w w.heap.size a2A a2n a2L) (a2w : wt a2L ≤ 1099511627776) (b1h : RdL .u8 true w w.heap.size b1A b1n b1L) (b1w : wt b1L ≤ 1099511627776) (b2h : RdL .u8 false w w.heap.size b2A b2n b2L) (b2w : wt b2L ≤ 1099511627776) : Calls Try.prog 58 #[Value.agg #[Value.int .i64 a0, Value.slice a1A a1n a1c, Value.slice a2A a2n a2c], Value.agg #[Value.int .i64 b0, Value.slice b1A b1n b1c, Value.slice b2A b2n b2c]] w (RetV w (.bool ((decide (a0 = b0) && decide (a1L = b1L)) && decide (a2L = b2L)))) := by
  have a1l := a1h.len
  have a1v := wt_len a1L
  have a2l := a2h.len
  have a2v := wt_len a2L
  have b1l := b1h.len
  have b1v := wt_len b1L
  have b2l := b2h.len
  have b2v := wt_len b2L
  refine calls_FA Try.func58 rfl (n := 24) rfl (l := [(0, Value.agg #[Value.int .i64 a0, Value.slice a1A a1n a1c, Value.slice a2A a2n a2c]), (1, Value.agg #[Value.int .i64 b0, Value.slice b1A b1n b1c, Value.slice b2A b2n b2c])]) rfl (by simp) (fun g => ?_)
  have hS := St.init w
  refine wp_seq ?_
  refine c_reg ?_
  refine l_op rfl rfl (fun K hK => op_box (d := some 2) rfl rfl [Value.int .i64 a0, Value.slice a1A a1n a1c, Value.slice a2A a2n a2c] (by kernel_rfl) hS (fun blk2 w1 hS1 => hK _ _ ?_))
  clear hK K
  refine l_op rfl rfl (fun K hK => op_box (d := some 3) rfl rfl [Value.int .i64 b0, Value.slice b1A b1n b1c, Value.slice b2A b2n b2c] (by kernel_rfl) hS1 (fun blk4 w3 hS3 => hK _ _ ?_))
  clear hK K
  refine q_seg (S := (fun x_ => St w x_ [Res.box blk4 [Value.int .i64 b0, Value.slice b1A b1n b1c, Value.slice b2A b2n b2c] 34, Res.box blk2 [Value.int .i64 a0, Value.slice a1A a1n a1c, Value.slice a2A a2n a2c] 34])) [(4, Value.bool false)] [.no] True (by kernel_rfl) trivial hS3 ?_
  refine l_nil rfl ?_
  refine then_n ?_
  refine wp_seq ?_
  refine c_reg ?_
  refine q_seg (S := (fun x_ => St w x_ [Res.box blk4 [Value.int .i64 b0, Value.slice b1A b1n b1c, Value.slice b2A b2n b2c] 34, Res.box blk2 [Value.int .i64 a0, Value.slice a1A a1n a1c, Value.slice a2A a2n a2c] 34])) [(10, Value.bool (decide (a0 = b0))), (9, Value.bool (decide (a0 = b0))), (8, Value.int .i64 b0), (7, Value.pointer (some ⟨blk4, 0 + 0, none⟩)), (6, Value.int .i64 a0), (5, Value.pointer (some ⟨blk2, 0 + 0, none⟩))] [.no, .v (Value.int .i64 a0), .no, .v (Value.int .i64 b0), .no, .no] ((LoadsAt Try.prog (fun x_ => St w x_ [Res.box blk4 [Value.int .i64 b0, Value.slice b1A b1n b1c, Value.slice b2A b2n b2c] 34, Res.box blk2 [Value.int .i64 a0, Value.slice a1A a1n a1c, Value.slice a2A a2n a2c] 34]) 3 ⟨blk2, 0 + 0, none⟩ (Value.int .i64 a0)) ∧ (LoadsAt Try.prog (fun x_ => St w x_ [Res.box blk4 [Value.int .i64 b0, Value.slice b1A b1n b1c, Value.slice b2A b2n b2c] 34, Res.box blk2 [Value.int .i64 a0, Value.slice a1A a1n a1c, Value.slice a2A a2n a2c] 34]) 3 ⟨blk4, 0 + 0, none⟩ (Value.int .i64 b0))) (by kernel_rfl) ⟨(ld_box (i := 1) rfl rfl (by kernel_rfl)), (ld_box (i := 0) rfl rfl (by kernel_rfl))⟩ hS3 ?_
  rcases Bool.eq_false_or_eq_true (decide (a0 = b0)) with hb5 | hb5
  · skip
    have hb5p := of_decide_eq_true hb5
    refine q_seg (S := (fun x_ => St w x_ [Res.box blk4 [Value.int .i64 b0, Value.slice b1A b1n b1c, Value.slice b2A b2n b2c] 34, Res.box blk2 [Value.int .i64 a0, Value.slice a1A a1n a1c, Value.slice a2A a2n a2c] 34])) [(14, Value.slice b1A b1n b1c), (13, Value.pointer (some ⟨blk4, 0 + 1, none⟩)), (12, Value.slice a1A a1n a1c), (11, Value.pointer (some ⟨blk2, 0 + 1, none⟩))] [.no, .v (Value.slice a1A a1n a1c), .no, .v (Value.slice b1A b1n b1c)] (((decide (a0 = b0)) = true) ∧ ((decide (a0 = b0)) = true) ∧ (LoadsAt Try.prog (fun x_ => St w x_ [Res.box blk4 [Value.int .i64 b0, Value.slice b1A b1n b1c, Value.slice b2A b2n b2c] 34, Res.box blk2 [Value.int .i64 a0, Value.slice a1A a1n a1c, Value.slice a2A a2n a2c] 34]) 31 ⟨blk2, 0 + 1, none⟩ (Value.slice a1A a1n a1c)) ∧ ((decide (a0 = b0)) = true) ∧ ((decide (a0 = b0)) = true) ∧ (LoadsAt Try.prog (fun x_ => St w x_ [Res.box blk4 [Value.int .i64 b0, Value.slice b1A b1n b1c, Value.slice b2A b2n b2c] 34, Res.box blk2 [Value.int .i64 a0, Value.slice a1A a1n a1c, Value.slice a2A a2n a2c] 34]) 31 ⟨blk4, 0 + 1, none⟩ (Value.slice b1A b1n b1c))) (by kernel_rfl) ⟨hb5, hb5, (ld_box (i := 1) rfl rfl (by kernel_rfl)), hb5, hb5, (ld_box (i := 0) rfl rfl (by kernel_rfl))⟩ hS3 ?_
    refine l_opg rfl (b := (decide (a0 = b0))) (want := true) (by kernel_rfl) hb5 (fun K hK => op_callv (d := some 15) rfl rfl ⟨_, Try.func46, by kernel_rfl, by kernel_rfl⟩ (vs := [Value.slice a1A a1n a1c, Value.slice b1A b1n b1c]) (by kernel_rfl) (v := Value.bool (decide (a1L = b1L))) (samePackets_c a1A b1A a1n a1c b1n b1c a1L b1L w3 (by omega) (by omega) (hS3.rdllow a1h) (hS3.rdllow b1h)) hS3 (fun w6 hS6 => hK _ _ ?_))
    clear hK K
    refine q_seg (S := (fun x_ => St w x_ [Res.box blk4 [Value.int .i64 b0, Value.slice b1A b1n b1c, Value.slice b2A b2n b2c] 34, Res.box blk2 [Value.int .i64 a0, Value.slice a1A a1n a1c, Value.slice a2A a2n a2c] 34])) [(17, Value.bool (decide (a1L = b1L))), (16, Value.bool (decide (a1L = b1L)))] [.v (.bool true), .no] (((decide (a0 = b0)) = true)) (by kernel_rfl) hb5 hS6 ?_
    rcases Bool.eq_false_or_eq_true (decide (a1L = b1L)) with hb7 | hb7
    · skip
      have hb7p := of_decide_eq_true hb7
      refine q_seg (S := (fun x_ => St w x_ [Res.box blk4 [Value.int .i64 b0, Value.slice b1A b1n b1c, Value.slice b2A b2n b2c] 34, Res.box blk2 [Value.int .i64 a0, Value.slice a1A a1n a1c, Value.slice a2A a2n a2c] 34])) [(21, Value.slice b2A b2n b2c), (20, Value.pointer (some ⟨blk4, 0 + 2, none⟩)), (19, Value.slice a2A a2n a2c), (18, Value.pointer (some ⟨blk2, 0 + 2, none⟩))] [.no, .v (Value.slice a2A a2n a2c), .no, .v (Value.slice b2A b2n b2c)] (((decide (a1L = b1L)) = true) ∧ ((decide (a1L = b1L)) = true) ∧ (LoadsAt Try.prog (fun x_ => St w x_ [Res.box blk4 [Value.int .i64 b0, Value.slice b1A b1n b1c, Value.slice b2A b2n b2c] 34, Res.box blk2 [Value.int .i64 a0, Value.slice a1A a1n a1c, Value.slice a2A a2n a2c] 34]) 32 ⟨blk2, 0 + 2, none⟩ (Value.slice a2A a2n a2c)) ∧ ((decide (a1L = b1L)) = true) ∧ ((decide (a1L = b1L)) = true) ∧ (LoadsAt Try.prog (fun x_ => St w x_ [Res.box blk4 [Value.int .i64 b0, Value.slice b1A b1n b1c, Value.slice b2A b2n b2c] 34, Res.box blk2 [Value.int .i64 a0, Value.slice a1A a1n a1c, Value.slice a2A a2n a2c] 34]) 32 ⟨blk4, 0 + 2, none⟩ (Value.slice b2A b2n b2c))) (by kernel_rfl) ⟨hb7, hb7, (ld_box (i := 1) rfl rfl (by kernel_rfl)), hb7, hb7, (ld_box (i := 0) rfl rfl (by kernel_rfl))⟩ hS6 ?_
      refine l_opg rfl (b := (decide (a1L = b1L))) (want := true) (by kernel_rfl) hb7 (fun K hK => op_callv (d := some 22) rfl rfl ⟨_, Try.func59, by kernel_rfl, by kernel_rfl⟩ (vs := [Value.slice a2A a2n a2c, Value.slice b2A b2n b2c]) (by kernel_rfl) (v := Value.bool (decide (a2L = b2L))) (samePayloads_c a2A b2A a2n a2c b2n b2c a2L b2L w6 (by omega) (by omega) (hS6.rdllow a2h) (hS6.rdllow b2h)) hS6 (fun w8 hS8 => hK _ _ ?_))
      clear hK K
      refine q_seg (S := (fun x_ => St w x_ [Res.box blk4 [Value.int .i64 b0, Value.slice b1A b1n b1c, Value.slice b2A b2n b2c] 34, Res.box blk2 [Value.int .i64 a0, Value.slice a1A a1n a1c, Value.slice a2A a2n a2c] 34])) [(4, Value.bool (decide (a2L = b2L))), (23, Value.bool (decide (a2L = b2L)))] [.v (.bool true), .no] (((decide (a1L = b1L)) = true)) (by kernel_rfl) hb7 hS8 ?_
      refine l_nil rfl ?_
      refine then_n ?_
      refine wp_ret ?_
      exact c_end (S := (fun x_ => St w x_ [Res.box blk4 [Value.int .i64 b0, Value.slice b1A b1n b1c, Value.slice b2A b2n b2c] 34, Res.box blk2 [Value.int .i64 a0, Value.slice a1A a1n a1c, Value.slice a2A a2n a2c] 34])) (rs := [.tmp 4]) rfl [] (v := Value.bool (decide (a2L = b2L))) (C := True) (by kernel_rfl) trivial hS8 ((hS8.rv (congrArg Value.bool (by first | rfl | simp [*]))))
    · skip
      have hb7p := of_decide_eq_false hb7
      refine q_seg (S := (fun x_ => St w x_ [Res.box blk4 [Value.int .i64 b0, Value.slice b1A b1n b1c, Value.slice b2A b2n b2c] 34, Res.box blk2 [Value.int .i64 a0, Value.slice a1A a1n a1c, Value.slice a2A a2n a2c] 34])) [(4, Value.bool false), (23, Value.bool false), (22, undef), (21, undef), (20, undef), (19, undef), (18, undef)] [.skip, .skip, .skip, .skip, .skip, .v (.bool false), .no] (((decide (a1L = b1L)) = !true) ∧ ((decide (a1L = b1L)) = !true) ∧ ((decide (a1L = b1L)) = !true) ∧ ((decide (a1L = b1L)) = !true) ∧ ((decide (a1L = b1L)) = !true) ∧ ((decide (a1L = b1L)) = false)) (by kernel_rfl) ⟨hb7, hb7, hb7, hb7, hb7, hb7⟩ hS6 ?_
      refine l_nil rfl ?_
      refine then_n ?_
      refine wp_ret ?_
      exact c_end (S := (fun x_ => St w x_ [Res.box blk4 [Value.int .i64 b0, Value.slice b1A b1n b1c, Value.slice b2A b2n b2c] 34, Res.box blk2 [Value.int .i64 a0, Value.slice a1A a1n a1c, Value.slice a2A a2n a2c] 34])) (rs := [.tmp 4]) rfl [] (v := Value.bool false) (C := True) (by kernel_rfl) trivial hS6 ((hS6.rv (congrArg Value.bool (by first | rfl | simp [*]))))
  · skip
    have hb5p := of_decide_eq_false hb5
    refine q_seg (S := (fun x_ => St w x_ [Res.box blk4 [Value.int .i64 b0, Value.slice b1A b1n b1c, Value.slice b2A b2n b2c] 34, Res.box blk2 [Value.int .i64 a0, Value.slice a1A a1n a1c, Value.slice a2A a2n a2c] 34])) [(4, Value.bool false), (23, Value.bool false), (22, undef), (21, undef), (20, undef), (19, undef), (18, undef), (17, Value.bool false), (16, Value.bool false), (15, undef), (14, undef), (13, undef), (12, undef), (11, undef)] [.skip, .skip, .skip, .skip, .skip, .v (.bool false), .no, .skip, .skip, .skip, .skip, .skip, .v (.bool false), .no] (((decide (a0 = b0)) = !true) ∧ ((decide (a0 = b0)) = !true) ∧ ((decide (a0 = b0)) = !true) ∧ ((decide (a0 = b0)) = !true) ∧ ((decide (a0 = b0)) = !true) ∧ ((decide (a0 = b0)) = false) ∧ (false = !true) ∧ (false = !true) ∧ (false = !true) ∧ (false = !true) ∧ (false = !true) ∧ (false = false)) (by kernel_rfl) ⟨hb5, hb5, hb5, hb5, hb5, hb5, rfl, rfl, rfl, rfl, rfl, rfl⟩ hS3 ?_
    refine l_nil rfl ?_
    refine then_n ?_
    refine wp_ret ?_
    exact c_end (S := (fun x_ => St w x_ [Res.box blk4 [Value.int .i64 b0, Value.slice b1A b1n b1c, Value.slice b2A b2n b2c] 34, Res.box blk2 [Value.int .i64 a0, Value.slice a1A a1n a1c, Value.slice a2A a2n a2c] 34])) (rs := [.tmp 4]) rfl [] (v := Value.bool false) (C := True) (by kernel_rfl) trivial hS3 ((hS3.rv (congrArg Value.bool (by first | rfl | simp [*]))))
end Go.Proofs.Ytchkiohikhfecaa
