/-
  Contracts of FormatInt and FormatPaging.
-/
import Derived.Test.YtkcedoehehjceaaDoorItoa
import Derived.Test.YtkcedoehehjceaaDoorTypes
import Derived.Test.YtkcedoehehjceaaDoorShelf
import Derived.Lib.LaidTab
namespace Go.Proofs.YtkcedoehehjceaaDoor
open Go.RowKit
set_option maxRecDepth 100000

theorem below_grow {w : World} {k : Nat} {os : Array Obj} : Below w.heap.size w (Sort.grow (w.drewN k) os) :=
  ⟨rfl, rfl, rfl, by rw [Sort.size_grow]; exact Nat.le_add_right _ _, fun i hi => (Sort.heap_grow_old (w.drewN k) os (k := i) hi).trans rfl⟩
theorem tab_of {w0 w : World} {own : List Res} (h : St w0 w own) (ht : Lib.TabIs Tryd.prog w0 "internal/strconv.uint64pow10" .u64 Lib.pow10Tab) : Lib.TabIs Tryd.prog w "internal/strconv.uint64pow10" .u64 Lib.pow10Tab := by
  unfold Lib.TabIs World.var? at *
  cases hg : Tryd.prog.globalNamed "internal/strconv.uint64pow10" with
  | none => simp [hg] at ht
  | some g =>
    simp only [hg, Option.bind_some] at ht ⊢
    have hlt : g < w0.heap.size := by
      rcases Nat.lt_or_ge g w0.heap.size with h' | h'
      · exact h'
      · rw [Array.getElem?_eq_none h'] at ht; simp at ht
    rw [h.bel.block g hlt]
    exact ht
theorem Itoa_c (n : Int) (w : World) (h0 : -9223372036854775808 ≤ n) (h1 : n ≤ 9223372036854775807) (ht : Lib.TabIs Tryd.prog w "internal/strconv.uint64pow10" .u64 Lib.pow10Tab) : Calls Tryd.prog 9 #[.int .i64 n] w (RetV w (.string ⟨(Lib.itoa n).toArray⟩)) :=
  (Tryd.strconv_Itoa n h0 h1 w ht).mono fun e w' h => by
    obtain ⟨rfl, k, os, rfl⟩ := h
    exact ⟨rfl, below_grow⟩
theorem FormatInt_s_c (a : Int) (w : World) (h0 : -9223372036854775808 ≤ a) (h1 : a ≤ 9223372036854775807) : Calls Tryd.prog 7 #[.int .i64 a] w (RetV w (.string (⟨(Lib.itoa a).toArray⟩ : ByteArray))) := by
  refine calls_FA Tryd.func7 rfl (n := 31) rfl (l := [(0, Value.int .i64 a)]) rfl (by simp) (fun g => ?_)
  have hS := St.init w
  refine wp_seq ?_
  refine c_reg ?_
  refine q_seg (S := (fun x_ => St w x_ [])) [(2, Value.string (⟨#[]⟩ : ByteArray))] [.no] True (by kernel_rfl) trivial hS ?_
  refine l_nil rfl ?_
  refine then_n ?_
  refine wp_seq ?_
  refine wp_seq ?_
  refine c_reg ?_
  refine q_seg (S := (fun x_ => St w x_ [])) [(7, Value.bool (decide (a = (0 : Int)))), (6, Value.int .i64 a)] [.no, .no] True (by kernel_rfl) trivial hS ?_
  refine l_nil rfl ?_
  refine then_n ?_
  rcases Bool.eq_false_or_eq_true (decide (a = (0 : Int))) with hb1 | hb1
  · skip
    have hb1p := of_decide_eq_true hb1
    refine c_true (b := (decide (a = (0 : Int)))) (by kernel_rfl) hb1 ?_
    refine wp_seq ?_
    refine c_reg ?_
    refine q_seg (S := (fun x_ => St w x_ [])) [(2, Value.string (⟨#[48]⟩ : ByteArray))] [.no] True (by kernel_rfl) trivial hS ?_
    refine l_nil rfl ?_
    refine then_n ?_
    refine wp_ret ?_
    refine then_r ?_
    have ha0 : a = 0 := by omega
    subst ha0
    exact c_end (S := (fun x_ => St w x_ [])) (rs := [.tmp 2]) rfl [] (v := Value.string (⟨#[48]⟩ : ByteArray)) (C := True) (by kernel_rfl) trivial hS (((hS.sub List.Sublist.slnil).rv (by rw [itoa_zero])))
  · skip
    have hb1p := of_decide_eq_false hb1
    refine c_false (b := (decide (a = (0 : Int)))) (by kernel_rfl) hb1 ?_
    refine wp_skip ?_
    refine then_n ?_
    refine wp_seq ?_
    refine c_reg ?_
    refine q_seg (S := (fun x_ => St w x_ [])) [(3, Value.string (⟨#[]⟩ : ByteArray))] [.no] True (by kernel_rfl) trivial hS ?_
    refine l_nil rfl ?_
    refine then_n ?_
    refine wp_seq ?_
    refine wp_seq ?_
    refine c_reg ?_
    refine q_seg (S := (fun x_ => St w x_ [])) [(4, Value.int .i64 a), (8, Value.int .i64 a)] [.no, .no] True (by kernel_rfl) trivial hS ?_
    refine l_nil rfl ?_
    refine then_n ?_
    refine wp_block ?_
    refine c_loop (X := Int × List UInt8) (fun (x_ : Int × List UInt8) => match x_ with | (x, ds) => [(0, Value.int .i64 a), (3, Value.string (⟨ds.toArray⟩ : ByteArray)), (4, Value.int .i64 x)]) (fun (x_ : Int × List UInt8) (wr : World) => match x_ with | (x, ds) => (D0 x.natAbs ++ ds = Lib.decDigits a.natAbs) ∧ (-9223372036854775808 ≤ x) ∧ (x ≤ 9223372036854775807) ∧ St w wr []) (fun (x_ : Int × List UInt8) => match x_ with | (x, ds) => x.natAbs) ((a, [])) ?_ ?_ ?_
    · exact (agree_cons (by kernel_rfl) (agree_eq (v0 := Value.string (⟨#[]⟩ : ByteArray)) (by kernel_rfl) (congrArg Value.string rfl) (agree_cons (by kernel_rfl) agree_nil)))
    · exact ⟨(by rw [List.append_nil, D0_pos (by omega)]), h0, h1, (hS.sub List.Sublist.slnil)⟩
    rintro ⟨x, ds⟩ g3 w2 ⟨hD, hx0, hx1, hS2⟩
    have hdl := dig_len h0 h1 hD
    refine wp_seq ?_
    refine wp_seq ?_
    refine c_reg ?_
    refine q_seg (S := (fun x_ => St w x_ [])) [(10, Value.bool (!(decide (x = (0 : Int))))), (9, Value.int .i64 x)] [.no, .no] True (by kernel_rfl) trivial hS2 ?_
    refine l_nil rfl ?_
    refine then_n ?_
    rcases Bool.eq_false_or_eq_true (decide (x = (0 : Int))) with hb4 | hb4
    · skip
      have hb4p := of_decide_eq_true hb4
      have hdl := dig_len h0 h1 hD
      refine c_false (b := (!(decide (x = (0 : Int))))) (by kernel_rfl) (nb (v := true) hb4) ?_
      refine wp_exit ?_
      refine then_x ?_
      refine then_x ?_
      refine blk_hit ?_
      refine then_n ?_
      refine wp_seq ?_
      refine wp_seq ?_
      refine c_reg ?_
      refine q_seg (S := (fun x_ => St w x_ [])) [(27, Value.bool (decide (a < (0 : Int)))), (26, Value.int .i64 a)] [.no, .no] True (by kernel_rfl) trivial hS2 ?_
      refine l_nil rfl ?_
      refine then_n ?_
      rcases Bool.eq_false_or_eq_true (decide (a < (0 : Int))) with hb5 | hb5
      · skip
        have hb5p := of_decide_eq_true hb5
        refine c_true (b := (decide (a < (0 : Int)))) (by kernel_rfl) hb5 ?_
        refine wp_seq ?_
        refine c_reg ?_
        refine q_seg (S := (fun x_ => St w x_ [])) [(2, Value.string ((⟨#[45]⟩ : ByteArray) ++ (⟨ds.toArray⟩ : ByteArray))), (29, Value.string ((⟨#[45]⟩ : ByteArray) ++ (⟨ds.toArray⟩ : ByteArray))), (28, Value.string (⟨ds.toArray⟩ : ByteArray))] [.no, .no, .no] ((ByteArray.size (⟨#[45]⟩ : ByteArray) + ByteArray.size (⟨ds.toArray⟩ : ByteArray) ≤ 9223372036854775807)) (by kernel_rfl) (by rw [show (⟨#[45]⟩ : ByteArray).size = 1 from rfl, lsize]; omega) hS2 ?_
        refine l_nil rfl ?_
        refine then_n ?_
        refine wp_ret ?_
        refine then_r ?_
        have hx : x = 0 := by omega
        subst hx
        have hds : ds = Lib.decDigits a.natAbs := hD
        exact c_end (S := (fun x_ => St w x_ [])) (rs := [.tmp 2]) rfl [] (v := Value.string ((⟨#[45]⟩ : ByteArray) ++ (⟨ds.toArray⟩ : ByteArray))) (C := True) (by kernel_rfl) trivial hS2 (((hS2.sub List.Sublist.slnil).rv (congrArg Value.string (by rw [str_minus, hds, itoa_min (by omega)]))))
      · skip
        have hb5p := of_decide_eq_false hb5
        refine c_false (b := (decide (a < (0 : Int)))) (by kernel_rfl) hb5 ?_
        refine wp_skip ?_
        refine then_n ?_
        refine wp_seq ?_
        refine c_reg ?_
        refine q_seg (S := (fun x_ => St w x_ [])) [(2, Value.string (⟨ds.toArray⟩ : ByteArray)), (30, Value.string (⟨ds.toArray⟩ : ByteArray))] [.no, .no] True (by kernel_rfl) trivial hS2 ?_
        refine l_nil rfl ?_
        refine then_n ?_
        refine wp_ret ?_
        have hx : x = 0 := by omega
        subst hx
        have hds : ds = Lib.decDigits a.natAbs := hD
        exact c_end (S := (fun x_ => St w x_ [])) (rs := [.tmp 2]) rfl [] (v := Value.string (⟨ds.toArray⟩ : ByteArray)) (C := True) (by kernel_rfl) trivial hS2 (((hS2.sub List.Sublist.slnil).rv (congrArg Value.string (by rw [hds, itoa_pos (by omega)]))))
    · skip
      have hb4p := of_decide_eq_false hb4
      refine c_true (b := (!(decide (x = (0 : Int))))) (by kernel_rfl) (nb (v := false) hb4) ?_
      refine wp_skip ?_
      refine then_n ?_
      refine wp_seq ?_
      refine wp_block ?_
      refine wp_seq ?_
      refine c_reg ?_
      obtain ⟨y, hy, hya, hyb, hyc⟩ := tm10 x
      refine q_seg (S := (fun x_ => St w x_ [])) [(5, Value.int .i64 y), (14, Value.int .i64 y), (13, Value.int .i64 x)] [.no, .v (.int .i64 y), .no] (((10 : Int) ≠ 0) ∧ (Int.tmod x (10 : Int) = y)) (by kernel_rfl) ⟨(by decide), hy⟩ hS2 ?_
      refine l_nil rfl ?_
      refine then_n ?_
      refine wp_seq ?_
      refine wp_seq ?_
      refine c_reg ?_
      refine q_seg (S := (fun x_ => St w x_ [])) [(16, Value.bool (decide (y < (0 : Int)))), (15, Value.int .i64 y)] [.no, .no] True (by kernel_rfl) trivial hS2 ?_
      refine l_nil rfl ?_
      refine then_n ?_
      rcases Bool.eq_false_or_eq_true (decide (y < (0 : Int))) with hb6 | hb6
      · skip
        have hb6p := of_decide_eq_true hb6
        refine c_true (b := (decide (y < (0 : Int)))) (by kernel_rfl) hb6 ?_
        refine c_reg ?_
        refine q_seg (S := (fun x_ => St w x_ [])) [(5, Value.int .i64 (-y)), (18, Value.int .i64 (-y)), (17, Value.int .i64 y)] [.no, .no, .no] ((InK .i64 (-y))) (by kernel_rfl) (in64 (by omega) (by omega)) hS2 ?_
        refine l_nil rfl ?_
        refine then_n ?_
        refine c_reg ?_
        refine q_seg (S := (fun x_ => St w x_ [])) [(21, Value.int .u8 ((48 : Int) + (-y))), (20, Value.int .i64 ((48 : Int) + (-y))), (19, Value.int .i64 (-y))] [.no, .no, .no] ((InK .i64 ((48 : Int) + (-y))) ∧ (InK .u8 ((48 : Int) + (-y)))) (by kernel_rfl) ⟨(in64 (by omega) (by omega)), (in8 (by omega) (by omega))⟩ hS2 ?_
        refine l_op rfl rfl (fun K hK => op_buildSlice (d := some 22) rfl rfl (e := 5) (by kernel_rfl) 1 (by kernel_rfl) (by decide) (by decide) [Value.int .u8 ((48 : Int) + (-y))] (by kernel_rfl) rfl hS2 (fun blk8 w7 hS7 => hK _ _ ?_))
        clear hK K
        refine q_seg (S := (fun x_ => St w x_ [Res.row (Value.slice (some ⟨blk8, 0, none⟩) 1 1) 5 1 1 ([Value.int .u8 ((48 : Int) + (-y))])])) [(3, Value.string ((bstr ([((48 : Int) + (-y))])) ++ (⟨ds.toArray⟩ : ByteArray))), (25, Value.string ((bstr ([((48 : Int) + (-y))])) ++ (⟨ds.toArray⟩ : ByteArray))), (24, Value.string (⟨ds.toArray⟩ : ByteArray)), (23, Value.string (bstr ([((48 : Int) + (-y))])))] [.v (Value.string (bstr ([((48 : Int) + (-y))]))), .no, .no, .no] ((YieldsAt Tryd.prog (fun x_ => St w x_ [Res.row (Value.slice (some ⟨blk8, 0, none⟩) 1 1) 5 1 1 ([Value.int .u8 ((48 : Int) + (-y))])]) (convert 29 9 (Value.slice (some ⟨blk8, 0, none⟩) 1 1)) (Value.string (bstr ([((48 : Int) + (-y))])))) ∧ (ByteArray.size (bstr ([((48 : Int) + (-y))])) + ByteArray.size (⟨ds.toArray⟩ : ByteArray) ≤ 9223372036854775807)) (by kernel_rfl) ⟨(conv_b (e := 5) (by kernel_rfl) (by kernel_rfl) (by kernel_rfl) (fun _ hx_ => (hx_.rd (List.mem_of_getElem? (i := 0) rfl)).u1)), (by rw [bsize1, lsize]; omega)⟩ hS7 ?_
        refine l_nil rfl ?_
        refine blk_n ?_
        refine then_n ?_
        refine c_reg ?_
        obtain ⟨z, hz, hza, hzb, hzc⟩ := td10 (x := x) (by omega) (by omega)
        refine q_seg (S := (fun x_ => St w x_ [Res.row (Value.slice (some ⟨blk8, 0, none⟩) 1 1) 5 1 1 ([Value.int .u8 ((48 : Int) + (-y))])])) [(4, Value.int .i64 z), (12, Value.int .i64 z), (11, Value.int .i64 x)] [.no, .v (.int .i64 z), .no] (((10 : Int) ≠ 0) ∧ (IntKind.wrap .i64 (Int.tdiv x (10 : Int)) = z)) (by kernel_rfl) ⟨(by decide), hz⟩ hS7 ?_
        refine l_nil rfl ?_
        refine then_n ?_
        refine round_end ((z, (UInt8.ofNat (Int.toNat ((48 : Int) + (-y))) :: ds))) ?_ ?_ ?_
        · exact (agree_cons (by kernel_rfl) (agree_eq (v0 := Value.string ((bstr ([((48 : Int) + (-y))])) ++ (⟨ds.toArray⟩ : ByteArray))) (by kernel_rfl) (congrArg Value.string (str_cons ((48 : Int) + (-y)) ds)) (agree_cons (by kernel_rfl) agree_nil)))
        · exact ⟨(dig_step (y := y) (c := ((48 : Int) + (-y))) hD hb4p hya hza (by omega)), (by omega), (by omega), hS7.drop⟩
        · exact (by dsimp only; omega)
      · skip
        have hb6p := of_decide_eq_false hb6
        refine c_false (b := (decide (y < (0 : Int)))) (by kernel_rfl) hb6 ?_
        refine wp_skip ?_
        refine then_n ?_
        refine c_reg ?_
        refine q_seg (S := (fun x_ => St w x_ [])) [(21, Value.int .u8 ((48 : Int) + y)), (20, Value.int .i64 ((48 : Int) + y)), (19, Value.int .i64 y)] [.no, .no, .no] ((InK .i64 ((48 : Int) + y)) ∧ (InK .u8 ((48 : Int) + y))) (by kernel_rfl) ⟨(in64 (by omega) (by omega)), (in8 (by omega) (by omega))⟩ hS2 ?_
        refine l_op rfl rfl (fun K hK => op_buildSlice (d := some 22) rfl rfl (e := 5) (by kernel_rfl) 1 (by kernel_rfl) (by decide) (by decide) [Value.int .u8 ((48 : Int) + y)] (by kernel_rfl) rfl hS2 (fun blk10 w9 hS9 => hK _ _ ?_))
        clear hK K
        refine q_seg (S := (fun x_ => St w x_ [Res.row (Value.slice (some ⟨blk10, 0, none⟩) 1 1) 5 1 1 ([Value.int .u8 ((48 : Int) + y)])])) [(3, Value.string ((bstr ([((48 : Int) + y)])) ++ (⟨ds.toArray⟩ : ByteArray))), (25, Value.string ((bstr ([((48 : Int) + y)])) ++ (⟨ds.toArray⟩ : ByteArray))), (24, Value.string (⟨ds.toArray⟩ : ByteArray)), (23, Value.string (bstr ([((48 : Int) + y)])))] [.v (Value.string (bstr ([((48 : Int) + y)]))), .no, .no, .no] ((YieldsAt Tryd.prog (fun x_ => St w x_ [Res.row (Value.slice (some ⟨blk10, 0, none⟩) 1 1) 5 1 1 ([Value.int .u8 ((48 : Int) + y)])]) (convert 29 9 (Value.slice (some ⟨blk10, 0, none⟩) 1 1)) (Value.string (bstr ([((48 : Int) + y)])))) ∧ (ByteArray.size (bstr ([((48 : Int) + y)])) + ByteArray.size (⟨ds.toArray⟩ : ByteArray) ≤ 9223372036854775807)) (by kernel_rfl) ⟨(conv_b (e := 5) (by kernel_rfl) (by kernel_rfl) (by kernel_rfl) (fun _ hx_ => (hx_.rd (List.mem_of_getElem? (i := 0) rfl)).u1)), (by rw [bsize1, lsize]; omega)⟩ hS9 ?_
        refine l_nil rfl ?_
        refine blk_n ?_
        refine then_n ?_
        refine c_reg ?_
        obtain ⟨z, hz, hza, hzb, hzc⟩ := td10 (x := x) (by omega) (by omega)
        refine q_seg (S := (fun x_ => St w x_ [Res.row (Value.slice (some ⟨blk10, 0, none⟩) 1 1) 5 1 1 ([Value.int .u8 ((48 : Int) + y)])])) [(4, Value.int .i64 z), (12, Value.int .i64 z), (11, Value.int .i64 x)] [.no, .v (.int .i64 z), .no] (((10 : Int) ≠ 0) ∧ (IntKind.wrap .i64 (Int.tdiv x (10 : Int)) = z)) (by kernel_rfl) ⟨(by decide), hz⟩ hS9 ?_
        refine l_nil rfl ?_
        refine then_n ?_
        refine round_end ((z, (UInt8.ofNat (Int.toNat ((48 : Int) + y)) :: ds))) ?_ ?_ ?_
        · exact (agree_cons (by kernel_rfl) (agree_eq (v0 := Value.string ((bstr ([((48 : Int) + y)])) ++ (⟨ds.toArray⟩ : ByteArray))) (by kernel_rfl) (congrArg Value.string (str_cons ((48 : Int) + y) ds)) (agree_cons (by kernel_rfl) agree_nil)))
        · exact ⟨(dig_step (y := y) (c := ((48 : Int) + y)) hD hb4p hya hza (by omega)), (by omega), (by omega), hS9.drop⟩
        · exact (by dsimp only; omega)
theorem FormatInt_i_c (a : Int) (w : World) (h0 : -9223372036854775808 ≤ a) (h1 : a ≤ 9223372036854775807) (ht : Lib.TabIs Tryd.prog w "internal/strconv.uint64pow10" .u64 Lib.pow10Tab) : Calls Tryd.prog 8 #[.int .i64 a] w (RetV w (.string (⟨(Lib.itoa a).toArray⟩ : ByteArray))) := by
  refine calls_FA Tryd.func8 rfl (n := 5) rfl (l := [(0, Value.int .i64 a)]) rfl (by simp) (fun g => ?_)
  have hS := St.init w
  refine wp_seq ?_
  refine c_reg ?_
  refine q_seg (S := (fun x_ => St w x_ [])) [(2, Value.string (⟨#[]⟩ : ByteArray))] [.no] True (by kernel_rfl) trivial hS ?_
  refine l_nil rfl ?_
  refine then_n ?_
  refine wp_seq ?_
  refine c_reg ?_
  refine q_seg (S := (fun x_ => St w x_ [])) [(3, Value.int .i64 a)] [.no] True (by kernel_rfl) trivial hS ?_
  refine l_op rfl rfl (fun K hK => op_callv (d := some 4) rfl rfl ⟨_, Tryd.func9, by kernel_rfl, by kernel_rfl⟩ (vs := [Value.int .i64 a]) (by kernel_rfl) (v := Value.string (⟨(Lib.itoa a).toArray⟩ : ByteArray)) (Itoa_c a w (by omega) (by omega) (tab_of hS ht)) hS (fun w1 hS1 => hK _ _ ?_))
  clear hK K
  refine q_seg (S := (fun x_ => St w x_ [])) [(2, Value.string (⟨(Lib.itoa a).toArray⟩ : ByteArray))] [.no] True (by kernel_rfl) trivial hS1 ?_
  refine l_nil rfl ?_
  refine then_n ?_
  refine wp_ret ?_
  exact c_end (S := (fun x_ => St w x_ [])) (rs := [.tmp 2]) rfl [] (v := Value.string (⟨(Lib.itoa a).toArray⟩ : ByteArray)) (C := True) (by kernel_rfl) trivial hS1 ((hS1.rv rfl))

theorem toPagingState_c (a0 : Int) (a1 : Int) (a2 : Int) (w : World) : Calls Tryd.prog 5 #[Value.agg #[Value.int .i64 a0, Value.int .i64 a1, Value.int .i64 a2]] w (RetV w (Value.agg #[Value.int .i64 a0, Value.int .i64 a1, Value.int .i64 a2])) := by
  refine calls_FA Tryd.func5 rfl (n := 14) rfl (l := [(0, Value.agg #[Value.int .i64 a0, Value.int .i64 a1, Value.int .i64 a2])]) rfl (by simp) (fun g => ?_)
  have hS := St.init w
  refine wp_seq ?_
  refine c_reg ?_
  refine l_op rfl rfl (fun K hK => op_box (d := some 1) rfl rfl [Value.int .i64 a0, Value.int .i64 a1, Value.int .i64 a2] (by kernel_rfl) hS (fun blk2 w1 hS1 => hK _ _ ?_))
  clear hK K
  refine l_op rfl rfl (fun K hK => op_alloc (d := some 2) rfl rfl [Value.int .i64 0, Value.int .i64 0, Value.int .i64 0] (by kernel_rfl) hS1 (fun blk4 w3 hS3 => hK _ _ ?_))
  clear hK K
  refine l_nil rfl ?_
  refine then_n ?_
  refine wp_seq ?_
  refine c_reg ?_
  refine l_op rfl rfl (fun K hK => op_alloc (d := some 3) rfl rfl [Value.int .i64 0, Value.int .i64 0, Value.int .i64 0] (by kernel_rfl) hS3 (fun blk6 w5 hS5 => hK _ _ ?_))
  clear hK K
  refine l_nil rfl ?_
  refine then_n ?_
  refine wp_seq ?_
  refine c_reg ?_
  refine q_seg (S := (fun x_ => St w x_ [Res.box blk6 [Value.int .i64 0, Value.int .i64 0, Value.int .i64 0] 25, Res.box blk4 [Value.int .i64 0, Value.int .i64 0, Value.int .i64 0] 25, Res.box blk2 [Value.int .i64 a0, Value.int .i64 a1, Value.int .i64 a2] 23])) [(6, Value.pointer (some ⟨blk6, 0 + 0, none⟩)), (5, Value.int .i64 a0), (4, Value.pointer (some ⟨blk2, 0 + 0, none⟩))] [.no, .v (Value.int .i64 a0), .no] ((LoadsAt Tryd.prog (fun x_ => St w x_ [Res.box blk6 [Value.int .i64 0, Value.int .i64 0, Value.int .i64 0] 25, Res.box blk4 [Value.int .i64 0, Value.int .i64 0, Value.int .i64 0] 25, Res.box blk2 [Value.int .i64 a0, Value.int .i64 a1, Value.int .i64 a2] 23]) 3 ⟨blk2, 0 + 0, none⟩ (Value.int .i64 a0))) (by kernel_rfl) (ld_box (i := 2) rfl rfl (by kernel_rfl)) hS5 ?_
  refine l_op rfl rfl (fun K hK => op_store (d := none) rfl rfl (i := 0) (b := blk6) (off := 0 + 0) (cs := [Value.int .i64 0, Value.int .i64 0, Value.int .i64 0]) (bt := 25) (by kernel_rfl) (by kernel_rfl) [Value.int .i64 a0] (by kernel_rfl) (by kernel_rfl) (Nat.le_of_ble_eq_true (by kernel_rfl)) (by kernel_rfl) [Res.box blk6 [Value.int .i64 a0, Value.int .i64 0, Value.int .i64 0] 25, Res.box blk4 [Value.int .i64 0, Value.int .i64 0, Value.int .i64 0] 25, Res.box blk2 [Value.int .i64 a0, Value.int .i64 a1, Value.int .i64 a2] 23] (by kernel_rfl) hS5 (fun w7 hS7 => hK _ _ ?_))
  clear hK K
  refine l_nil rfl ?_
  refine then_n ?_
  refine wp_seq ?_
  refine c_reg ?_
  refine q_seg (S := (fun x_ => St w x_ [Res.box blk6 [Value.int .i64 a0, Value.int .i64 0, Value.int .i64 0] 25, Res.box blk4 [Value.int .i64 0, Value.int .i64 0, Value.int .i64 0] 25, Res.box blk2 [Value.int .i64 a0, Value.int .i64 a1, Value.int .i64 a2] 23])) [(9, Value.pointer (some ⟨blk6, 0 + 1, none⟩)), (8, Value.int .i64 a1), (7, Value.pointer (some ⟨blk2, 0 + 1, none⟩))] [.no, .v (Value.int .i64 a1), .no] ((LoadsAt Tryd.prog (fun x_ => St w x_ [Res.box blk6 [Value.int .i64 a0, Value.int .i64 0, Value.int .i64 0] 25, Res.box blk4 [Value.int .i64 0, Value.int .i64 0, Value.int .i64 0] 25, Res.box blk2 [Value.int .i64 a0, Value.int .i64 a1, Value.int .i64 a2] 23]) 3 ⟨blk2, 0 + 1, none⟩ (Value.int .i64 a1))) (by kernel_rfl) (ld_box (i := 2) rfl rfl (by kernel_rfl)) hS7 ?_
  refine l_op rfl rfl (fun K hK => op_store (d := none) rfl rfl (i := 0) (b := blk6) (off := 0 + 1) (cs := [Value.int .i64 a0, Value.int .i64 0, Value.int .i64 0]) (bt := 25) (by kernel_rfl) (by kernel_rfl) [Value.int .i64 a1] (by kernel_rfl) (by kernel_rfl) (Nat.le_of_ble_eq_true (by kernel_rfl)) (by kernel_rfl) [Res.box blk6 [Value.int .i64 a0, Value.int .i64 a1, Value.int .i64 0] 25, Res.box blk4 [Value.int .i64 0, Value.int .i64 0, Value.int .i64 0] 25, Res.box blk2 [Value.int .i64 a0, Value.int .i64 a1, Value.int .i64 a2] 23] (by kernel_rfl) hS7 (fun w8 hS8 => hK _ _ ?_))
  clear hK K
  refine l_nil rfl ?_
  refine then_n ?_
  refine wp_seq ?_
  refine c_reg ?_
  refine q_seg (S := (fun x_ => St w x_ [Res.box blk6 [Value.int .i64 a0, Value.int .i64 a1, Value.int .i64 0] 25, Res.box blk4 [Value.int .i64 0, Value.int .i64 0, Value.int .i64 0] 25, Res.box blk2 [Value.int .i64 a0, Value.int .i64 a1, Value.int .i64 a2] 23])) [(12, Value.pointer (some ⟨blk6, 0 + 2, none⟩)), (11, Value.int .i64 a2), (10, Value.pointer (some ⟨blk2, 0 + 2, none⟩))] [.no, .v (Value.int .i64 a2), .no] ((LoadsAt Tryd.prog (fun x_ => St w x_ [Res.box blk6 [Value.int .i64 a0, Value.int .i64 a1, Value.int .i64 0] 25, Res.box blk4 [Value.int .i64 0, Value.int .i64 0, Value.int .i64 0] 25, Res.box blk2 [Value.int .i64 a0, Value.int .i64 a1, Value.int .i64 a2] 23]) 3 ⟨blk2, 0 + 2, none⟩ (Value.int .i64 a2))) (by kernel_rfl) (ld_box (i := 2) rfl rfl (by kernel_rfl)) hS8 ?_
  refine l_op rfl rfl (fun K hK => op_store (d := none) rfl rfl (i := 0) (b := blk6) (off := 0 + 2) (cs := [Value.int .i64 a0, Value.int .i64 a1, Value.int .i64 0]) (bt := 25) (by kernel_rfl) (by kernel_rfl) [Value.int .i64 a2] (by kernel_rfl) (by kernel_rfl) (Nat.le_of_ble_eq_true (by kernel_rfl)) (by kernel_rfl) [Res.box blk6 [Value.int .i64 a0, Value.int .i64 a1, Value.int .i64 a2] 25, Res.box blk4 [Value.int .i64 0, Value.int .i64 0, Value.int .i64 0] 25, Res.box blk2 [Value.int .i64 a0, Value.int .i64 a1, Value.int .i64 a2] 23] (by kernel_rfl) hS8 (fun w9 hS9 => hK _ _ ?_))
  clear hK K
  refine l_nil rfl ?_
  refine then_n ?_
  refine wp_seq ?_
  refine c_reg ?_
  refine q_seg (S := (fun x_ => St w x_ [Res.box blk6 [Value.int .i64 a0, Value.int .i64 a1, Value.int .i64 a2] 25, Res.box blk4 [Value.int .i64 0, Value.int .i64 0, Value.int .i64 0] 25, Res.box blk2 [Value.int .i64 a0, Value.int .i64 a1, Value.int .i64 a2] 23])) [(13, Value.agg #[Value.int .i64 a0, Value.int .i64 a1, Value.int .i64 a2])] [.v (Value.agg #[Value.int .i64 a0, Value.int .i64 a1, Value.int .i64 a2])] ((LoadsAt Tryd.prog (fun x_ => St w x_ [Res.box blk6 [Value.int .i64 a0, Value.int .i64 a1, Value.int .i64 a2] 25, Res.box blk4 [Value.int .i64 0, Value.int .i64 0, Value.int .i64 0] 25, Res.box blk2 [Value.int .i64 a0, Value.int .i64 a1, Value.int .i64 a2] 23]) 25 ⟨blk6, 0, none⟩ (Value.agg #[Value.int .i64 a0, Value.int .i64 a1, Value.int .i64 a2]))) (by kernel_rfl) (ld_boxN (i := 0) (k := 3) rfl rfl rfl (by kernel_rfl)) hS9 ?_
  refine l_op rfl rfl (fun K hK => op_store (d := none) rfl rfl (i := 1) (b := blk4) (off := 0) (cs := [Value.int .i64 0, Value.int .i64 0, Value.int .i64 0]) (bt := 25) (by kernel_rfl) (by kernel_rfl) [Value.int .i64 a0, Value.int .i64 a1, Value.int .i64 a2] (by kernel_rfl) (by kernel_rfl) (Nat.le_of_ble_eq_true (by kernel_rfl)) (by kernel_rfl) [Res.box blk6 [Value.int .i64 a0, Value.int .i64 a1, Value.int .i64 a2] 25, Res.box blk4 [Value.int .i64 a0, Value.int .i64 a1, Value.int .i64 a2] 25, Res.box blk2 [Value.int .i64 a0, Value.int .i64 a1, Value.int .i64 a2] 23] (by kernel_rfl) hS9 (fun w10 hS10 => hK _ _ ?_))
  clear hK K
  refine l_nil rfl ?_
  refine then_n ?_
  refine wp_ret ?_
  exact c_end (S := (fun x_ => St w x_ [Res.box blk6 [Value.int .i64 a0, Value.int .i64 a1, Value.int .i64 a2] 25, Res.box blk4 [Value.int .i64 a0, Value.int .i64 a1, Value.int .i64 a2] 25, Res.box blk2 [Value.int .i64 a0, Value.int .i64 a1, Value.int .i64 a2] 23])) (rs := [.cell 2 25]) rfl [Value.agg #[Value.int .i64 a0, Value.int .i64 a1, Value.int .i64 a2]] (v := Value.agg #[Value.int .i64 a0, Value.int .i64 a1, Value.int .i64 a2]) (C := ((LoadsAt Tryd.prog (fun x_ => St w x_ [Res.box blk6 [Value.int .i64 a0, Value.int .i64 a1, Value.int .i64 a2] 25, Res.box blk4 [Value.int .i64 a0, Value.int .i64 a1, Value.int .i64 a2] 25, Res.box blk2 [Value.int .i64 a0, Value.int .i64 a1, Value.int .i64 a2] 23]) 25 ⟨blk4, 0, none⟩ (Value.agg #[Value.int .i64 a0, Value.int .i64 a1, Value.int .i64 a2])))) (by kernel_rfl) (ld_boxN (i := 1) (k := 3) rfl rfl rfl (by kernel_rfl)) hS10 ((hS10.rv rfl))
theorem FormatPaging_s_c (a0 a1 a2 : Int) (w : World) (ha0 : I64 a0) (ha1 : I64 a1) (ha2 : I64 a2)  : Calls Tryd.prog 4 #[Value.agg #[Value.int .i64 a0, Value.int .i64 a1, Value.int .i64 a2]] w (RetV w (.string (((((⟨(Lib.itoa a0).toArray⟩ : ByteArray) ++ (⟨#[63]⟩ : ByteArray)) ++ (⟨(Lib.itoa a1).toArray⟩ : ByteArray)) ++ (⟨#[43]⟩ : ByteArray)) ++ (⟨(Lib.itoa a2).toArray⟩ : ByteArray)))) := by
  obtain ⟨ha00, ha01⟩ := ha0
  obtain ⟨ha10, ha11⟩ := ha1
  obtain ⟨ha20, ha21⟩ := ha2
  refine calls_FA Tryd.func4 rfl (n := 16) rfl (l := [(0, Value.agg #[Value.int .i64 a0, Value.int .i64 a1, Value.int .i64 a2])]) rfl (by simp) (fun g => ?_)
  have hS := St.init w
  refine wp_seq ?_
  refine c_reg ?_
  refine l_op rfl rfl (fun K hK => op_box (d := some 1) rfl rfl [Value.int .i64 a0, Value.int .i64 a1, Value.int .i64 a2] (by kernel_rfl) hS (fun blk2 w1 hS1 => hK _ _ ?_))
  clear hK K
  refine q_seg (S := (fun x_ => St w x_ [Res.box blk2 [Value.int .i64 a0, Value.int .i64 a1, Value.int .i64 a2] 25])) [(2, Value.string (⟨#[]⟩ : ByteArray))] [.no] True (by kernel_rfl) trivial hS1 ?_
  refine l_nil rfl ?_
  refine then_n ?_
  refine wp_seq ?_
  refine c_drawn [] (by kernel_rfl) hS1 (fun w3 hS3 => ?_)
  refine t_seg (S := (fun x_ => St w x_ [Res.box blk2 [Value.int .i64 a0, Value.int .i64 a1, Value.int .i64 a2] 25])) [(0, .no), (4, .no), (9, .no), (1, .v (Value.int .i64 a0)), (5, .v (Value.int .i64 a1)), (10, .v (Value.int .i64 a2))] 8 #[true, true, false, false, true, true, false, false, false, true, true, false, false, false] [(13, Value.int .i64 a2), (8, Value.int .i64 a1), (4, Value.int .i64 a0), (12, Value.pointer (some ⟨blk2, 0 + 2, none⟩)), (7, Value.pointer (some ⟨blk2, 0 + 1, none⟩)), (3, Value.pointer (some ⟨blk2, 0 + 0, none⟩))] ((LoadsAt Tryd.prog (fun x_ => St w x_ [Res.box blk2 [Value.int .i64 a0, Value.int .i64 a1, Value.int .i64 a2] 25]) 3 ⟨blk2, 0 + 0, none⟩ (Value.int .i64 a0)) ∧ (LoadsAt Tryd.prog (fun x_ => St w x_ [Res.box blk2 [Value.int .i64 a0, Value.int .i64 a1, Value.int .i64 a2] 25]) 3 ⟨blk2, 0 + 1, none⟩ (Value.int .i64 a1)) ∧ (LoadsAt Tryd.prog (fun x_ => St w x_ [Res.box blk2 [Value.int .i64 a0, Value.int .i64 a1, Value.int .i64 a2] 25]) 3 ⟨blk2, 0 + 2, none⟩ (Value.int .i64 a2))) (by kernel_rfl) (Qpanic.then Qpanic.bp) rfl (by kernel_rfl) ⟨(ld_box (i := 0) rfl rfl (by kernel_rfl)), (ld_box (i := 0) rfl rfl (by kernel_rfl)), (ld_box (i := 0) rfl rfl (by kernel_rfl))⟩ hS3 ?_
  refine a_op (i := 2) (fuel := 7) (listed' := #[true, true, true, false, true, true, false, false, false, true, true, false, false, false]) rfl rfl (by kernel_rfl) (by kernel_rfl) rfl (fun K hK => op_callv (d := some 5) rfl rfl ⟨_, Tryd.func7, by kernel_rfl, by kernel_rfl⟩ (vs := [Value.int .i64 a0]) (by kernel_rfl) (v := Value.string (⟨(Lib.itoa a0).toArray⟩ : ByteArray)) (FormatInt_s_c a0 w3 (by omega) (by omega)) hS3 (fun w4 hS4 => hK _ _ (fun _ => hS4) ?_))
  clear hK K
  have hil5 := itoa_len (a := a0) (by omega) (by omega)
  refine t_seg (S := (fun x_ => St w x_ [Res.box blk2 [Value.int .i64 a0, Value.int .i64 a1, Value.int .i64 a2] 25])) [(3, .no)] 6 #[true, true, true, true, true, true, false, false, false, true, true, false, false, false] [(6, Value.string ((⟨(Lib.itoa a0).toArray⟩ : ByteArray) ++ (⟨#[63]⟩ : ByteArray)))] ((ByteArray.size (⟨(Lib.itoa a0).toArray⟩ : ByteArray) + ByteArray.size (⟨#[63]⟩ : ByteArray) ≤ 9223372036854775807)) (by kernel_rfl) (Qpanic.then Qpanic.bp) rfl (by kernel_rfl) (by simp only [ByteArray.size_append, show (⟨#[63]⟩ : ByteArray).size = 1 from rfl, show (⟨#[43]⟩ : ByteArray).size = 1 from rfl]; omega) hS4 ?_
  refine a_op (i := 6) (fuel := 5) (listed' := #[true, true, true, true, true, true, true, false, false, true, true, false, false, false]) rfl rfl (by kernel_rfl) (by kernel_rfl) rfl (fun K hK => op_callv (d := some 9) rfl rfl ⟨_, Tryd.func7, by kernel_rfl, by kernel_rfl⟩ (vs := [Value.int .i64 a1]) (by kernel_rfl) (v := Value.string (⟨(Lib.itoa a1).toArray⟩ : ByteArray)) (FormatInt_s_c a1 w4 (by omega) (by omega)) hS4 (fun w6 hS6 => hK _ _ (fun _ => hS6) ?_))
  clear hK K
  have hil7 := itoa_len (a := a1) (by omega) (by omega)
  refine t_seg (S := (fun x_ => St w x_ [Res.box blk2 [Value.int .i64 a0, Value.int .i64 a1, Value.int .i64 a2] 25])) [(7, .no), (8, .no)] 3 #[true, true, true, true, true, true, true, true, true, true, true, false, false, false] [(11, Value.string ((((⟨(Lib.itoa a0).toArray⟩ : ByteArray) ++ (⟨#[63]⟩ : ByteArray)) ++ (⟨(Lib.itoa a1).toArray⟩ : ByteArray)) ++ (⟨#[43]⟩ : ByteArray))), (10, Value.string (((⟨(Lib.itoa a0).toArray⟩ : ByteArray) ++ (⟨#[63]⟩ : ByteArray)) ++ (⟨(Lib.itoa a1).toArray⟩ : ByteArray)))] ((ByteArray.size ((⟨(Lib.itoa a0).toArray⟩ : ByteArray) ++ (⟨#[63]⟩ : ByteArray)) + ByteArray.size (⟨(Lib.itoa a1).toArray⟩ : ByteArray) ≤ 9223372036854775807) ∧ (ByteArray.size (((⟨(Lib.itoa a0).toArray⟩ : ByteArray) ++ (⟨#[63]⟩ : ByteArray)) ++ (⟨(Lib.itoa a1).toArray⟩ : ByteArray)) + ByteArray.size (⟨#[43]⟩ : ByteArray) ≤ 9223372036854775807)) (by kernel_rfl) (Qpanic.then Qpanic.bp) rfl (by kernel_rfl) ⟨(by simp only [ByteArray.size_append, show (⟨#[63]⟩ : ByteArray).size = 1 from rfl, show (⟨#[43]⟩ : ByteArray).size = 1 from rfl]; omega), (by simp only [ByteArray.size_append, show (⟨#[63]⟩ : ByteArray).size = 1 from rfl, show (⟨#[43]⟩ : ByteArray).size = 1 from rfl]; omega)⟩ hS6 ?_
  refine a_op (i := 11) (fuel := 2) (listed' := #[true, true, true, true, true, true, true, true, true, true, true, true, false, false]) rfl rfl (by kernel_rfl) (by kernel_rfl) rfl (fun K hK => op_callv (d := some 14) rfl rfl ⟨_, Tryd.func7, by kernel_rfl, by kernel_rfl⟩ (vs := [Value.int .i64 a2]) (by kernel_rfl) (v := Value.string (⟨(Lib.itoa a2).toArray⟩ : ByteArray)) (FormatInt_s_c a2 w6 (by omega) (by omega)) hS6 (fun w8 hS8 => hK _ _ (fun _ => hS8) ?_))
  clear hK K
  have hil9 := itoa_len (a := a2) (by omega) (by omega)
  refine t_seg (S := (fun x_ => St w x_ [Res.box blk2 [Value.int .i64 a0, Value.int .i64 a1, Value.int .i64 a2] 25])) [(12, .no), (13, .no)] 0 #[true, true, true, true, true, true, true, true, true, true, true, true, true, true] [(2, Value.string (((((⟨(Lib.itoa a0).toArray⟩ : ByteArray) ++ (⟨#[63]⟩ : ByteArray)) ++ (⟨(Lib.itoa a1).toArray⟩ : ByteArray)) ++ (⟨#[43]⟩ : ByteArray)) ++ (⟨(Lib.itoa a2).toArray⟩ : ByteArray))), (15, Value.string (((((⟨(Lib.itoa a0).toArray⟩ : ByteArray) ++ (⟨#[63]⟩ : ByteArray)) ++ (⟨(Lib.itoa a1).toArray⟩ : ByteArray)) ++ (⟨#[43]⟩ : ByteArray)) ++ (⟨(Lib.itoa a2).toArray⟩ : ByteArray)))] ((ByteArray.size ((((⟨(Lib.itoa a0).toArray⟩ : ByteArray) ++ (⟨#[63]⟩ : ByteArray)) ++ (⟨(Lib.itoa a1).toArray⟩ : ByteArray)) ++ (⟨#[43]⟩ : ByteArray)) + ByteArray.size (⟨(Lib.itoa a2).toArray⟩ : ByteArray) ≤ 9223372036854775807)) (by kernel_rfl) (Qpanic.then Qpanic.bp) rfl (by kernel_rfl) (by simp only [ByteArray.size_append, show (⟨#[63]⟩ : ByteArray).size = 1 from rfl, show (⟨#[43]⟩ : ByteArray).size = 1 from rfl]; omega) hS8 ?_
  refine a_done (by kernel_rfl) ?_
  refine then_n ?_
  refine wp_ret ?_
  exact c_end (S := (fun x_ => St w x_ [Res.box blk2 [Value.int .i64 a0, Value.int .i64 a1, Value.int .i64 a2] 25])) (rs := [.tmp 2]) rfl [] (v := Value.string (((((⟨(Lib.itoa a0).toArray⟩ : ByteArray) ++ (⟨#[63]⟩ : ByteArray)) ++ (⟨(Lib.itoa a1).toArray⟩ : ByteArray)) ++ (⟨#[43]⟩ : ByteArray)) ++ (⟨(Lib.itoa a2).toArray⟩ : ByteArray))) (C := True) (by kernel_rfl) trivial hS8 ((hS8.rv rfl))
theorem FormatPaging_i_c (a0 a1 a2 : Int) (w : World) (ha0 : I64 a0) (ha1 : I64 a1) (ha2 : I64 a2) (ht : Lib.TabIs Tryd.prog w "internal/strconv.uint64pow10" .u64 Lib.pow10Tab) : Calls Tryd.prog 6 #[Value.agg #[Value.int .i64 a0, Value.int .i64 a1, Value.int .i64 a2]] w (RetV w (.string (((((⟨(Lib.itoa a0).toArray⟩ : ByteArray) ++ (⟨#[63]⟩ : ByteArray)) ++ (⟨(Lib.itoa a1).toArray⟩ : ByteArray)) ++ (⟨#[43]⟩ : ByteArray)) ++ (⟨(Lib.itoa a2).toArray⟩ : ByteArray)))) := by
  obtain ⟨ha00, ha01⟩ := ha0
  obtain ⟨ha10, ha11⟩ := ha1
  obtain ⟨ha20, ha21⟩ := ha2
  refine calls_FA Tryd.func6 rfl (n := 16) rfl (l := [(0, Value.agg #[Value.int .i64 a0, Value.int .i64 a1, Value.int .i64 a2])]) rfl (by simp) (fun g => ?_)
  have hS := St.init w
  refine wp_seq ?_
  refine c_reg ?_
  refine l_op rfl rfl (fun K hK => op_box (d := some 1) rfl rfl [Value.int .i64 a0, Value.int .i64 a1, Value.int .i64 a2] (by kernel_rfl) hS (fun blk2 w1 hS1 => hK _ _ ?_))
  clear hK K
  refine q_seg (S := (fun x_ => St w x_ [Res.box blk2 [Value.int .i64 a0, Value.int .i64 a1, Value.int .i64 a2] 25])) [(2, Value.string (⟨#[]⟩ : ByteArray))] [.no] True (by kernel_rfl) trivial hS1 ?_
  refine l_nil rfl ?_
  refine then_n ?_
  refine wp_seq ?_
  refine c_drawn [] (by kernel_rfl) hS1 (fun w3 hS3 => ?_)
  refine t_seg (S := (fun x_ => St w x_ [Res.box blk2 [Value.int .i64 a0, Value.int .i64 a1, Value.int .i64 a2] 25])) [(0, .no), (4, .no), (9, .no), (1, .v (Value.int .i64 a0)), (5, .v (Value.int .i64 a1)), (10, .v (Value.int .i64 a2))] 8 #[true, true, false, false, true, true, false, false, false, true, true, false, false, false] [(13, Value.int .i64 a2), (8, Value.int .i64 a1), (4, Value.int .i64 a0), (12, Value.pointer (some ⟨blk2, 0 + 2, none⟩)), (7, Value.pointer (some ⟨blk2, 0 + 1, none⟩)), (3, Value.pointer (some ⟨blk2, 0 + 0, none⟩))] ((LoadsAt Tryd.prog (fun x_ => St w x_ [Res.box blk2 [Value.int .i64 a0, Value.int .i64 a1, Value.int .i64 a2] 25]) 3 ⟨blk2, 0 + 0, none⟩ (Value.int .i64 a0)) ∧ (LoadsAt Tryd.prog (fun x_ => St w x_ [Res.box blk2 [Value.int .i64 a0, Value.int .i64 a1, Value.int .i64 a2] 25]) 3 ⟨blk2, 0 + 1, none⟩ (Value.int .i64 a1)) ∧ (LoadsAt Tryd.prog (fun x_ => St w x_ [Res.box blk2 [Value.int .i64 a0, Value.int .i64 a1, Value.int .i64 a2] 25]) 3 ⟨blk2, 0 + 2, none⟩ (Value.int .i64 a2))) (by kernel_rfl) (Qpanic.then Qpanic.bp) rfl (by kernel_rfl) ⟨(ld_box (i := 0) rfl rfl (by kernel_rfl)), (ld_box (i := 0) rfl rfl (by kernel_rfl)), (ld_box (i := 0) rfl rfl (by kernel_rfl))⟩ hS3 ?_
  refine a_op (i := 2) (fuel := 7) (listed' := #[true, true, true, false, true, true, false, false, false, true, true, false, false, false]) rfl rfl (by kernel_rfl) (by kernel_rfl) rfl (fun K hK => op_callv (d := some 5) rfl rfl ⟨_, Tryd.func8, by kernel_rfl, by kernel_rfl⟩ (vs := [Value.int .i64 a0]) (by kernel_rfl) (v := Value.string (⟨(Lib.itoa a0).toArray⟩ : ByteArray)) (FormatInt_i_c a0 w3 (by omega) (by omega) (tab_of hS3 ht)) hS3 (fun w4 hS4 => hK _ _ (fun _ => hS4) ?_))
  clear hK K
  have hil5 := itoa_len (a := a0) (by omega) (by omega)
  refine t_seg (S := (fun x_ => St w x_ [Res.box blk2 [Value.int .i64 a0, Value.int .i64 a1, Value.int .i64 a2] 25])) [(3, .no)] 6 #[true, true, true, true, true, true, false, false, false, true, true, false, false, false] [(6, Value.string ((⟨(Lib.itoa a0).toArray⟩ : ByteArray) ++ (⟨#[63]⟩ : ByteArray)))] ((ByteArray.size (⟨(Lib.itoa a0).toArray⟩ : ByteArray) + ByteArray.size (⟨#[63]⟩ : ByteArray) ≤ 9223372036854775807)) (by kernel_rfl) (Qpanic.then Qpanic.bp) rfl (by kernel_rfl) (by simp only [ByteArray.size_append, show (⟨#[63]⟩ : ByteArray).size = 1 from rfl, show (⟨#[43]⟩ : ByteArray).size = 1 from rfl]; omega) hS4 ?_
  refine a_op (i := 6) (fuel := 5) (listed' := #[true, true, true, true, true, true, true, false, false, true, true, false, false, false]) rfl rfl (by kernel_rfl) (by kernel_rfl) rfl (fun K hK => op_callv (d := some 9) rfl rfl ⟨_, Tryd.func8, by kernel_rfl, by kernel_rfl⟩ (vs := [Value.int .i64 a1]) (by kernel_rfl) (v := Value.string (⟨(Lib.itoa a1).toArray⟩ : ByteArray)) (FormatInt_i_c a1 w4 (by omega) (by omega) (tab_of hS4 ht)) hS4 (fun w6 hS6 => hK _ _ (fun _ => hS6) ?_))
  clear hK K
  have hil7 := itoa_len (a := a1) (by omega) (by omega)
  refine t_seg (S := (fun x_ => St w x_ [Res.box blk2 [Value.int .i64 a0, Value.int .i64 a1, Value.int .i64 a2] 25])) [(7, .no), (8, .no)] 3 #[true, true, true, true, true, true, true, true, true, true, true, false, false, false] [(11, Value.string ((((⟨(Lib.itoa a0).toArray⟩ : ByteArray) ++ (⟨#[63]⟩ : ByteArray)) ++ (⟨(Lib.itoa a1).toArray⟩ : ByteArray)) ++ (⟨#[43]⟩ : ByteArray))), (10, Value.string (((⟨(Lib.itoa a0).toArray⟩ : ByteArray) ++ (⟨#[63]⟩ : ByteArray)) ++ (⟨(Lib.itoa a1).toArray⟩ : ByteArray)))] ((ByteArray.size ((⟨(Lib.itoa a0).toArray⟩ : ByteArray) ++ (⟨#[63]⟩ : ByteArray)) + ByteArray.size (⟨(Lib.itoa a1).toArray⟩ : ByteArray) ≤ 9223372036854775807) ∧ (ByteArray.size (((⟨(Lib.itoa a0).toArray⟩ : ByteArray) ++ (⟨#[63]⟩ : ByteArray)) ++ (⟨(Lib.itoa a1).toArray⟩ : ByteArray)) + ByteArray.size (⟨#[43]⟩ : ByteArray) ≤ 9223372036854775807)) (by kernel_rfl) (Qpanic.then Qpanic.bp) rfl (by kernel_rfl) ⟨(by simp only [ByteArray.size_append, show (⟨#[63]⟩ : ByteArray).size = 1 from rfl, show (⟨#[43]⟩ : ByteArray).size = 1 from rfl]; omega), (by simp only [ByteArray.size_append, show (⟨#[63]⟩ : ByteArray).size = 1 from rfl, show (⟨#[43]⟩ : ByteArray).size = 1 from rfl]; omega)⟩ hS6 ?_
  refine a_op (i := 11) (fuel := 2) (listed' := #[true, true, true, true, true, true, true, true, true, true, true, true, false, false]) rfl rfl (by kernel_rfl) (by kernel_rfl) rfl (fun K hK => op_callv (d := some 14) rfl rfl ⟨_, Tryd.func8, by kernel_rfl, by kernel_rfl⟩ (vs := [Value.int .i64 a2]) (by kernel_rfl) (v := Value.string (⟨(Lib.itoa a2).toArray⟩ : ByteArray)) (FormatInt_i_c a2 w6 (by omega) (by omega) (tab_of hS6 ht)) hS6 (fun w8 hS8 => hK _ _ (fun _ => hS8) ?_))
  clear hK K
  have hil9 := itoa_len (a := a2) (by omega) (by omega)
  refine t_seg (S := (fun x_ => St w x_ [Res.box blk2 [Value.int .i64 a0, Value.int .i64 a1, Value.int .i64 a2] 25])) [(12, .no), (13, .no)] 0 #[true, true, true, true, true, true, true, true, true, true, true, true, true, true] [(2, Value.string (((((⟨(Lib.itoa a0).toArray⟩ : ByteArray) ++ (⟨#[63]⟩ : ByteArray)) ++ (⟨(Lib.itoa a1).toArray⟩ : ByteArray)) ++ (⟨#[43]⟩ : ByteArray)) ++ (⟨(Lib.itoa a2).toArray⟩ : ByteArray))), (15, Value.string (((((⟨(Lib.itoa a0).toArray⟩ : ByteArray) ++ (⟨#[63]⟩ : ByteArray)) ++ (⟨(Lib.itoa a1).toArray⟩ : ByteArray)) ++ (⟨#[43]⟩ : ByteArray)) ++ (⟨(Lib.itoa a2).toArray⟩ : ByteArray)))] ((ByteArray.size ((((⟨(Lib.itoa a0).toArray⟩ : ByteArray) ++ (⟨#[63]⟩ : ByteArray)) ++ (⟨(Lib.itoa a1).toArray⟩ : ByteArray)) ++ (⟨#[43]⟩ : ByteArray)) + ByteArray.size (⟨(Lib.itoa a2).toArray⟩ : ByteArray) ≤ 9223372036854775807)) (by kernel_rfl) (Qpanic.then Qpanic.bp) rfl (by kernel_rfl) (by simp only [ByteArray.size_append, show (⟨#[63]⟩ : ByteArray).size = 1 from rfl, show (⟨#[43]⟩ : ByteArray).size = 1 from rfl]; omega) hS8 ?_
  refine a_done (by kernel_rfl) ?_
  refine then_n ?_
  refine wp_ret ?_
  exact c_end (S := (fun x_ => St w x_ [Res.box blk2 [Value.int .i64 a0, Value.int .i64 a1, Value.int .i64 a2] 25])) (rs := [.tmp 2]) rfl [] (v := Value.string (((((⟨(Lib.itoa a0).toArray⟩ : ByteArray) ++ (⟨#[63]⟩ : ByteArray)) ++ (⟨(Lib.itoa a1).toArray⟩ : ByteArray)) ++ (⟨#[43]⟩ : ByteArray)) ++ (⟨(Lib.itoa a2).toArray⟩ : ByteArray))) (C := True) (by kernel_rfl) trivial hS8 ((hS8.rv rfl))
theorem walkFnExactFormatPaging (v0 : Value) (w : World) (i0 : InPagingState23 w w.heap.size v0) (ht : Lib.TabIs Tryd.prog w "internal/strconv.uint64pow10" .u64 Lib.pow10Tab) : Calls Tryd.prog 3 #[v0] w (Tr w) := by
  obtain ⟨a0, a1, a2, rfl, ⟨ha00, ha01⟩, ⟨ha10, ha11⟩, ⟨ha20, ha21⟩⟩ := i0
  refine calls_FA Tryd.func3 rfl (n := 14) rfl (l := [(0, Value.agg #[Value.int .i64 a0, Value.int .i64 a1, Value.int .i64 a2])]) rfl (by simp) (fun g => ?_)
  have hS := St.init w
  refine wp_seq ?_
  refine c_reg ?_
  refine l_op rfl rfl (fun K hK => op_box (d := some 1) rfl rfl [Value.int .i64 a0, Value.int .i64 a1, Value.int .i64 a2] (by kernel_rfl) hS (fun blk2 w1 hS1 => hK _ _ ?_))
  clear hK K
  refine q_seg (S := (fun x_ => St w x_ [Res.box blk2 [Value.int .i64 a0, Value.int .i64 a1, Value.int .i64 a2] 23])) [(2, Value.bool false)] [.no] True (by kernel_rfl) trivial hS1 ?_
  refine l_nil rfl ?_
  refine then_n ?_
  refine wp_seq ?_
  refine c_reg ?_
  refine q_seg (S := (fun x_ => St w x_ [Res.box blk2 [Value.int .i64 a0, Value.int .i64 a1, Value.int .i64 a2] 23])) [(5, Value.agg #[Value.int .i64 a0, Value.int .i64 a1, Value.int .i64 a2])] [.v (Value.agg #[Value.int .i64 a0, Value.int .i64 a1, Value.int .i64 a2])] ((LoadsAt Tryd.prog (fun x_ => St w x_ [Res.box blk2 [Value.int .i64 a0, Value.int .i64 a1, Value.int .i64 a2] 23]) 23 ⟨blk2, 0, none⟩ (Value.agg #[Value.int .i64 a0, Value.int .i64 a1, Value.int .i64 a2]))) (by kernel_rfl) (ld_boxN (i := 0) (k := 3) rfl rfl rfl (by kernel_rfl)) hS1 ?_
  refine l_op rfl rfl (fun K hK => op_callv (d := some 6) rfl rfl ⟨_, Tryd.func5, by kernel_rfl, by kernel_rfl⟩ (vs := [Value.agg #[Value.int .i64 a0, Value.int .i64 a1, Value.int .i64 a2]]) (by kernel_rfl) (v := Value.agg #[Value.int .i64 a0, Value.int .i64 a1, Value.int .i64 a2]) (toPagingState_c a0 a1 a2  _) hS1 (fun w3 hS3 => hK _ _ ?_))
  clear hK K
  refine l_op rfl rfl (fun K hK => op_callv (d := some 7) rfl rfl ⟨_, Tryd.func4, by kernel_rfl, by kernel_rfl⟩ (vs := [Value.agg #[Value.int .i64 a0, Value.int .i64 a1, Value.int .i64 a2]]) (by kernel_rfl) (v := Value.string (((((⟨(Lib.itoa a0).toArray⟩ : ByteArray) ++ (⟨#[63]⟩ : ByteArray)) ++ (⟨(Lib.itoa a1).toArray⟩ : ByteArray)) ++ (⟨#[43]⟩ : ByteArray)) ++ (⟨(Lib.itoa a2).toArray⟩ : ByteArray))) (FormatPaging_s_c a0 a1 a2 w3 (i64 (by omega) (by omega)) (i64 (by omega) (by omega)) (i64 (by omega) (by omega))) hS3 (fun w4 hS4 => hK _ _ ?_))
  clear hK K
  refine q_seg (S := (fun x_ => St w x_ [Res.box blk2 [Value.int .i64 a0, Value.int .i64 a1, Value.int .i64 a2] 23])) [(3, Value.string (((((⟨(Lib.itoa a0).toArray⟩ : ByteArray) ++ (⟨#[63]⟩ : ByteArray)) ++ (⟨(Lib.itoa a1).toArray⟩ : ByteArray)) ++ (⟨#[43]⟩ : ByteArray)) ++ (⟨(Lib.itoa a2).toArray⟩ : ByteArray)))] [.no] True (by kernel_rfl) trivial hS4 ?_
  refine l_nil rfl ?_
  refine then_n ?_
  refine wp_seq ?_
  refine c_reg ?_
  refine q_seg (S := (fun x_ => St w x_ [Res.box blk2 [Value.int .i64 a0, Value.int .i64 a1, Value.int .i64 a2] 23])) [(8, Value.agg #[Value.int .i64 a0, Value.int .i64 a1, Value.int .i64 a2])] [.v (Value.agg #[Value.int .i64 a0, Value.int .i64 a1, Value.int .i64 a2])] ((LoadsAt Tryd.prog (fun x_ => St w x_ [Res.box blk2 [Value.int .i64 a0, Value.int .i64 a1, Value.int .i64 a2] 23]) 23 ⟨blk2, 0, none⟩ (Value.agg #[Value.int .i64 a0, Value.int .i64 a1, Value.int .i64 a2]))) (by kernel_rfl) (ld_boxN (i := 0) (k := 3) rfl rfl rfl (by kernel_rfl)) hS4 ?_
  refine l_op rfl rfl (fun K hK => op_callv (d := some 9) rfl rfl ⟨_, Tryd.func5, by kernel_rfl, by kernel_rfl⟩ (vs := [Value.agg #[Value.int .i64 a0, Value.int .i64 a1, Value.int .i64 a2]]) (by kernel_rfl) (v := Value.agg #[Value.int .i64 a0, Value.int .i64 a1, Value.int .i64 a2]) (toPagingState_c a0 a1 a2  _) hS4 (fun w5 hS5 => hK _ _ ?_))
  clear hK K
  refine l_op rfl rfl (fun K hK => op_callv (d := some 10) rfl rfl ⟨_, Tryd.func6, by kernel_rfl, by kernel_rfl⟩ (vs := [Value.agg #[Value.int .i64 a0, Value.int .i64 a1, Value.int .i64 a2]]) (by kernel_rfl) (v := Value.string (((((⟨(Lib.itoa a0).toArray⟩ : ByteArray) ++ (⟨#[63]⟩ : ByteArray)) ++ (⟨(Lib.itoa a1).toArray⟩ : ByteArray)) ++ (⟨#[43]⟩ : ByteArray)) ++ (⟨(Lib.itoa a2).toArray⟩ : ByteArray))) (FormatPaging_i_c a0 a1 a2 w5 (i64 (by omega) (by omega)) (i64 (by omega) (by omega)) (i64 (by omega) (by omega)) (tab_of hS5 ht)) hS5 (fun w6 hS6 => hK _ _ ?_))
  clear hK K
  refine q_seg (S := (fun x_ => St w x_ [Res.box blk2 [Value.int .i64 a0, Value.int .i64 a1, Value.int .i64 a2] 23])) [(4, Value.string (((((⟨(Lib.itoa a0).toArray⟩ : ByteArray) ++ (⟨#[63]⟩ : ByteArray)) ++ (⟨(Lib.itoa a1).toArray⟩ : ByteArray)) ++ (⟨#[43]⟩ : ByteArray)) ++ (⟨(Lib.itoa a2).toArray⟩ : ByteArray)))] [.no] True (by kernel_rfl) trivial hS6 ?_
  refine l_nil rfl ?_
  refine then_n ?_
  refine wp_seq ?_
  refine wp_seq ?_
  refine c_reg ?_
  refine q_seg (S := (fun x_ => St w x_ [Res.box blk2 [Value.int .i64 a0, Value.int .i64 a1, Value.int .i64 a2] 23])) [(13, Value.bool (!(((((((⟨(Lib.itoa a0).toArray⟩ : ByteArray) ++ (⟨#[63]⟩ : ByteArray)) ++ (⟨(Lib.itoa a1).toArray⟩ : ByteArray)) ++ (⟨#[43]⟩ : ByteArray)) ++ (⟨(Lib.itoa a2).toArray⟩ : ByteArray))).toList == ((((((⟨(Lib.itoa a0).toArray⟩ : ByteArray) ++ (⟨#[63]⟩ : ByteArray)) ++ (⟨(Lib.itoa a1).toArray⟩ : ByteArray)) ++ (⟨#[43]⟩ : ByteArray)) ++ (⟨(Lib.itoa a2).toArray⟩ : ByteArray))).toList))), (12, Value.string (((((⟨(Lib.itoa a0).toArray⟩ : ByteArray) ++ (⟨#[63]⟩ : ByteArray)) ++ (⟨(Lib.itoa a1).toArray⟩ : ByteArray)) ++ (⟨#[43]⟩ : ByteArray)) ++ (⟨(Lib.itoa a2).toArray⟩ : ByteArray))), (11, Value.string (((((⟨(Lib.itoa a0).toArray⟩ : ByteArray) ++ (⟨#[63]⟩ : ByteArray)) ++ (⟨(Lib.itoa a1).toArray⟩ : ByteArray)) ++ (⟨#[43]⟩ : ByteArray)) ++ (⟨(Lib.itoa a2).toArray⟩ : ByteArray)))] [.no, .no, .no] True (by kernel_rfl) trivial hS6 ?_
  refine l_nil rfl ?_
  refine then_n ?_
  refine c_false (b := (!(((((((⟨(Lib.itoa a0).toArray⟩ : ByteArray) ++ (⟨#[63]⟩ : ByteArray)) ++ (⟨(Lib.itoa a1).toArray⟩ : ByteArray)) ++ (⟨#[43]⟩ : ByteArray)) ++ (⟨(Lib.itoa a2).toArray⟩ : ByteArray))).toList == ((((((⟨(Lib.itoa a0).toArray⟩ : ByteArray) ++ (⟨#[63]⟩ : ByteArray)) ++ (⟨(Lib.itoa a1).toArray⟩ : ByteArray)) ++ (⟨#[43]⟩ : ByteArray)) ++ (⟨(Lib.itoa a2).toArray⟩ : ByteArray))).toList))) (by kernel_rfl) (nb (v := true) (by simp)) ?_
  refine wp_skip ?_
  refine then_n ?_
  refine wp_seq ?_
  refine c_reg ?_
  refine q_seg (S := (fun x_ => St w x_ [Res.box blk2 [Value.int .i64 a0, Value.int .i64 a1, Value.int .i64 a2] 23])) [(2, Value.bool true)] [.no] True (by kernel_rfl) trivial hS6 ?_
  refine l_nil rfl ?_
  refine then_n ?_
  refine wp_ret ?_
  exact c_end (S := (fun x_ => St w x_ [Res.box blk2 [Value.int .i64 a0, Value.int .i64 a1, Value.int .i64 a2] 23])) (rs := [.tmp 2]) rfl [] (v := Value.bool true) (C := True) (by kernel_rfl) trivial hS6 ((hS6.rv rfl))
end Go.Proofs.YtkcedoehehjceaaDoor
