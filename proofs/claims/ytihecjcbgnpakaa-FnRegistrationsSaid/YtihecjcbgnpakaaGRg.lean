/-
  Register, and the law that the two agree.
-/
import Derived.Test.YtihecjcbgnpakaaGRc
namespace Go.Proofs.Ytihecjcbgnpakaa
open Go.RowKit
set_option maxRecDepth 100000

theorem RegI_c (A : Option Addr) (n c : Nat) (L : List Int) (r0 r1 r2 r3 r4 r5 : Int) (w : World) (hn : n ≤ 1073741824) (hr : Rd w w.heap.size A (n * 6) (L.map (Value.int .i64))) : Calls Try.prog 9 #[.slice A n c, .agg #[.int .i64 r0, .int .i64 r1, .int .i64 r2, .int .i64 r3, .int .i64 r4, .int .i64 r5]] w (Ret w (fun v new => ∃ (m : Nat) (A_ : Option Addr) (c_ : Nat), (regL L n (fnd (isID L r0 r1) n) [r0, r1, r2, r3, r4, r5]).length = m * 6 ∧ m ≤ n + 1 ∧ v = .tuple #[.slice A_ m c_, .int .i64 (regO L n (fnd (isID L r0 r1) n) [r0, r1, r2, r3, r4, r5]), .bool (okP L n (fnd (isID L r0 r1) n) [r0, r1, r2, r3, r4, r5])] ∧ new = [.row (.slice A_ m c_) 37 6 m ((regL L n (fnd (isID L r0 r1) n) [r0, r1, r2, r3, r4, r5]).map (Value.int .i64))])) := by
  have hLl : L.length = n * 6 := hr.len
  refine calls_FA Try.func9 rfl (n := 38) rfl (l := [(0, Value.slice A n c), (1, Value.agg #[Value.int .i64 r0, Value.int .i64 r1, Value.int .i64 r2, Value.int .i64 r3, Value.int .i64 r4, Value.int .i64 r5])]) rfl (by simp) (fun g => ?_)
  have hS := St.init w
  refine wp_seq ?_
  refine c_reg ?_
  refine l_op rfl rfl (fun K hK => op_box (d := some 3) rfl rfl [Value.int .i64 r0, Value.int .i64 r1, Value.int .i64 r2, Value.int .i64 r3, Value.int .i64 r4, Value.int .i64 r5] (by kernel_rfl) hS (fun blk2 w1 hS1 => hK _ _ ?_))
  clear hK K
  refine q_seg (S := (fun x_ => St w x_ [Res.box blk2 [Value.int .i64 r0, Value.int .i64 r1, Value.int .i64 r2, Value.int .i64 r3, Value.int .i64 r4, Value.int .i64 r5] 37])) [(6, Value.bool false), (5, Value.int .i64 0), (4, Value.slice none 0 0)] [.no, .no, .no] True (by kernel_rfl) trivial hS1 ?_
  refine l_nil rfl ?_
  refine then_n ?_
  refine wp_seq ?_
  refine c_reg ?_
  refine q_seg (S := (fun x_ => St w x_ [Res.box blk2 [Value.int .i64 r0, Value.int .i64 r1, Value.int .i64 r2, Value.int .i64 r3, Value.int .i64 r4, Value.int .i64 r5] 37])) [(10, Value.slice A n c)] [.no] True (by kernel_rfl) trivial hS1 ?_
  refine l_op rfl rfl (fun K hK => op_call (d := some 11) rfl rfl ⟨_, Try.func25, by kernel_rfl, by kernel_rfl⟩ (vs := [Value.slice A n c]) (by kernel_rfl) (copyItems_c A n c L w1 (by omega) (hS1.rdlow hr)) hS1 (fun v4 new5 w3 Rw3 hS3 => hK _ _ ?_))
  clear hK K
  obtain ⟨Aq6, cq7, rfl, rfl⟩ := Rw3
  refine q_seg (S := (fun x_ => St w x_ [Res.row (Value.slice Aq6 n cq7) 37 6 n (L.map (Value.int .i64)), Res.box blk2 [Value.int .i64 r0, Value.int .i64 r1, Value.int .i64 r2, Value.int .i64 r3, Value.int .i64 r4, Value.int .i64 r5] 37])) [(7, Value.slice Aq6 n cq7)] [.no] True (by kernel_rfl) trivial hS3 ?_
  refine l_nil rfl ?_
  refine then_n ?_
  refine wp_seq ?_
  refine c_reg ?_
  refine q_seg (S := (fun x_ => St w x_ [Res.row (Value.slice Aq6 n cq7) 37 6 n (L.map (Value.int .i64)), Res.box blk2 [Value.int .i64 r0, Value.int .i64 r1, Value.int .i64 r2, Value.int .i64 r3, Value.int .i64 r4, Value.int .i64 r5] 37])) [(8, Value.int .i64 (-1))] [.no] True (by kernel_rfl) trivial hS3 ?_
  refine l_nil rfl ?_
  refine then_n ?_
  refine wp_seq ?_
  refine wp_seq ?_
  refine c_reg ?_
  refine q_seg (S := (fun x_ => St w x_ [Res.row (Value.slice Aq6 n cq7) 37 6 n (L.map (Value.int .i64)), Res.box blk2 [Value.int .i64 r0, Value.int .i64 r1, Value.int .i64 r2, Value.int .i64 r3, Value.int .i64 r4, Value.int .i64 r5] 37])) [(14, Value.agg #[Value.int .i64 r0, Value.int .i64 r1]), (13, Value.pointer (some ⟨blk2, 0 + 0, none⟩)), (12, Value.slice Aq6 n cq7)] [.no, .no, .v (Value.agg #[Value.int .i64 r0, Value.int .i64 r1])] ((LoadsAt Try.prog (fun x_ => St w x_ [Res.row (Value.slice Aq6 n cq7) 37 6 n (L.map (Value.int .i64)), Res.box blk2 [Value.int .i64 r0, Value.int .i64 r1, Value.int .i64 r2, Value.int .i64 r3, Value.int .i64 r4, Value.int .i64 r5] 37]) 34 ⟨blk2, 0 + 0, none⟩ (Value.agg #[Value.int .i64 r0, Value.int .i64 r1]))) (by kernel_rfl) (ld_boxN (i := 1) (k := 2) rfl rfl rfl (by kernel_rfl)) hS3 ?_
  refine l_op rfl rfl (fun K hK => op_callv (d := some 15) rfl rfl ⟨_, Try.func17, by kernel_rfl, by kernel_rfl⟩ (vs := [Value.slice Aq6 n cq7, Value.agg #[Value.int .i64 r0, Value.int .i64 r1]]) (by kernel_rfl) (v := Value.int .i64 (fnd (isID L r0 r1) n)) (FindI_c Aq6 n cq7 n L r0 r1 w3 (by omega) (by omega) (hS3.rd (List.mem_of_getElem? (i := 0) rfl))) hS3 (fun w8 hS8 => hK _ _ ?_))
  clear hK K
  have hfq9 := fnd_bd (isID L r0 r1) n
  refine q_seg (S := (fun x_ => St w x_ [Res.row (Value.slice Aq6 n cq7) 37 6 n (L.map (Value.int .i64)), Res.box blk2 [Value.int .i64 r0, Value.int .i64 r1, Value.int .i64 r2, Value.int .i64 r3, Value.int .i64 r4, Value.int .i64 r5] 37])) [(9, Value.int .i64 (fnd (isID L r0 r1) n))] [.no] True (by kernel_rfl) trivial hS8 ?_
  refine l_nil rfl ?_
  refine then_n ?_
  refine wp_seq ?_
  refine c_reg ?_
  refine q_seg (S := (fun x_ => St w x_ [Res.row (Value.slice Aq6 n cq7) 37 6 n (L.map (Value.int .i64)), Res.box blk2 [Value.int .i64 r0, Value.int .i64 r1, Value.int .i64 r2, Value.int .i64 r3, Value.int .i64 r4, Value.int .i64 r5] 37])) [(17, Value.bool (decide ((0 : Int) ≤ (fnd (isID L r0 r1) n)))), (16, Value.int .i64 (fnd (isID L r0 r1) n))] [.no, .no] True (by kernel_rfl) trivial hS8 ?_
  refine l_nil rfl ?_
  refine then_n ?_
  rcases Bool.eq_false_or_eq_true (decide ((0 : Int) ≤ (fnd (isID L r0 r1) n))) with hb10 | hb10
  · skip
    have hb10p := of_decide_eq_true hb10
    obtain ⟨blk11, rfl⟩ := hS8.row_at (List.mem_of_getElem? (i := 0) rfl) (by omega)
    obtain ⟨bA, offA, rfl, hbA, hclA⟩ := hr.2 (by omega)
    refine c_true (b := (decide ((0 : Int) ≤ (fnd (isID L r0 r1) n)))) (by kernel_rfl) hb10 ?_
    refine wp_seq ?_
    refine c_reg ?_
    refine q_seg (S := (fun x_ => St w x_ [Res.row (Value.slice (some ⟨blk11, 0, none⟩) n cq7) 37 6 n (L.map (Value.int .i64)), Res.box blk2 [Value.int .i64 r0, Value.int .i64 r1, Value.int .i64 r2, Value.int .i64 r3, Value.int .i64 r4, Value.int .i64 r5] 37])) [(8, Value.int .i64 (za L (Int.toNat (fnd (isID L r0 r1) n) * 6 + 2))), (22, Value.int .i64 (za L (Int.toNat (fnd (isID L r0 r1) n) * 6 + 2))), (21, Value.pointer (some ⟨blk11, 0 + Int.toNat (fnd (isID L r0 r1) n) * 6 + 2, none⟩)), (20, Value.pointer (some ⟨blk11, 0 + Int.toNat (fnd (isID L r0 r1) n) * 6, none⟩)), (19, Value.int .i64 (fnd (isID L r0 r1) n)), (18, Value.slice (some ⟨blk11, 0, none⟩) n cq7)] [.no, .no, .no, .no, .v (Value.int .i64 (za L (Int.toNat (fnd (isID L r0 r1) n) * 6 + 2))), .no] (((0 : Int) ≤ (fnd (isID L r0 r1) n)) ∧ ((fnd (isID L r0 r1) n) < ((n : Nat) : Int)) ∧ (LoadsAt Try.prog (fun x_ => St w x_ [Res.row (Value.slice (some ⟨blk11, 0, none⟩) n cq7) 37 6 n (L.map (Value.int .i64)), Res.box blk2 [Value.int .i64 r0, Value.int .i64 r1, Value.int .i64 r2, Value.int .i64 r3, Value.int .i64 r4, Value.int .i64 r5] 37]) 3 ⟨blk11, 0 + Int.toNat (fnd (isID L r0 r1) n) * 6 + 2, none⟩ (Value.int .i64 (za L (Int.toNat (fnd (isID L r0 r1) n) * 6 + 2))))) (by kernel_rfl) ⟨(by omega), (by omega), (ld_row (i := 0) rfl (at_off1 (p := Int.toNat (fnd (isID L r0 r1) n) * 6 + 2) (by omega) (by omega)) (by kernel_rfl))⟩ hS8 ?_
    refine l_nil rfl ?_
    refine then_n ?_
    refine c_reg ?_
    refine q_seg (S := (fun x_ => St w x_ [Res.row (Value.slice (some ⟨blk11, 0, none⟩) n cq7) 37 6 n (L.map (Value.int .i64)), Res.box blk2 [Value.int .i64 r0, Value.int .i64 r1, Value.int .i64 r2, Value.int .i64 r3, Value.int .i64 r4, Value.int .i64 r5] 37])) [(26, Value.pointer (some ⟨blk11, 0 + Int.toNat (fnd (isID L r0 r1) n) * 6, none⟩)), (25, Value.agg #[Value.int .i64 r0, Value.int .i64 r1, Value.int .i64 r2, Value.int .i64 r3, Value.int .i64 r4, Value.int .i64 r5]), (24, Value.int .i64 (fnd (isID L r0 r1) n)), (23, Value.slice (some ⟨blk11, 0, none⟩) n cq7)] [.no, .no, .v (Value.agg #[Value.int .i64 r0, Value.int .i64 r1, Value.int .i64 r2, Value.int .i64 r3, Value.int .i64 r4, Value.int .i64 r5]), .no] ((LoadsAt Try.prog (fun x_ => St w x_ [Res.row (Value.slice (some ⟨blk11, 0, none⟩) n cq7) 37 6 n (L.map (Value.int .i64)), Res.box blk2 [Value.int .i64 r0, Value.int .i64 r1, Value.int .i64 r2, Value.int .i64 r3, Value.int .i64 r4, Value.int .i64 r5] 37]) 37 ⟨blk2, 0, none⟩ (Value.agg #[Value.int .i64 r0, Value.int .i64 r1, Value.int .i64 r2, Value.int .i64 r3, Value.int .i64 r4, Value.int .i64 r5])) ∧ ((0 : Int) ≤ (fnd (isID L r0 r1) n)) ∧ ((fnd (isID L r0 r1) n) < ((n : Nat) : Int))) (by kernel_rfl) ⟨(ld_boxN (i := 1) (k := 6) rfl rfl rfl (by kernel_rfl)), (by omega), (by omega)⟩ hS8 ?_
    have hlnw12 := hS8.row_len (List.mem_of_getElem? (i := 0) rfl)
    refine l_op rfl rfl (fun K hK => op_storeRow (d := none) rfl rfl (i := 0) (b := blk11) (off := 0 + Int.toNat (fnd (isID L r0 r1) n) * 6) (m := n) (cap := cq7) (e := 37) (sz := 6) (xs := (L.map (Value.int .i64))) (by kernel_rfl) (by kernel_rfl) [Value.int .i64 r0, Value.int .i64 r1, Value.int .i64 r2, Value.int .i64 r3, Value.int .i64 r4, Value.int .i64 r5] (by kernel_rfl) (by kernel_rfl) (by rw [hlnw12]; simp only [List.length_cons, List.length_nil]; omega) (by rfl) [Res.row (Value.slice (some ⟨blk11, 0, none⟩) n cq7) 37 6 n (List.take (0 + Int.toNat (fnd (isID L r0 r1) n) * 6) (L.map (Value.int .i64)) ++ [Value.int .i64 r0, Value.int .i64 r1, Value.int .i64 r2, Value.int .i64 r3, Value.int .i64 r4, Value.int .i64 r5] ++ List.drop (0 + Int.toNat (fnd (isID L r0 r1) n) * 6 + List.length [Value.int .i64 r0, Value.int .i64 r1, Value.int .i64 r2, Value.int .i64 r3, Value.int .i64 r4, Value.int .i64 r5]) (L.map (Value.int .i64))), Res.box blk2 [Value.int .i64 r0, Value.int .i64 r1, Value.int .i64 r2, Value.int .i64 r3, Value.int .i64 r4, Value.int .i64 r5] 37] (by kernel_rfl) hS8 (fun w12 hS12 => hK _ _ ?_))
    clear hK K
    replace hS12 := hS12.eqv (own' := [Res.row (Value.slice (some ⟨blk11, 0, none⟩) n cq7) 37 6 n ((L.take (Int.toNat (fnd (isID L r0 r1) n) * 6) ++ [r0, r1, r2, r3, r4, r5] ++ L.drop (Int.toNat (fnd (isID L r0 r1) n) * 6 + 6)).map (Value.int .i64)), Res.box blk2 [Value.int .i64 r0, Value.int .i64 r1, Value.int .i64 r2, Value.int .i64 r3, Value.int .i64 r4, Value.int .i64 r5] 37]) (by rw [put6 (i := Int.toNat (fnd (isID L r0 r1) n)) (by omega)])
    refine l_nil rfl ?_
    refine then_n ?_
    refine wp_seq ?_
    refine wp_seq ?_
    refine c_reg ?_
    refine q_seg (S := (fun x_ => St w x_ [Res.row (Value.slice (some ⟨blk11, 0, none⟩) n cq7) 37 6 n ((L.take (Int.toNat (fnd (isID L r0 r1) n) * 6) ++ [r0, r1, r2, r3, r4, r5] ++ L.drop (Int.toNat (fnd (isID L r0 r1) n) * 6 + 6)).map (Value.int .i64)), Res.box blk2 [Value.int .i64 r0, Value.int .i64 r1, Value.int .i64 r2, Value.int .i64 r3, Value.int .i64 r4, Value.int .i64 r5] 37])) [(31, Value.slice (some ⟨blk11, 0, none⟩) n cq7)] [.no] True (by kernel_rfl) trivial hS12 ?_
    refine l_op rfl rfl (fun K hK => op_callv (d := some 32) rfl rfl ⟨_, Try.func18, by kernel_rfl, by kernel_rfl⟩ (vs := [Value.slice (some ⟨blk11, 0, none⟩) n cq7]) (by kernel_rfl) (v := Value.bool (okR (L.take (Int.toNat (fnd (isID L r0 r1) n) * 6) ++ [r0, r1, r2, r3, r4, r5] ++ L.drop (Int.toNat (fnd (isID L r0 r1) n) * 6 + 6)) n)) (ValidI_c (some ⟨blk11, 0, none⟩) n cq7 n (L.take (Int.toNat (fnd (isID L r0 r1) n) * 6) ++ [r0, r1, r2, r3, r4, r5] ++ L.drop (Int.toNat (fnd (isID L r0 r1) n) * 6 + 6)) w12 (by omega) (by omega) (hS12.rd (List.mem_of_getElem? (i := 0) rfl)) (hS12.row_cap (i := 0) rfl).1 (hS12.row_cap (i := 0) rfl).2) hS12 (fun w13 hS13 => hK _ _ ?_))
    clear hK K
    refine q_seg (S := (fun x_ => St w x_ [Res.row (Value.slice (some ⟨blk11, 0, none⟩) n cq7) 37 6 n ((L.take (Int.toNat (fnd (isID L r0 r1) n) * 6) ++ [r0, r1, r2, r3, r4, r5] ++ L.drop (Int.toNat (fnd (isID L r0 r1) n) * 6 + 6)).map (Value.int .i64)), Res.box blk2 [Value.int .i64 r0, Value.int .i64 r1, Value.int .i64 r2, Value.int .i64 r3, Value.int .i64 r4, Value.int .i64 r5] 37])) [(33, Value.bool (!(okR (L.take (Int.toNat (fnd (isID L r0 r1) n) * 6) ++ [r0, r1, r2, r3, r4, r5] ++ L.drop (Int.toNat (fnd (isID L r0 r1) n) * 6 + 6)) n)))] [.no] True (by kernel_rfl) trivial hS13 ?_
    refine l_nil rfl ?_
    refine then_n ?_
    rcases Bool.eq_false_or_eq_true (okR (L.take (Int.toNat (fnd (isID L r0 r1) n) * 6) ++ [r0, r1, r2, r3, r4, r5] ++ L.drop (Int.toNat (fnd (isID L r0 r1) n) * 6 + 6)) n) with hb14 | hb14
    · skip
      refine c_false (b := (!(okR (L.take (Int.toNat (fnd (isID L r0 r1) n) * 6) ++ [r0, r1, r2, r3, r4, r5] ++ L.drop (Int.toNat (fnd (isID L r0 r1) n) * 6 + 6)) n))) (by kernel_rfl) (nb (v := true) hb14) ?_
      refine wp_skip ?_
      refine then_n ?_
      refine wp_seq ?_
      refine c_reg ?_
      refine q_seg (S := (fun x_ => St w x_ [Res.row (Value.slice (some ⟨blk11, 0, none⟩) n cq7) 37 6 n ((L.take (Int.toNat (fnd (isID L r0 r1) n) * 6) ++ [r0, r1, r2, r3, r4, r5] ++ L.drop (Int.toNat (fnd (isID L r0 r1) n) * 6 + 6)).map (Value.int .i64)), Res.box blk2 [Value.int .i64 r0, Value.int .i64 r1, Value.int .i64 r2, Value.int .i64 r3, Value.int .i64 r4, Value.int .i64 r5] 37])) [(6, Value.bool true), (5, Value.int .i64 (za L (Int.toNat (fnd (isID L r0 r1) n) * 6 + 2))), (4, Value.slice (some ⟨blk11, 0, none⟩) n cq7), (37, Value.int .i64 (za L (Int.toNat (fnd (isID L r0 r1) n) * 6 + 2))), (36, Value.slice (some ⟨blk11, 0, none⟩) n cq7)] [.no, .no, .no, .no, .no] True (by kernel_rfl) trivial hS13 ?_
      refine l_nil rfl ?_
      refine then_n ?_
      refine wp_ret ?_
      have hS13s1 : St w w13 [Res.row (Value.slice (some ⟨blk11, 0, none⟩) n cq7) 37 6 n ((L.take (Int.toNat (fnd (isID L r0 r1) n) * 6) ++ [r0, r1, r2, r3, r4, r5] ++ L.drop (Int.toNat (fnd (isID L r0 r1) n) * 6 + 6)).map (Value.int .i64))] := (hS13.sub (List.Sublist.cons_cons _ (List.Sublist.cons _ List.Sublist.slnil)))
      have hrl := hS13s1.rec_len (List.mem_of_getElem? (i := 0) rfl)
      obtain ⟨e1, e2, e3⟩ := regT_put (n := n) (r := [r0, r1, r2, r3, r4, r5]) hb10p hb14
      exact c_end (S := (fun x_ => St w x_ [Res.row (Value.slice (some ⟨blk11, 0, none⟩) n cq7) 37 6 n ((L.take (Int.toNat (fnd (isID L r0 r1) n) * 6) ++ [r0, r1, r2, r3, r4, r5] ++ L.drop (Int.toNat (fnd (isID L r0 r1) n) * 6 + 6)).map (Value.int .i64))])) (rs := [.tmp 4, .tmp 5, .tmp 6]) rfl [] (v := Value.tuple #[Value.slice (some ⟨blk11, 0, none⟩) n cq7, Value.int .i64 (za L (Int.toNat (fnd (isID L r0 r1) n) * 6 + 2)), Value.bool true]) (C := True) (by kernel_rfl) trivial hS13s1 (hS13s1.rt ⟨n, (some ⟨blk11, 0, none⟩), cq7, by rw [e2]; exact hrl, by omega, by rw [e1, e3], by rw [e2]⟩)
    · skip
      refine c_true (b := (!(okR (L.take (Int.toNat (fnd (isID L r0 r1) n) * 6) ++ [r0, r1, r2, r3, r4, r5] ++ L.drop (Int.toNat (fnd (isID L r0 r1) n) * 6 + 6)) n))) (by kernel_rfl) (nb (v := false) hb14) ?_
      refine wp_seq ?_
      refine c_reg ?_
      refine q_seg (S := (fun x_ => St w x_ [Res.row (Value.slice (some ⟨blk11, 0, none⟩) n cq7) 37 6 n ((L.take (Int.toNat (fnd (isID L r0 r1) n) * 6) ++ [r0, r1, r2, r3, r4, r5] ++ L.drop (Int.toNat (fnd (isID L r0 r1) n) * 6 + 6)).map (Value.int .i64)), Res.box blk2 [Value.int .i64 r0, Value.int .i64 r1, Value.int .i64 r2, Value.int .i64 r3, Value.int .i64 r4, Value.int .i64 r5] 37])) [(34, Value.slice (some ⟨bA, offA, none⟩) n c)] [.no] True (by kernel_rfl) trivial hS13 ?_
      refine l_op rfl rfl (fun K hK => op_call (d := some 35) rfl rfl ⟨_, Try.func25, by kernel_rfl, by kernel_rfl⟩ (vs := [Value.slice (some ⟨bA, offA, none⟩) n c]) (by kernel_rfl) (copyItems_c (some ⟨bA, offA, none⟩) n c L w13 (by omega) (hS13.rdlow hr)) hS13 (fun v16 new17 w15 Rw15 hS15 => hK _ _ ?_))
      clear hK K
      obtain ⟨Aq18, cq19, rfl, rfl⟩ := Rw15
      refine q_seg (S := (fun x_ => St w x_ [Res.row (Value.slice Aq18 n cq19) 37 6 n (L.map (Value.int .i64)), Res.row (Value.slice (some ⟨blk11, 0, none⟩) n cq7) 37 6 n ((L.take (Int.toNat (fnd (isID L r0 r1) n) * 6) ++ [r0, r1, r2, r3, r4, r5] ++ L.drop (Int.toNat (fnd (isID L r0 r1) n) * 6 + 6)).map (Value.int .i64)), Res.box blk2 [Value.int .i64 r0, Value.int .i64 r1, Value.int .i64 r2, Value.int .i64 r3, Value.int .i64 r4, Value.int .i64 r5] 37])) [(6, Value.bool false), (5, Value.int .i64 (-1)), (4, Value.slice Aq18 n cq19)] [.no, .no, .no] True (by kernel_rfl) trivial hS15 ?_
      refine l_nil rfl ?_
      refine then_n ?_
      refine wp_ret ?_
      refine then_r ?_
      have hS15s2 : St w w15 [Res.row (Value.slice Aq18 n cq19) 37 6 n (L.map (Value.int .i64))] := (hS15.sub (List.Sublist.cons_cons _ (List.Sublist.cons _ (List.Sublist.cons _ List.Sublist.slnil))))
      have hrl := hS15s2.rec_len (List.mem_of_getElem? (i := 0) rfl)
      obtain ⟨e1, e2, e3⟩ := regF_put (n := n) (r := [r0, r1, r2, r3, r4, r5]) hb10p hb14
      exact c_end (S := (fun x_ => St w x_ [Res.row (Value.slice Aq18 n cq19) 37 6 n (L.map (Value.int .i64))])) (rs := [.tmp 4, .tmp 5, .tmp 6]) rfl [] (v := Value.tuple #[Value.slice Aq18 n cq19, Value.int .i64 (-1), Value.bool false]) (C := True) (by kernel_rfl) trivial hS15s2 (hS15s2.rt ⟨n, Aq18, cq19, by rw [e2]; exact hrl, by omega, by rw [e1, e3], by rw [e2]⟩)
  · skip
    have hb10p := of_decide_eq_false hb10
    refine c_false (b := (decide ((0 : Int) ≤ (fnd (isID L r0 r1) n)))) (by kernel_rfl) hb10 ?_
    refine c_reg ?_
    refine q_seg (S := (fun x_ => St w x_ [Res.row (Value.slice Aq6 n cq7) 37 6 n (L.map (Value.int .i64)), Res.box blk2 [Value.int .i64 r0, Value.int .i64 r1, Value.int .i64 r2, Value.int .i64 r3, Value.int .i64 r4, Value.int .i64 r5] 37])) [(28, Value.agg #[Value.int .i64 r0, Value.int .i64 r1, Value.int .i64 r2, Value.int .i64 r3, Value.int .i64 r4, Value.int .i64 r5]), (27, Value.slice Aq6 n cq7)] [.no, .v (Value.agg #[Value.int .i64 r0, Value.int .i64 r1, Value.int .i64 r2, Value.int .i64 r3, Value.int .i64 r4, Value.int .i64 r5])] ((LoadsAt Try.prog (fun x_ => St w x_ [Res.row (Value.slice Aq6 n cq7) 37 6 n (L.map (Value.int .i64)), Res.box blk2 [Value.int .i64 r0, Value.int .i64 r1, Value.int .i64 r2, Value.int .i64 r3, Value.int .i64 r4, Value.int .i64 r5] 37]) 37 ⟨blk2, 0, none⟩ (Value.agg #[Value.int .i64 r0, Value.int .i64 r1, Value.int .i64 r2, Value.int .i64 r3, Value.int .i64 r4, Value.int .i64 r5]))) (by kernel_rfl) (ld_boxN (i := 1) (k := 6) rfl rfl rfl (by kernel_rfl)) hS8 ?_
    refine l_op rfl rfl (fun K hK => op_buildSlice (d := some 29) rfl rfl (e := 37) (by kernel_rfl) 6 (by kernel_rfl) (by decide) (by decide) [Value.int .i64 r0, Value.int .i64 r1, Value.int .i64 r2, Value.int .i64 r3, Value.int .i64 r4, Value.int .i64 r5] (by kernel_rfl) rfl hS8 (fun blk21 w20 hS20 => hK _ _ ?_))
    clear hK K
    refine l_op rfl rfl (fun K hK => op_append (d := some 30) rfl rfl el_37 hS20 (i := 1) rfl rfl rfl (news := [Value.int .i64 r0, Value.int .i64 r1, Value.int .i64 r2, Value.int .i64 r3, Value.int .i64 r4, Value.int .i64 r5]) (hS20.rd (List.mem_of_getElem? (i := 0) rfl)) (all_one (by rfl)) (by omega) (by omega) (fun v23 w22 hS22 => hK _ _ ?_))
    clear hK K
    obtain ⟨hlv23, Av23, cv23, hvv23, hnv23, hmv23⟩ := hS22.row_slice (List.mem_of_getElem? (i := 1) rfl)
    subst hvv23
    replace hS22 := hS22.eqv (own' := [Res.row (Value.slice (some ⟨blk21, 0, none⟩) 1 1) 37 6 1 ([Value.int .i64 r0, Value.int .i64 r1, Value.int .i64 r2, Value.int .i64 r3, Value.int .i64 r4, Value.int .i64 r5]), Res.row (Value.slice Av23 (n + 1) cv23) 37 6 (n + 1) ((L ++ [r0, r1, r2, r3, r4, r5]).map (Value.int .i64)), Res.box blk2 [Value.int .i64 r0, Value.int .i64 r1, Value.int .i64 r2, Value.int .i64 r3, Value.int .i64 r4, Value.int .i64 r5] 37]) (by rw [app6]; rfl)
    refine q_seg (S := (fun x_ => St w x_ [Res.row (Value.slice (some ⟨blk21, 0, none⟩) 1 1) 37 6 1 ([Value.int .i64 r0, Value.int .i64 r1, Value.int .i64 r2, Value.int .i64 r3, Value.int .i64 r4, Value.int .i64 r5]), Res.row (Value.slice Av23 (n + 1) cv23) 37 6 (n + 1) ((L ++ [r0, r1, r2, r3, r4, r5]).map (Value.int .i64)), Res.box blk2 [Value.int .i64 r0, Value.int .i64 r1, Value.int .i64 r2, Value.int .i64 r3, Value.int .i64 r4, Value.int .i64 r5] 37])) [(7, Value.slice Av23 (n + 1) cv23)] [.no] True (by kernel_rfl) trivial hS22 ?_
    refine l_nil rfl ?_
    refine then_n ?_
    refine wp_seq ?_
    refine wp_seq ?_
    refine c_reg ?_
    refine q_seg (S := (fun x_ => St w x_ [Res.row (Value.slice (some ⟨blk21, 0, none⟩) 1 1) 37 6 1 ([Value.int .i64 r0, Value.int .i64 r1, Value.int .i64 r2, Value.int .i64 r3, Value.int .i64 r4, Value.int .i64 r5]), Res.row (Value.slice Av23 (n + 1) cv23) 37 6 (n + 1) ((L ++ [r0, r1, r2, r3, r4, r5]).map (Value.int .i64)), Res.box blk2 [Value.int .i64 r0, Value.int .i64 r1, Value.int .i64 r2, Value.int .i64 r3, Value.int .i64 r4, Value.int .i64 r5] 37])) [(31, Value.slice Av23 (n + 1) cv23)] [.no] True (by kernel_rfl) trivial hS22 ?_
    refine l_op rfl rfl (fun K hK => op_callv (d := some 32) rfl rfl ⟨_, Try.func18, by kernel_rfl, by kernel_rfl⟩ (vs := [Value.slice Av23 (n + 1) cv23]) (by kernel_rfl) (v := Value.bool (okR (L ++ [r0, r1, r2, r3, r4, r5]) (n + 1))) (ValidI_c Av23 (n + 1) cv23 (n + 1) (L ++ [r0, r1, r2, r3, r4, r5]) w22 (by omega) (by omega) (hS22.rd (List.mem_of_getElem? (i := 1) rfl)) (hS22.row_cap (i := 1) rfl).1 (hS22.row_cap (i := 1) rfl).2) hS22 (fun w24 hS24 => hK _ _ ?_))
    clear hK K
    refine q_seg (S := (fun x_ => St w x_ [Res.row (Value.slice (some ⟨blk21, 0, none⟩) 1 1) 37 6 1 ([Value.int .i64 r0, Value.int .i64 r1, Value.int .i64 r2, Value.int .i64 r3, Value.int .i64 r4, Value.int .i64 r5]), Res.row (Value.slice Av23 (n + 1) cv23) 37 6 (n + 1) ((L ++ [r0, r1, r2, r3, r4, r5]).map (Value.int .i64)), Res.box blk2 [Value.int .i64 r0, Value.int .i64 r1, Value.int .i64 r2, Value.int .i64 r3, Value.int .i64 r4, Value.int .i64 r5] 37])) [(33, Value.bool (!(okR (L ++ [r0, r1, r2, r3, r4, r5]) (n + 1))))] [.no] True (by kernel_rfl) trivial hS24 ?_
    refine l_nil rfl ?_
    refine then_n ?_
    rcases Bool.eq_false_or_eq_true (okR (L ++ [r0, r1, r2, r3, r4, r5]) (n + 1)) with hb25 | hb25
    · skip
      refine c_false (b := (!(okR (L ++ [r0, r1, r2, r3, r4, r5]) (n + 1)))) (by kernel_rfl) (nb (v := true) hb25) ?_
      refine wp_skip ?_
      refine then_n ?_
      refine wp_seq ?_
      refine c_reg ?_
      refine q_seg (S := (fun x_ => St w x_ [Res.row (Value.slice (some ⟨blk21, 0, none⟩) 1 1) 37 6 1 ([Value.int .i64 r0, Value.int .i64 r1, Value.int .i64 r2, Value.int .i64 r3, Value.int .i64 r4, Value.int .i64 r5]), Res.row (Value.slice Av23 (n + 1) cv23) 37 6 (n + 1) ((L ++ [r0, r1, r2, r3, r4, r5]).map (Value.int .i64)), Res.box blk2 [Value.int .i64 r0, Value.int .i64 r1, Value.int .i64 r2, Value.int .i64 r3, Value.int .i64 r4, Value.int .i64 r5] 37])) [(6, Value.bool true), (5, Value.int .i64 (-1)), (4, Value.slice Av23 (n + 1) cv23), (37, Value.int .i64 (-1)), (36, Value.slice Av23 (n + 1) cv23)] [.no, .no, .no, .no, .no] True (by kernel_rfl) trivial hS24 ?_
      refine l_nil rfl ?_
      refine then_n ?_
      refine wp_ret ?_
      have hS24s3 : St w w24 [Res.row (Value.slice Av23 (n + 1) cv23) 37 6 (n + 1) ((L ++ [r0, r1, r2, r3, r4, r5]).map (Value.int .i64))] := (hS24.sub (List.Sublist.cons _ (List.Sublist.cons_cons _ (List.Sublist.cons _ List.Sublist.slnil))))
      have hrl := hS24s3.rec_len (List.mem_of_getElem? (i := 0) rfl)
      obtain ⟨e1, e2, e3⟩ := regT_app (n := n) (r := [r0, r1, r2, r3, r4, r5]) hb10p hb25
      exact c_end (S := (fun x_ => St w x_ [Res.row (Value.slice Av23 (n + 1) cv23) 37 6 (n + 1) ((L ++ [r0, r1, r2, r3, r4, r5]).map (Value.int .i64))])) (rs := [.tmp 4, .tmp 5, .tmp 6]) rfl [] (v := Value.tuple #[Value.slice Av23 (n + 1) cv23, Value.int .i64 (-1), Value.bool true]) (C := True) (by kernel_rfl) trivial hS24s3 (hS24s3.rt ⟨(n + 1), Av23, cv23, by rw [e2]; exact hrl, by omega, by rw [e1, e3], by rw [e2]⟩)
    · skip
      refine c_true (b := (!(okR (L ++ [r0, r1, r2, r3, r4, r5]) (n + 1)))) (by kernel_rfl) (nb (v := false) hb25) ?_
      refine wp_seq ?_
      refine c_reg ?_
      refine q_seg (S := (fun x_ => St w x_ [Res.row (Value.slice (some ⟨blk21, 0, none⟩) 1 1) 37 6 1 ([Value.int .i64 r0, Value.int .i64 r1, Value.int .i64 r2, Value.int .i64 r3, Value.int .i64 r4, Value.int .i64 r5]), Res.row (Value.slice Av23 (n + 1) cv23) 37 6 (n + 1) ((L ++ [r0, r1, r2, r3, r4, r5]).map (Value.int .i64)), Res.box blk2 [Value.int .i64 r0, Value.int .i64 r1, Value.int .i64 r2, Value.int .i64 r3, Value.int .i64 r4, Value.int .i64 r5] 37])) [(34, Value.slice A n c)] [.no] True (by kernel_rfl) trivial hS24 ?_
      refine l_op rfl rfl (fun K hK => op_call (d := some 35) rfl rfl ⟨_, Try.func25, by kernel_rfl, by kernel_rfl⟩ (vs := [Value.slice A n c]) (by kernel_rfl) (copyItems_c A n c L w24 (by omega) (hS24.rdlow hr)) hS24 (fun v27 new28 w26 Rw26 hS26 => hK _ _ ?_))
      clear hK K
      obtain ⟨Aq29, cq30, rfl, rfl⟩ := Rw26
      refine q_seg (S := (fun x_ => St w x_ [Res.row (Value.slice Aq29 n cq30) 37 6 n (L.map (Value.int .i64)), Res.row (Value.slice (some ⟨blk21, 0, none⟩) 1 1) 37 6 1 ([Value.int .i64 r0, Value.int .i64 r1, Value.int .i64 r2, Value.int .i64 r3, Value.int .i64 r4, Value.int .i64 r5]), Res.row (Value.slice Av23 (n + 1) cv23) 37 6 (n + 1) ((L ++ [r0, r1, r2, r3, r4, r5]).map (Value.int .i64)), Res.box blk2 [Value.int .i64 r0, Value.int .i64 r1, Value.int .i64 r2, Value.int .i64 r3, Value.int .i64 r4, Value.int .i64 r5] 37])) [(6, Value.bool false), (5, Value.int .i64 (-1)), (4, Value.slice Aq29 n cq30)] [.no, .no, .no] True (by kernel_rfl) trivial hS26 ?_
      refine l_nil rfl ?_
      refine then_n ?_
      refine wp_ret ?_
      refine then_r ?_
      have hS26s4 : St w w26 [Res.row (Value.slice Aq29 n cq30) 37 6 n (L.map (Value.int .i64))] := (hS26.sub (List.Sublist.cons_cons _ (List.Sublist.cons _ (List.Sublist.cons _ (List.Sublist.cons _ List.Sublist.slnil)))))
      have hrl := hS26s4.rec_len (List.mem_of_getElem? (i := 0) rfl)
      obtain ⟨e1, e2, e3⟩ := regF_app (n := n) (r := [r0, r1, r2, r3, r4, r5]) hb10p hb25
      exact c_end (S := (fun x_ => St w x_ [Res.row (Value.slice Aq29 n cq30) 37 6 n (L.map (Value.int .i64))])) (rs := [.tmp 4, .tmp 5, .tmp 6]) rfl [] (v := Value.tuple #[Value.slice Aq29 n cq30, Value.int .i64 (-1), Value.bool false]) (C := True) (by kernel_rfl) trivial hS26s4 (hS26s4.rt ⟨n, Aq29, cq30, by rw [e2]; exact hrl, by omega, by rw [e1, e3], by rw [e2]⟩)
theorem RegS_c (A : Option Addr) (n c : Nat) (L : List Int) (r0 r1 r2 r3 r4 r5 : Int) (w : World) (hn : n ≤ 1073741824) (hr : Rd w w.heap.size A (n * 6) (L.map (Value.int .i64))) : Calls Try.prog 6 #[.slice A n c, .agg #[.int .i64 r0, .int .i64 r1, .int .i64 r2, .int .i64 r3, .int .i64 r4, .int .i64 r5]] w (Ret w (fun v new => ∃ (m : Nat) (A_ : Option Addr) (c_ : Nat), (regL L n (fnd (isID L r0 r1) n) [r0, r1, r2, r3, r4, r5]).length = m * 6 ∧ m ≤ n + 1 ∧ v = .tuple #[.slice A_ m c_, .int .i64 (regO L n (fnd (isID L r0 r1) n) [r0, r1, r2, r3, r4, r5]), .bool (okP L n (fnd (isID L r0 r1) n) [r0, r1, r2, r3, r4, r5])] ∧ new = [.row (.slice A_ m c_) 37 6 m ((regL L n (fnd (isID L r0 r1) n) [r0, r1, r2, r3, r4, r5]).map (Value.int .i64))])) := by
  have hLl : L.length = n * 6 := hr.len
  refine calls_FA Try.func6 rfl (n := 38) rfl (l := [(0, Value.slice A n c), (1, Value.agg #[Value.int .i64 r0, Value.int .i64 r1, Value.int .i64 r2, Value.int .i64 r3, Value.int .i64 r4, Value.int .i64 r5])]) rfl (by simp) (fun g => ?_)
  have hS := St.init w
  refine wp_seq ?_
  refine c_reg ?_
  refine l_op rfl rfl (fun K hK => op_box (d := some 3) rfl rfl [Value.int .i64 r0, Value.int .i64 r1, Value.int .i64 r2, Value.int .i64 r3, Value.int .i64 r4, Value.int .i64 r5] (by kernel_rfl) hS (fun blk2 w1 hS1 => hK _ _ ?_))
  clear hK K
  refine q_seg (S := (fun x_ => St w x_ [Res.box blk2 [Value.int .i64 r0, Value.int .i64 r1, Value.int .i64 r2, Value.int .i64 r3, Value.int .i64 r4, Value.int .i64 r5] 37])) [(6, Value.bool false), (5, Value.int .i64 0), (4, Value.slice none 0 0)] [.no, .no, .no] True (by kernel_rfl) trivial hS1 ?_
  refine l_nil rfl ?_
  refine then_n ?_
  refine wp_seq ?_
  refine c_reg ?_
  refine q_seg (S := (fun x_ => St w x_ [Res.box blk2 [Value.int .i64 r0, Value.int .i64 r1, Value.int .i64 r2, Value.int .i64 r3, Value.int .i64 r4, Value.int .i64 r5] 37])) [(10, Value.slice A n c)] [.no] True (by kernel_rfl) trivial hS1 ?_
  refine l_op rfl rfl (fun K hK => op_call (d := some 11) rfl rfl ⟨_, Try.func21, by kernel_rfl, by kernel_rfl⟩ (vs := [Value.slice A n c]) (by kernel_rfl) (l21Copy_c A n c L w1 (by omega) (hS1.rdlow hr)) hS1 (fun v4 new5 w3 Rw3 hS3 => hK _ _ ?_))
  clear hK K
  obtain ⟨Aq6, cq7, rfl, rfl⟩ := Rw3
  refine q_seg (S := (fun x_ => St w x_ [Res.row (Value.slice Aq6 n cq7) 37 6 n (L.map (Value.int .i64)), Res.box blk2 [Value.int .i64 r0, Value.int .i64 r1, Value.int .i64 r2, Value.int .i64 r3, Value.int .i64 r4, Value.int .i64 r5] 37])) [(7, Value.slice Aq6 n cq7)] [.no] True (by kernel_rfl) trivial hS3 ?_
  refine l_nil rfl ?_
  refine then_n ?_
  refine wp_seq ?_
  refine c_reg ?_
  refine q_seg (S := (fun x_ => St w x_ [Res.row (Value.slice Aq6 n cq7) 37 6 n (L.map (Value.int .i64)), Res.box blk2 [Value.int .i64 r0, Value.int .i64 r1, Value.int .i64 r2, Value.int .i64 r3, Value.int .i64 r4, Value.int .i64 r5] 37])) [(14, Value.agg #[Value.int .i64 r0, Value.int .i64 r1]), (13, Value.pointer (some ⟨blk2, 0 + 0, none⟩)), (12, Value.slice A n c)] [.no, .no, .v (Value.agg #[Value.int .i64 r0, Value.int .i64 r1])] ((LoadsAt Try.prog (fun x_ => St w x_ [Res.row (Value.slice Aq6 n cq7) 37 6 n (L.map (Value.int .i64)), Res.box blk2 [Value.int .i64 r0, Value.int .i64 r1, Value.int .i64 r2, Value.int .i64 r3, Value.int .i64 r4, Value.int .i64 r5] 37]) 34 ⟨blk2, 0 + 0, none⟩ (Value.agg #[Value.int .i64 r0, Value.int .i64 r1]))) (by kernel_rfl) (ld_boxN (i := 1) (k := 2) rfl rfl rfl (by kernel_rfl)) hS3 ?_
  refine l_op rfl rfl (fun K hK => op_callv (d := some 15) rfl rfl ⟨_, Try.func16, by kernel_rfl, by kernel_rfl⟩ (vs := [Value.slice A n c, Value.agg #[Value.int .i64 r0, Value.int .i64 r1]]) (by kernel_rfl) (v := Value.int .i64 (fnd (isID L r0 r1) n)) (FindS_c A n c n L r0 r1 w3 (by omega) (by omega) (hS3.rdlow hr)) hS3 (fun w8 hS8 => hK _ _ ?_))
  clear hK K
  have hfq9 := fnd_bd (isID L r0 r1) n
  refine q_seg (S := (fun x_ => St w x_ [Res.row (Value.slice Aq6 n cq7) 37 6 n (L.map (Value.int .i64)), Res.box blk2 [Value.int .i64 r0, Value.int .i64 r1, Value.int .i64 r2, Value.int .i64 r3, Value.int .i64 r4, Value.int .i64 r5] 37])) [(8, Value.int .i64 (fnd (isID L r0 r1) n))] [.no] True (by kernel_rfl) trivial hS8 ?_
  refine l_nil rfl ?_
  refine then_n ?_
  refine wp_seq ?_
  refine c_reg ?_
  refine q_seg (S := (fun x_ => St w x_ [Res.row (Value.slice Aq6 n cq7) 37 6 n (L.map (Value.int .i64)), Res.box blk2 [Value.int .i64 r0, Value.int .i64 r1, Value.int .i64 r2, Value.int .i64 r3, Value.int .i64 r4, Value.int .i64 r5] 37])) [(9, Value.int .i64 (-1))] [.no] True (by kernel_rfl) trivial hS8 ?_
  refine l_nil rfl ?_
  refine then_n ?_
  refine wp_seq ?_
  refine wp_seq ?_
  refine c_reg ?_
  refine q_seg (S := (fun x_ => St w x_ [Res.row (Value.slice Aq6 n cq7) 37 6 n (L.map (Value.int .i64)), Res.box blk2 [Value.int .i64 r0, Value.int .i64 r1, Value.int .i64 r2, Value.int .i64 r3, Value.int .i64 r4, Value.int .i64 r5] 37])) [(17, Value.bool (decide ((0 : Int) ≤ (fnd (isID L r0 r1) n)))), (16, Value.int .i64 (fnd (isID L r0 r1) n))] [.no, .no] True (by kernel_rfl) trivial hS8 ?_
  refine l_nil rfl ?_
  refine then_n ?_
  rcases Bool.eq_false_or_eq_true (decide ((0 : Int) ≤ (fnd (isID L r0 r1) n))) with hb10 | hb10
  · skip
    have hb10p := of_decide_eq_true hb10
    obtain ⟨blk11, rfl⟩ := hS8.row_at (List.mem_of_getElem? (i := 0) rfl) (by omega)
    obtain ⟨bA, offA, rfl, hbA, hclA⟩ := hr.2 (by omega)
    refine c_true (b := (decide ((0 : Int) ≤ (fnd (isID L r0 r1) n)))) (by kernel_rfl) hb10 ?_
    refine wp_seq ?_
    refine c_reg ?_
    refine q_seg (S := (fun x_ => St w x_ [Res.row (Value.slice (some ⟨blk11, 0, none⟩) n cq7) 37 6 n (L.map (Value.int .i64)), Res.box blk2 [Value.int .i64 r0, Value.int .i64 r1, Value.int .i64 r2, Value.int .i64 r3, Value.int .i64 r4, Value.int .i64 r5] 37])) [(9, Value.int .i64 (za L (Int.toNat (fnd (isID L r0 r1) n) * 6 + 2))), (22, Value.int .i64 (za L (Int.toNat (fnd (isID L r0 r1) n) * 6 + 2))), (21, Value.pointer (some ⟨bA, offA + Int.toNat (fnd (isID L r0 r1) n) * 6 + 2, none⟩)), (20, Value.pointer (some ⟨bA, offA + Int.toNat (fnd (isID L r0 r1) n) * 6, none⟩)), (19, Value.int .i64 (fnd (isID L r0 r1) n)), (18, Value.slice (some ⟨bA, offA, none⟩) n c)] [.no, .no, .no, .no, .v (Value.int .i64 (za L (Int.toNat (fnd (isID L r0 r1) n) * 6 + 2))), .no] (((0 : Int) ≤ (fnd (isID L r0 r1) n)) ∧ ((fnd (isID L r0 r1) n) < ((n : Nat) : Int)) ∧ (LoadsAt Try.prog (fun x_ => St w x_ [Res.row (Value.slice (some ⟨blk11, 0, none⟩) n cq7) 37 6 n (L.map (Value.int .i64)), Res.box blk2 [Value.int .i64 r0, Value.int .i64 r1, Value.int .i64 r2, Value.int .i64 r3, Value.int .i64 r4, Value.int .i64 r5] 37]) 3 ⟨bA, offA + Int.toNat (fnd (isID L r0 r1) n) * 6 + 2, none⟩ (Value.int .i64 (za L (Int.toNat (fnd (isID L r0 r1) n) * 6 + 2))))) (by kernel_rfl) ⟨(by omega), (by omega), (ld_low (rec_low1 (p := Int.toNat (fnd (isID L r0 r1) n) * 6 + 2) hclA (by omega) (by omega)) (by kernel_rfl))⟩ hS8 ?_
    refine l_nil rfl ?_
    refine then_n ?_
    refine c_reg ?_
    refine q_seg (S := (fun x_ => St w x_ [Res.row (Value.slice (some ⟨blk11, 0, none⟩) n cq7) 37 6 n (L.map (Value.int .i64)), Res.box blk2 [Value.int .i64 r0, Value.int .i64 r1, Value.int .i64 r2, Value.int .i64 r3, Value.int .i64 r4, Value.int .i64 r5] 37])) [(26, Value.pointer (some ⟨blk11, 0 + Int.toNat (fnd (isID L r0 r1) n) * 6, none⟩)), (25, Value.agg #[Value.int .i64 r0, Value.int .i64 r1, Value.int .i64 r2, Value.int .i64 r3, Value.int .i64 r4, Value.int .i64 r5]), (24, Value.int .i64 (fnd (isID L r0 r1) n)), (23, Value.slice (some ⟨blk11, 0, none⟩) n cq7)] [.no, .no, .v (Value.agg #[Value.int .i64 r0, Value.int .i64 r1, Value.int .i64 r2, Value.int .i64 r3, Value.int .i64 r4, Value.int .i64 r5]), .no] ((LoadsAt Try.prog (fun x_ => St w x_ [Res.row (Value.slice (some ⟨blk11, 0, none⟩) n cq7) 37 6 n (L.map (Value.int .i64)), Res.box blk2 [Value.int .i64 r0, Value.int .i64 r1, Value.int .i64 r2, Value.int .i64 r3, Value.int .i64 r4, Value.int .i64 r5] 37]) 37 ⟨blk2, 0, none⟩ (Value.agg #[Value.int .i64 r0, Value.int .i64 r1, Value.int .i64 r2, Value.int .i64 r3, Value.int .i64 r4, Value.int .i64 r5])) ∧ ((0 : Int) ≤ (fnd (isID L r0 r1) n)) ∧ ((fnd (isID L r0 r1) n) < ((n : Nat) : Int))) (by kernel_rfl) ⟨(ld_boxN (i := 1) (k := 6) rfl rfl rfl (by kernel_rfl)), (by omega), (by omega)⟩ hS8 ?_
    have hlnw12 := hS8.row_len (List.mem_of_getElem? (i := 0) rfl)
    refine l_op rfl rfl (fun K hK => op_storeRow (d := none) rfl rfl (i := 0) (b := blk11) (off := 0 + Int.toNat (fnd (isID L r0 r1) n) * 6) (m := n) (cap := cq7) (e := 37) (sz := 6) (xs := (L.map (Value.int .i64))) (by kernel_rfl) (by kernel_rfl) [Value.int .i64 r0, Value.int .i64 r1, Value.int .i64 r2, Value.int .i64 r3, Value.int .i64 r4, Value.int .i64 r5] (by kernel_rfl) (by kernel_rfl) (by rw [hlnw12]; simp only [List.length_cons, List.length_nil]; omega) (by rfl) [Res.row (Value.slice (some ⟨blk11, 0, none⟩) n cq7) 37 6 n (List.take (0 + Int.toNat (fnd (isID L r0 r1) n) * 6) (L.map (Value.int .i64)) ++ [Value.int .i64 r0, Value.int .i64 r1, Value.int .i64 r2, Value.int .i64 r3, Value.int .i64 r4, Value.int .i64 r5] ++ List.drop (0 + Int.toNat (fnd (isID L r0 r1) n) * 6 + List.length [Value.int .i64 r0, Value.int .i64 r1, Value.int .i64 r2, Value.int .i64 r3, Value.int .i64 r4, Value.int .i64 r5]) (L.map (Value.int .i64))), Res.box blk2 [Value.int .i64 r0, Value.int .i64 r1, Value.int .i64 r2, Value.int .i64 r3, Value.int .i64 r4, Value.int .i64 r5] 37] (by kernel_rfl) hS8 (fun w12 hS12 => hK _ _ ?_))
    clear hK K
    replace hS12 := hS12.eqv (own' := [Res.row (Value.slice (some ⟨blk11, 0, none⟩) n cq7) 37 6 n ((L.take (Int.toNat (fnd (isID L r0 r1) n) * 6) ++ [r0, r1, r2, r3, r4, r5] ++ L.drop (Int.toNat (fnd (isID L r0 r1) n) * 6 + 6)).map (Value.int .i64)), Res.box blk2 [Value.int .i64 r0, Value.int .i64 r1, Value.int .i64 r2, Value.int .i64 r3, Value.int .i64 r4, Value.int .i64 r5] 37]) (by rw [put6 (i := Int.toNat (fnd (isID L r0 r1) n)) (by omega)])
    refine l_nil rfl ?_
    refine then_n ?_
    refine wp_seq ?_
    refine wp_seq ?_
    refine c_reg ?_
    refine q_seg (S := (fun x_ => St w x_ [Res.row (Value.slice (some ⟨blk11, 0, none⟩) n cq7) 37 6 n ((L.take (Int.toNat (fnd (isID L r0 r1) n) * 6) ++ [r0, r1, r2, r3, r4, r5] ++ L.drop (Int.toNat (fnd (isID L r0 r1) n) * 6 + 6)).map (Value.int .i64)), Res.box blk2 [Value.int .i64 r0, Value.int .i64 r1, Value.int .i64 r2, Value.int .i64 r3, Value.int .i64 r4, Value.int .i64 r5] 37])) [(31, Value.slice (some ⟨blk11, 0, none⟩) n cq7)] [.no] True (by kernel_rfl) trivial hS12 ?_
    refine l_op rfl rfl (fun K hK => op_callv (d := some 32) rfl rfl ⟨_, Try.func22, by kernel_rfl, by kernel_rfl⟩ (vs := [Value.slice (some ⟨blk11, 0, none⟩) n cq7]) (by kernel_rfl) (v := Value.bool (okR (L.take (Int.toNat (fnd (isID L r0 r1) n) * 6) ++ [r0, r1, r2, r3, r4, r5] ++ L.drop (Int.toNat (fnd (isID L r0 r1) n) * 6 + 6)) n)) (ValidS_c (some ⟨blk11, 0, none⟩) n cq7 n (L.take (Int.toNat (fnd (isID L r0 r1) n) * 6) ++ [r0, r1, r2, r3, r4, r5] ++ L.drop (Int.toNat (fnd (isID L r0 r1) n) * 6 + 6)) w12 (by omega) (by omega) (hS12.rd (List.mem_of_getElem? (i := 0) rfl)) (hS12.row_cap (i := 0) rfl).1 (hS12.row_cap (i := 0) rfl).2) hS12 (fun w13 hS13 => hK _ _ ?_))
    clear hK K
    refine q_seg (S := (fun x_ => St w x_ [Res.row (Value.slice (some ⟨blk11, 0, none⟩) n cq7) 37 6 n ((L.take (Int.toNat (fnd (isID L r0 r1) n) * 6) ++ [r0, r1, r2, r3, r4, r5] ++ L.drop (Int.toNat (fnd (isID L r0 r1) n) * 6 + 6)).map (Value.int .i64)), Res.box blk2 [Value.int .i64 r0, Value.int .i64 r1, Value.int .i64 r2, Value.int .i64 r3, Value.int .i64 r4, Value.int .i64 r5] 37])) [(33, Value.bool (!(okR (L.take (Int.toNat (fnd (isID L r0 r1) n) * 6) ++ [r0, r1, r2, r3, r4, r5] ++ L.drop (Int.toNat (fnd (isID L r0 r1) n) * 6 + 6)) n)))] [.no] True (by kernel_rfl) trivial hS13 ?_
    refine l_nil rfl ?_
    refine then_n ?_
    rcases Bool.eq_false_or_eq_true (okR (L.take (Int.toNat (fnd (isID L r0 r1) n) * 6) ++ [r0, r1, r2, r3, r4, r5] ++ L.drop (Int.toNat (fnd (isID L r0 r1) n) * 6 + 6)) n) with hb14 | hb14
    · skip
      refine c_false (b := (!(okR (L.take (Int.toNat (fnd (isID L r0 r1) n) * 6) ++ [r0, r1, r2, r3, r4, r5] ++ L.drop (Int.toNat (fnd (isID L r0 r1) n) * 6 + 6)) n))) (by kernel_rfl) (nb (v := true) hb14) ?_
      refine wp_skip ?_
      refine then_n ?_
      refine wp_seq ?_
      refine c_reg ?_
      refine q_seg (S := (fun x_ => St w x_ [Res.row (Value.slice (some ⟨blk11, 0, none⟩) n cq7) 37 6 n ((L.take (Int.toNat (fnd (isID L r0 r1) n) * 6) ++ [r0, r1, r2, r3, r4, r5] ++ L.drop (Int.toNat (fnd (isID L r0 r1) n) * 6 + 6)).map (Value.int .i64)), Res.box blk2 [Value.int .i64 r0, Value.int .i64 r1, Value.int .i64 r2, Value.int .i64 r3, Value.int .i64 r4, Value.int .i64 r5] 37])) [(6, Value.bool true), (5, Value.int .i64 (za L (Int.toNat (fnd (isID L r0 r1) n) * 6 + 2))), (4, Value.slice (some ⟨blk11, 0, none⟩) n cq7), (37, Value.int .i64 (za L (Int.toNat (fnd (isID L r0 r1) n) * 6 + 2))), (36, Value.slice (some ⟨blk11, 0, none⟩) n cq7)] [.no, .no, .no, .no, .no] True (by kernel_rfl) trivial hS13 ?_
      refine l_nil rfl ?_
      refine then_n ?_
      refine wp_ret ?_
      have hS13s1 : St w w13 [Res.row (Value.slice (some ⟨blk11, 0, none⟩) n cq7) 37 6 n ((L.take (Int.toNat (fnd (isID L r0 r1) n) * 6) ++ [r0, r1, r2, r3, r4, r5] ++ L.drop (Int.toNat (fnd (isID L r0 r1) n) * 6 + 6)).map (Value.int .i64))] := (hS13.sub (List.Sublist.cons_cons _ (List.Sublist.cons _ List.Sublist.slnil)))
      have hrl := hS13s1.rec_len (List.mem_of_getElem? (i := 0) rfl)
      obtain ⟨e1, e2, e3⟩ := regT_put (n := n) (r := [r0, r1, r2, r3, r4, r5]) hb10p hb14
      exact c_end (S := (fun x_ => St w x_ [Res.row (Value.slice (some ⟨blk11, 0, none⟩) n cq7) 37 6 n ((L.take (Int.toNat (fnd (isID L r0 r1) n) * 6) ++ [r0, r1, r2, r3, r4, r5] ++ L.drop (Int.toNat (fnd (isID L r0 r1) n) * 6 + 6)).map (Value.int .i64))])) (rs := [.tmp 4, .tmp 5, .tmp 6]) rfl [] (v := Value.tuple #[Value.slice (some ⟨blk11, 0, none⟩) n cq7, Value.int .i64 (za L (Int.toNat (fnd (isID L r0 r1) n) * 6 + 2)), Value.bool true]) (C := True) (by kernel_rfl) trivial hS13s1 (hS13s1.rt ⟨n, (some ⟨blk11, 0, none⟩), cq7, by rw [e2]; exact hrl, by omega, by rw [e1, e3], by rw [e2]⟩)
    · skip
      refine c_true (b := (!(okR (L.take (Int.toNat (fnd (isID L r0 r1) n) * 6) ++ [r0, r1, r2, r3, r4, r5] ++ L.drop (Int.toNat (fnd (isID L r0 r1) n) * 6 + 6)) n))) (by kernel_rfl) (nb (v := false) hb14) ?_
      refine wp_seq ?_
      refine c_reg ?_
      refine q_seg (S := (fun x_ => St w x_ [Res.row (Value.slice (some ⟨blk11, 0, none⟩) n cq7) 37 6 n ((L.take (Int.toNat (fnd (isID L r0 r1) n) * 6) ++ [r0, r1, r2, r3, r4, r5] ++ L.drop (Int.toNat (fnd (isID L r0 r1) n) * 6 + 6)).map (Value.int .i64)), Res.box blk2 [Value.int .i64 r0, Value.int .i64 r1, Value.int .i64 r2, Value.int .i64 r3, Value.int .i64 r4, Value.int .i64 r5] 37])) [(34, Value.slice (some ⟨bA, offA, none⟩) n c)] [.no] True (by kernel_rfl) trivial hS13 ?_
      refine l_op rfl rfl (fun K hK => op_call (d := some 35) rfl rfl ⟨_, Try.func21, by kernel_rfl, by kernel_rfl⟩ (vs := [Value.slice (some ⟨bA, offA, none⟩) n c]) (by kernel_rfl) (l21Copy_c (some ⟨bA, offA, none⟩) n c L w13 (by omega) (hS13.rdlow hr)) hS13 (fun v16 new17 w15 Rw15 hS15 => hK _ _ ?_))
      clear hK K
      obtain ⟨Aq18, cq19, rfl, rfl⟩ := Rw15
      refine q_seg (S := (fun x_ => St w x_ [Res.row (Value.slice Aq18 n cq19) 37 6 n (L.map (Value.int .i64)), Res.row (Value.slice (some ⟨blk11, 0, none⟩) n cq7) 37 6 n ((L.take (Int.toNat (fnd (isID L r0 r1) n) * 6) ++ [r0, r1, r2, r3, r4, r5] ++ L.drop (Int.toNat (fnd (isID L r0 r1) n) * 6 + 6)).map (Value.int .i64)), Res.box blk2 [Value.int .i64 r0, Value.int .i64 r1, Value.int .i64 r2, Value.int .i64 r3, Value.int .i64 r4, Value.int .i64 r5] 37])) [(6, Value.bool false), (5, Value.int .i64 (-1)), (4, Value.slice Aq18 n cq19)] [.no, .no, .no] True (by kernel_rfl) trivial hS15 ?_
      refine l_nil rfl ?_
      refine then_n ?_
      refine wp_ret ?_
      refine then_r ?_
      have hS15s2 : St w w15 [Res.row (Value.slice Aq18 n cq19) 37 6 n (L.map (Value.int .i64))] := (hS15.sub (List.Sublist.cons_cons _ (List.Sublist.cons _ (List.Sublist.cons _ List.Sublist.slnil))))
      have hrl := hS15s2.rec_len (List.mem_of_getElem? (i := 0) rfl)
      obtain ⟨e1, e2, e3⟩ := regF_put (n := n) (r := [r0, r1, r2, r3, r4, r5]) hb10p hb14
      exact c_end (S := (fun x_ => St w x_ [Res.row (Value.slice Aq18 n cq19) 37 6 n (L.map (Value.int .i64))])) (rs := [.tmp 4, .tmp 5, .tmp 6]) rfl [] (v := Value.tuple #[Value.slice Aq18 n cq19, Value.int .i64 (-1), Value.bool false]) (C := True) (by kernel_rfl) trivial hS15s2 (hS15s2.rt ⟨n, Aq18, cq19, by rw [e2]; exact hrl, by omega, by rw [e1, e3], by rw [e2]⟩)
  · skip
    have hb10p := of_decide_eq_false hb10
    refine c_false (b := (decide ((0 : Int) ≤ (fnd (isID L r0 r1) n)))) (by kernel_rfl) hb10 ?_
    refine c_reg ?_
    refine q_seg (S := (fun x_ => St w x_ [Res.row (Value.slice Aq6 n cq7) 37 6 n (L.map (Value.int .i64)), Res.box blk2 [Value.int .i64 r0, Value.int .i64 r1, Value.int .i64 r2, Value.int .i64 r3, Value.int .i64 r4, Value.int .i64 r5] 37])) [(28, Value.agg #[Value.int .i64 r0, Value.int .i64 r1, Value.int .i64 r2, Value.int .i64 r3, Value.int .i64 r4, Value.int .i64 r5]), (27, Value.slice Aq6 n cq7)] [.no, .v (Value.agg #[Value.int .i64 r0, Value.int .i64 r1, Value.int .i64 r2, Value.int .i64 r3, Value.int .i64 r4, Value.int .i64 r5])] ((LoadsAt Try.prog (fun x_ => St w x_ [Res.row (Value.slice Aq6 n cq7) 37 6 n (L.map (Value.int .i64)), Res.box blk2 [Value.int .i64 r0, Value.int .i64 r1, Value.int .i64 r2, Value.int .i64 r3, Value.int .i64 r4, Value.int .i64 r5] 37]) 37 ⟨blk2, 0, none⟩ (Value.agg #[Value.int .i64 r0, Value.int .i64 r1, Value.int .i64 r2, Value.int .i64 r3, Value.int .i64 r4, Value.int .i64 r5]))) (by kernel_rfl) (ld_boxN (i := 1) (k := 6) rfl rfl rfl (by kernel_rfl)) hS8 ?_
    refine l_op rfl rfl (fun K hK => op_buildSlice (d := some 29) rfl rfl (e := 37) (by kernel_rfl) 6 (by kernel_rfl) (by decide) (by decide) [Value.int .i64 r0, Value.int .i64 r1, Value.int .i64 r2, Value.int .i64 r3, Value.int .i64 r4, Value.int .i64 r5] (by kernel_rfl) rfl hS8 (fun blk21 w20 hS20 => hK _ _ ?_))
    clear hK K
    refine l_op rfl rfl (fun K hK => op_append (d := some 30) rfl rfl el_37 hS20 (i := 1) rfl rfl rfl (news := [Value.int .i64 r0, Value.int .i64 r1, Value.int .i64 r2, Value.int .i64 r3, Value.int .i64 r4, Value.int .i64 r5]) (hS20.rd (List.mem_of_getElem? (i := 0) rfl)) (all_one (by rfl)) (by omega) (by omega) (fun v23 w22 hS22 => hK _ _ ?_))
    clear hK K
    obtain ⟨hlv23, Av23, cv23, hvv23, hnv23, hmv23⟩ := hS22.row_slice (List.mem_of_getElem? (i := 1) rfl)
    subst hvv23
    replace hS22 := hS22.eqv (own' := [Res.row (Value.slice (some ⟨blk21, 0, none⟩) 1 1) 37 6 1 ([Value.int .i64 r0, Value.int .i64 r1, Value.int .i64 r2, Value.int .i64 r3, Value.int .i64 r4, Value.int .i64 r5]), Res.row (Value.slice Av23 (n + 1) cv23) 37 6 (n + 1) ((L ++ [r0, r1, r2, r3, r4, r5]).map (Value.int .i64)), Res.box blk2 [Value.int .i64 r0, Value.int .i64 r1, Value.int .i64 r2, Value.int .i64 r3, Value.int .i64 r4, Value.int .i64 r5] 37]) (by rw [app6]; rfl)
    refine q_seg (S := (fun x_ => St w x_ [Res.row (Value.slice (some ⟨blk21, 0, none⟩) 1 1) 37 6 1 ([Value.int .i64 r0, Value.int .i64 r1, Value.int .i64 r2, Value.int .i64 r3, Value.int .i64 r4, Value.int .i64 r5]), Res.row (Value.slice Av23 (n + 1) cv23) 37 6 (n + 1) ((L ++ [r0, r1, r2, r3, r4, r5]).map (Value.int .i64)), Res.box blk2 [Value.int .i64 r0, Value.int .i64 r1, Value.int .i64 r2, Value.int .i64 r3, Value.int .i64 r4, Value.int .i64 r5] 37])) [(7, Value.slice Av23 (n + 1) cv23)] [.no] True (by kernel_rfl) trivial hS22 ?_
    refine l_nil rfl ?_
    refine then_n ?_
    refine wp_seq ?_
    refine wp_seq ?_
    refine c_reg ?_
    refine q_seg (S := (fun x_ => St w x_ [Res.row (Value.slice (some ⟨blk21, 0, none⟩) 1 1) 37 6 1 ([Value.int .i64 r0, Value.int .i64 r1, Value.int .i64 r2, Value.int .i64 r3, Value.int .i64 r4, Value.int .i64 r5]), Res.row (Value.slice Av23 (n + 1) cv23) 37 6 (n + 1) ((L ++ [r0, r1, r2, r3, r4, r5]).map (Value.int .i64)), Res.box blk2 [Value.int .i64 r0, Value.int .i64 r1, Value.int .i64 r2, Value.int .i64 r3, Value.int .i64 r4, Value.int .i64 r5] 37])) [(31, Value.slice Av23 (n + 1) cv23)] [.no] True (by kernel_rfl) trivial hS22 ?_
    refine l_op rfl rfl (fun K hK => op_callv (d := some 32) rfl rfl ⟨_, Try.func22, by kernel_rfl, by kernel_rfl⟩ (vs := [Value.slice Av23 (n + 1) cv23]) (by kernel_rfl) (v := Value.bool (okR (L ++ [r0, r1, r2, r3, r4, r5]) (n + 1))) (ValidS_c Av23 (n + 1) cv23 (n + 1) (L ++ [r0, r1, r2, r3, r4, r5]) w22 (by omega) (by omega) (hS22.rd (List.mem_of_getElem? (i := 1) rfl)) (hS22.row_cap (i := 1) rfl).1 (hS22.row_cap (i := 1) rfl).2) hS22 (fun w24 hS24 => hK _ _ ?_))
    clear hK K
    refine q_seg (S := (fun x_ => St w x_ [Res.row (Value.slice (some ⟨blk21, 0, none⟩) 1 1) 37 6 1 ([Value.int .i64 r0, Value.int .i64 r1, Value.int .i64 r2, Value.int .i64 r3, Value.int .i64 r4, Value.int .i64 r5]), Res.row (Value.slice Av23 (n + 1) cv23) 37 6 (n + 1) ((L ++ [r0, r1, r2, r3, r4, r5]).map (Value.int .i64)), Res.box blk2 [Value.int .i64 r0, Value.int .i64 r1, Value.int .i64 r2, Value.int .i64 r3, Value.int .i64 r4, Value.int .i64 r5] 37])) [(33, Value.bool (!(okR (L ++ [r0, r1, r2, r3, r4, r5]) (n + 1))))] [.no] True (by kernel_rfl) trivial hS24 ?_
    refine l_nil rfl ?_
    refine then_n ?_
    rcases Bool.eq_false_or_eq_true (okR (L ++ [r0, r1, r2, r3, r4, r5]) (n + 1)) with hb25 | hb25
    · skip
      refine c_false (b := (!(okR (L ++ [r0, r1, r2, r3, r4, r5]) (n + 1)))) (by kernel_rfl) (nb (v := true) hb25) ?_
      refine wp_skip ?_
      refine then_n ?_
      refine wp_seq ?_
      refine c_reg ?_
      refine q_seg (S := (fun x_ => St w x_ [Res.row (Value.slice (some ⟨blk21, 0, none⟩) 1 1) 37 6 1 ([Value.int .i64 r0, Value.int .i64 r1, Value.int .i64 r2, Value.int .i64 r3, Value.int .i64 r4, Value.int .i64 r5]), Res.row (Value.slice Av23 (n + 1) cv23) 37 6 (n + 1) ((L ++ [r0, r1, r2, r3, r4, r5]).map (Value.int .i64)), Res.box blk2 [Value.int .i64 r0, Value.int .i64 r1, Value.int .i64 r2, Value.int .i64 r3, Value.int .i64 r4, Value.int .i64 r5] 37])) [(6, Value.bool true), (5, Value.int .i64 (-1)), (4, Value.slice Av23 (n + 1) cv23), (37, Value.int .i64 (-1)), (36, Value.slice Av23 (n + 1) cv23)] [.no, .no, .no, .no, .no] True (by kernel_rfl) trivial hS24 ?_
      refine l_nil rfl ?_
      refine then_n ?_
      refine wp_ret ?_
      have hS24s3 : St w w24 [Res.row (Value.slice Av23 (n + 1) cv23) 37 6 (n + 1) ((L ++ [r0, r1, r2, r3, r4, r5]).map (Value.int .i64))] := (hS24.sub (List.Sublist.cons _ (List.Sublist.cons_cons _ (List.Sublist.cons _ List.Sublist.slnil))))
      have hrl := hS24s3.rec_len (List.mem_of_getElem? (i := 0) rfl)
      obtain ⟨e1, e2, e3⟩ := regT_app (n := n) (r := [r0, r1, r2, r3, r4, r5]) hb10p hb25
      exact c_end (S := (fun x_ => St w x_ [Res.row (Value.slice Av23 (n + 1) cv23) 37 6 (n + 1) ((L ++ [r0, r1, r2, r3, r4, r5]).map (Value.int .i64))])) (rs := [.tmp 4, .tmp 5, .tmp 6]) rfl [] (v := Value.tuple #[Value.slice Av23 (n + 1) cv23, Value.int .i64 (-1), Value.bool true]) (C := True) (by kernel_rfl) trivial hS24s3 (hS24s3.rt ⟨(n + 1), Av23, cv23, by rw [e2]; exact hrl, by omega, by rw [e1, e3], by rw [e2]⟩)
    · skip
      refine c_true (b := (!(okR (L ++ [r0, r1, r2, r3, r4, r5]) (n + 1)))) (by kernel_rfl) (nb (v := false) hb25) ?_
      refine wp_seq ?_
      refine c_reg ?_
      refine q_seg (S := (fun x_ => St w x_ [Res.row (Value.slice (some ⟨blk21, 0, none⟩) 1 1) 37 6 1 ([Value.int .i64 r0, Value.int .i64 r1, Value.int .i64 r2, Value.int .i64 r3, Value.int .i64 r4, Value.int .i64 r5]), Res.row (Value.slice Av23 (n + 1) cv23) 37 6 (n + 1) ((L ++ [r0, r1, r2, r3, r4, r5]).map (Value.int .i64)), Res.box blk2 [Value.int .i64 r0, Value.int .i64 r1, Value.int .i64 r2, Value.int .i64 r3, Value.int .i64 r4, Value.int .i64 r5] 37])) [(34, Value.slice A n c)] [.no] True (by kernel_rfl) trivial hS24 ?_
      refine l_op rfl rfl (fun K hK => op_call (d := some 35) rfl rfl ⟨_, Try.func21, by kernel_rfl, by kernel_rfl⟩ (vs := [Value.slice A n c]) (by kernel_rfl) (l21Copy_c A n c L w24 (by omega) (hS24.rdlow hr)) hS24 (fun v27 new28 w26 Rw26 hS26 => hK _ _ ?_))
      clear hK K
      obtain ⟨Aq29, cq30, rfl, rfl⟩ := Rw26
      refine q_seg (S := (fun x_ => St w x_ [Res.row (Value.slice Aq29 n cq30) 37 6 n (L.map (Value.int .i64)), Res.row (Value.slice (some ⟨blk21, 0, none⟩) 1 1) 37 6 1 ([Value.int .i64 r0, Value.int .i64 r1, Value.int .i64 r2, Value.int .i64 r3, Value.int .i64 r4, Value.int .i64 r5]), Res.row (Value.slice Av23 (n + 1) cv23) 37 6 (n + 1) ((L ++ [r0, r1, r2, r3, r4, r5]).map (Value.int .i64)), Res.box blk2 [Value.int .i64 r0, Value.int .i64 r1, Value.int .i64 r2, Value.int .i64 r3, Value.int .i64 r4, Value.int .i64 r5] 37])) [(6, Value.bool false), (5, Value.int .i64 (-1)), (4, Value.slice Aq29 n cq30)] [.no, .no, .no] True (by kernel_rfl) trivial hS26 ?_
      refine l_nil rfl ?_
      refine then_n ?_
      refine wp_ret ?_
      refine then_r ?_
      have hS26s4 : St w w26 [Res.row (Value.slice Aq29 n cq30) 37 6 n (L.map (Value.int .i64))] := (hS26.sub (List.Sublist.cons_cons _ (List.Sublist.cons _ (List.Sublist.cons _ (List.Sublist.cons _ List.Sublist.slnil)))))
      have hrl := hS26s4.rec_len (List.mem_of_getElem? (i := 0) rfl)
      obtain ⟨e1, e2, e3⟩ := regF_app (n := n) (r := [r0, r1, r2, r3, r4, r5]) hb10p hb25
      exact c_end (S := (fun x_ => St w x_ [Res.row (Value.slice Aq29 n cq30) 37 6 n (L.map (Value.int .i64))])) (rs := [.tmp 4, .tmp 5, .tmp 6]) rfl [] (v := Value.tuple #[Value.slice Aq29 n cq30, Value.int .i64 (-1), Value.bool false]) (C := True) (by kernel_rfl) trivial hS26s4 (hS26s4.rt ⟨n, Aq29, cq30, by rw [e2]; exact hrl, by omega, by rw [e1, e3], by rw [e2]⟩)
theorem walkFnExactRegister (v0 v1 : Value) (w : World) (i0 : InRegistrationS22 w w.heap.size v0) (i1 : InRegistration28 w w.heap.size v1) : Calls Try.prog 3 #[v0, v1] w (Tr w) := by
  obtain ⟨A0, n0, c0, y0, rfl, hy0⟩ := i0
  obtain ⟨hnc0, hcm0, L0, hLl0, hI0, hr0⟩ := rec_flat hy0
  unfold maxLen at hcm0
  obtain ⟨b0, b1, b2, b3, b4, b5, rfl, ⟨hb01, hb02⟩, ⟨hb11, hb12⟩, ⟨hb21, hb22⟩, ⟨hb31, hb32⟩, ⟨hb41, hb42⟩, ⟨hb51, hb52⟩⟩ := i1
  refine calls_FA Try.func3 rfl (n := 125) rfl (l := [(0, Value.slice A0 n0 c0), (1, Value.agg #[Value.int .i64 b0, Value.int .i64 b1, Value.int .i64 b2, Value.int .i64 b3, Value.int .i64 b4, Value.int .i64 b5])]) rfl (by simp) (fun g => ?_)
  have hS := St.init w
  refine wp_seq ?_
  refine c_reg ?_
  refine l_op rfl rfl (fun K hK => op_box (d := some 3) rfl rfl [Value.int .i64 b0, Value.int .i64 b1, Value.int .i64 b2, Value.int .i64 b3, Value.int .i64 b4, Value.int .i64 b5] (by kernel_rfl) hS (fun blk2 w1 hS1 => hK _ _ ?_))
  clear hK K
  refine q_seg (S := (fun x_ => St w x_ [Res.box blk2 [Value.int .i64 b0, Value.int .i64 b1, Value.int .i64 b2, Value.int .i64 b3, Value.int .i64 b4, Value.int .i64 b5] 28])) [(4, Value.bool false)] [.no] True (by kernel_rfl) trivial hS1 ?_
  refine l_nil rfl ?_
  refine then_n ?_
  refine wp_seq ?_
  refine c_reg ?_
  refine q_seg (S := (fun x_ => St w x_ [Res.box blk2 [Value.int .i64 b0, Value.int .i64 b1, Value.int .i64 b2, Value.int .i64 b3, Value.int .i64 b4, Value.int .i64 b5] 28])) [(5, Value.int .i64 1048576)] [.no] True (by kernel_rfl) trivial hS1 ?_
  refine l_nil rfl ?_
  refine then_n ?_
  refine wp_seq ?_
  refine c_reg ?_
  refine q_seg (S := (fun x_ => St w x_ [Res.box blk2 [Value.int .i64 b0, Value.int .i64 b1, Value.int .i64 b2, Value.int .i64 b3, Value.int .i64 b4, Value.int .i64 b5] 28])) [(20, Value.int .i64 1048576), (19, Value.slice A0 n0 c0)] [.no, .no] True (by kernel_rfl) trivial hS1 ?_
  refine l_op rfl rfl (fun K hK => op_callv (d := some 21) rfl rfl ⟨_, Try.func5, by kernel_rfl, by kernel_rfl⟩ (vs := [Value.slice A0 n0 c0, Value.int .i64 1048576]) (by kernel_rfl) (v := Value.int .i64 (szl (1048576 : Int) n0)) (szRegistrationS_c A0 n0 c0 (1048576 : Int) w1 (by omega) (by omega) (by omega)) hS1 (fun w3 hS3 => hK _ _ ?_))
  clear hK K
  refine q_seg (S := (fun x_ => St w x_ [Res.box blk2 [Value.int .i64 b0, Value.int .i64 b1, Value.int .i64 b2, Value.int .i64 b3, Value.int .i64 b4, Value.int .i64 b5] 28])) [(5, Value.int .i64 (szl (1048576 : Int) n0))] [.no] True (by kernel_rfl) trivial hS3 ?_
  refine l_nil rfl ?_
  refine then_n ?_
  refine wp_seq ?_
  refine wp_seq ?_
  refine c_reg ?_
  refine q_seg (S := (fun x_ => St w x_ [Res.box blk2 [Value.int .i64 b0, Value.int .i64 b1, Value.int .i64 b2, Value.int .i64 b3, Value.int .i64 b4, Value.int .i64 b5] 28])) [(23, Value.bool (decide ((szl (1048576 : Int) n0) < (0 : Int)))), (22, Value.int .i64 (szl (1048576 : Int) n0))] [.no, .no] True (by kernel_rfl) trivial hS3 ?_
  refine l_nil rfl ?_
  refine then_n ?_
  rcases Bool.eq_false_or_eq_true (decide ((szl (1048576 : Int) n0) < (0 : Int))) with hb4 | hb4
  · skip
    have hb4p := of_decide_eq_true hb4
    refine c_true (b := (decide ((szl (1048576 : Int) n0) < (0 : Int)))) (by kernel_rfl) hb4 ?_
    refine wp_seq ?_
    refine c_reg ?_
    refine q_seg (S := (fun x_ => St w x_ [Res.box blk2 [Value.int .i64 b0, Value.int .i64 b1, Value.int .i64 b2, Value.int .i64 b3, Value.int .i64 b4, Value.int .i64 b5] 28])) [(4, Value.bool true)] [.no] True (by kernel_rfl) trivial hS3 ?_
    refine l_nil rfl ?_
    refine then_n ?_
    refine wp_ret ?_
    refine then_r ?_
    exact c_end (S := (fun x_ => St w x_ [Res.box blk2 [Value.int .i64 b0, Value.int .i64 b1, Value.int .i64 b2, Value.int .i64 b3, Value.int .i64 b4, Value.int .i64 b5] 28])) (rs := [.tmp 4]) rfl [] (v := Value.bool true) (C := True) (by kernel_rfl) trivial hS3 ((hS3.rv rfl))
  · skip
    have hb4p := of_decide_eq_false hb4
    unfold szl at hb4p
    have hn20 : n0 ≤ 1048576 := by split at hb4p <;> omega
    refine c_false (b := (decide ((szl (1048576 : Int) n0) < (0 : Int)))) (by kernel_rfl) hb4 ?_
    refine wp_skip ?_
    refine then_n ?_
    refine wp_seq ?_
    refine c_drawn [] (by kernel_rfl) hS3 (fun w5 hS5 => ?_)
    refine t_seg (S := (fun x_ => St w x_ [Res.box blk2 [Value.int .i64 b0, Value.int .i64 b1, Value.int .i64 b2, Value.int .i64 b3, Value.int .i64 b4, Value.int .i64 b5] 28])) [(0, .no), (2, .v (Value.agg #[Value.int .i64 b0, Value.int .i64 b1, Value.int .i64 b2, Value.int .i64 b3, Value.int .i64 b4, Value.int .i64 b5]))] 10 #[true, false, true, false, false, false, false, false, false, false, false, false] [(27, Value.agg #[Value.int .i64 b0, Value.int .i64 b1, Value.int .i64 b2, Value.int .i64 b3, Value.int .i64 b4, Value.int .i64 b5]), (25, Value.slice A0 n0 c0)] ((LoadsAt Try.prog (fun x_ => St w x_ [Res.box blk2 [Value.int .i64 b0, Value.int .i64 b1, Value.int .i64 b2, Value.int .i64 b3, Value.int .i64 b4, Value.int .i64 b5] 28]) 28 ⟨blk2, 0, none⟩ (Value.agg #[Value.int .i64 b0, Value.int .i64 b1, Value.int .i64 b2, Value.int .i64 b3, Value.int .i64 b4, Value.int .i64 b5]))) (by kernel_rfl) (Qpanic.then Qpanic.bp) rfl (by kernel_rfl) (ld_boxN (i := 0) (k := 6) rfl rfl rfl (by kernel_rfl)) hS5 ?_
    refine a_op (i := 1) (fuel := 9) (listed' := #[true, true, true, false, false, false, false, false, false, false, false, false]) rfl rfl (by kernel_rfl) (by kernel_rfl) rfl (fun K hK => op_call (d := some 26) rfl rfl ⟨_, Try.func7, by kernel_rfl, by kernel_rfl⟩ (vs := [Value.slice A0 n0 c0]) (by kernel_rfl) (toRegistrationS_c A0 n0 c0 L0 w5 (by omega) (hS5.rdlow hr0)) hS5 (fun v7 new8 w6 Rw6 hS6 => hK _ _ (fun _ => hS6.after) ?_))
    clear hK K
    obtain ⟨Aq9, cq10, rfl, rfl⟩ := Rw6
    refine a_op (i := 3) (fuel := 8) (listed' := #[true, true, true, true, false, false, false, false, false, false, false, false]) rfl rfl (by kernel_rfl) (by kernel_rfl) rfl (fun K hK => op_callv (d := some 28) rfl rfl ⟨_, Try.func8, by kernel_rfl, by kernel_rfl⟩ (vs := [Value.agg #[Value.int .i64 b0, Value.int .i64 b1, Value.int .i64 b2, Value.int .i64 b3, Value.int .i64 b4, Value.int .i64 b5]]) (by kernel_rfl) (v := Value.agg #[Value.int .i64 b0, Value.int .i64 b1, Value.int .i64 b2, Value.int .i64 b3, Value.int .i64 b4, Value.int .i64 b5]) (toRegistration_c b0 b1 b2 b3 b4 b5  _) hS6 (fun w11 hS11 => hK _ _ (fun _ => hS11.drop) ?_))
    clear hK K
    refine a_op (i := 4) (fuel := 7) (listed' := #[true, true, true, true, true, false, false, false, false, false, false, false]) rfl rfl (by kernel_rfl) (by kernel_rfl) rfl (fun K hK => op_call (d := some 29) rfl rfl ⟨_, Try.func6, by kernel_rfl, by kernel_rfl⟩ (vs := [Value.slice Aq9 n0 cq10, Value.agg #[Value.int .i64 b0, Value.int .i64 b1, Value.int .i64 b2, Value.int .i64 b3, Value.int .i64 b4, Value.int .i64 b5]]) (by kernel_rfl) (RegS_c Aq9 n0 cq10 L0 b0 b1 b2 b3 b4 b5 w11 (by omega) (hS11.rd (List.mem_of_getElem? (i := 0) rfl))) hS11 (fun v13 new14 w12 Rw12 hS12 => hK _ _ (fun _ => hS12.after.drop) ?_))
    clear hK K
    obtain ⟨mq15, Aq16, cq17, hlq18, hmhlq18, rfl, rfl⟩ := Rw12
    refine t_seg (S := (fun x_ => St w x_ [Res.box blk2 [Value.int .i64 b0, Value.int .i64 b1, Value.int .i64 b2, Value.int .i64 b3, Value.int .i64 b4, Value.int .i64 b5] 28])) [(5, .no), (6, .no), (7, .no), (8, .no), (9, .no), (10, .no), (11, .no)] 0 #[true, true, true, true, true, true, true, true, true, true, true, true] [(8, Value.bool (okP L0 n0 (fnd (isID L0 b0 b1) n0) [b0, b1, b2, b3, b4, b5])), (7, Value.int .i64 (regO L0 n0 (fnd (isID L0 b0 b1) n0) [b0, b1, b2, b3, b4, b5])), (6, Value.slice Aq16 mq15 cq17), (32, Value.bool (okP L0 n0 (fnd (isID L0 b0 b1) n0) [b0, b1, b2, b3, b4, b5])), (31, Value.int .i64 (regO L0 n0 (fnd (isID L0 b0 b1) n0) [b0, b1, b2, b3, b4, b5])), (30, Value.slice Aq16 mq15 cq17), (24, Value.tuple #[Value.slice Aq16 mq15 cq17, Value.int .i64 (regO L0 n0 (fnd (isID L0 b0 b1) n0) [b0, b1, b2, b3, b4, b5]), Value.bool (okP L0 n0 (fnd (isID L0 b0 b1) n0) [b0, b1, b2, b3, b4, b5])])] True (by kernel_rfl) (Qpanic.then Qpanic.bp) rfl (by kernel_rfl) trivial (hS12.drop.drop) ?_
    refine a_done (by kernel_rfl) ?_
    refine then_n ?_
    refine wp_seq ?_
    refine c_reg ?_
    refine q_seg (S := (fun x_ => St w x_ [Res.row (Value.slice Aq16 mq15 cq17) 37 6 mq15 ((regL L0 n0 (fnd (isID L0 b0 b1) n0) [b0, b1, b2, b3, b4, b5]).map (Value.int .i64)), Res.row (Value.slice Aq9 n0 cq10) 37 6 n0 (L0.map (Value.int .i64)), Res.box blk2 [Value.int .i64 b0, Value.int .i64 b1, Value.int .i64 b2, Value.int .i64 b3, Value.int .i64 b4, Value.int .i64 b5] 28])) [(33, Value.slice A0 n0 c0)] [.no] True (by kernel_rfl) trivial hS12 ?_
    refine l_op rfl rfl (fun K hK => op_call (d := some 34) rfl rfl ⟨_, Try.func7, by kernel_rfl, by kernel_rfl⟩ (vs := [Value.slice A0 n0 c0]) (by kernel_rfl) (toRegistrationS_c A0 n0 c0 L0 w12 (by omega) (hS12.rdlow hr0)) hS12 (fun v20 new21 w19 Rw19 hS19 => hK _ _ ?_))
    clear hK K
    obtain ⟨Aq22, cq23, rfl, rfl⟩ := Rw19
    refine q_seg (S := (fun x_ => St w x_ [Res.row (Value.slice Aq22 n0 cq23) 37 6 n0 (L0.map (Value.int .i64)), Res.row (Value.slice Aq16 mq15 cq17) 37 6 mq15 ((regL L0 n0 (fnd (isID L0 b0 b1) n0) [b0, b1, b2, b3, b4, b5]).map (Value.int .i64)), Res.row (Value.slice Aq9 n0 cq10) 37 6 n0 (L0.map (Value.int .i64)), Res.box blk2 [Value.int .i64 b0, Value.int .i64 b1, Value.int .i64 b2, Value.int .i64 b3, Value.int .i64 b4, Value.int .i64 b5] 28])) [(9, Value.slice Aq22 n0 cq23)] [.no] True (by kernel_rfl) trivial hS19 ?_
    refine l_nil rfl ?_
    refine then_n ?_
    refine wp_seq ?_
    refine c_reg ?_
    refine q_seg (S := (fun x_ => St w x_ [Res.row (Value.slice Aq22 n0 cq23) 37 6 n0 (L0.map (Value.int .i64)), Res.row (Value.slice Aq16 mq15 cq17) 37 6 mq15 ((regL L0 n0 (fnd (isID L0 b0 b1) n0) [b0, b1, b2, b3, b4, b5]).map (Value.int .i64)), Res.row (Value.slice Aq9 n0 cq10) 37 6 n0 (L0.map (Value.int .i64)), Res.box blk2 [Value.int .i64 b0, Value.int .i64 b1, Value.int .i64 b2, Value.int .i64 b3, Value.int .i64 b4, Value.int .i64 b5] 28])) [(37, Value.agg #[Value.int .i64 b0, Value.int .i64 b1, Value.int .i64 b2, Value.int .i64 b3, Value.int .i64 b4, Value.int .i64 b5]), (36, Value.slice Aq22 n0 cq23)] [.no, .v (Value.agg #[Value.int .i64 b0, Value.int .i64 b1, Value.int .i64 b2, Value.int .i64 b3, Value.int .i64 b4, Value.int .i64 b5])] ((LoadsAt Try.prog (fun x_ => St w x_ [Res.row (Value.slice Aq22 n0 cq23) 37 6 n0 (L0.map (Value.int .i64)), Res.row (Value.slice Aq16 mq15 cq17) 37 6 mq15 ((regL L0 n0 (fnd (isID L0 b0 b1) n0) [b0, b1, b2, b3, b4, b5]).map (Value.int .i64)), Res.row (Value.slice Aq9 n0 cq10) 37 6 n0 (L0.map (Value.int .i64)), Res.box blk2 [Value.int .i64 b0, Value.int .i64 b1, Value.int .i64 b2, Value.int .i64 b3, Value.int .i64 b4, Value.int .i64 b5] 28]) 28 ⟨blk2, 0, none⟩ (Value.agg #[Value.int .i64 b0, Value.int .i64 b1, Value.int .i64 b2, Value.int .i64 b3, Value.int .i64 b4, Value.int .i64 b5]))) (by kernel_rfl) (ld_boxN (i := 3) (k := 6) rfl rfl rfl (by kernel_rfl)) hS19 ?_
    refine l_op rfl rfl (fun K hK => op_callv (d := some 38) rfl rfl ⟨_, Try.func8, by kernel_rfl, by kernel_rfl⟩ (vs := [Value.agg #[Value.int .i64 b0, Value.int .i64 b1, Value.int .i64 b2, Value.int .i64 b3, Value.int .i64 b4, Value.int .i64 b5]]) (by kernel_rfl) (v := Value.agg #[Value.int .i64 b0, Value.int .i64 b1, Value.int .i64 b2, Value.int .i64 b3, Value.int .i64 b4, Value.int .i64 b5]) (toRegistration_c b0 b1 b2 b3 b4 b5  _) hS19 (fun w24 hS24 => hK _ _ ?_))
    clear hK K
    refine l_op rfl rfl (fun K hK => op_call (d := some 39) rfl rfl ⟨_, Try.func9, by kernel_rfl, by kernel_rfl⟩ (vs := [Value.slice Aq22 n0 cq23, Value.agg #[Value.int .i64 b0, Value.int .i64 b1, Value.int .i64 b2, Value.int .i64 b3, Value.int .i64 b4, Value.int .i64 b5]]) (by kernel_rfl) (RegI_c Aq22 n0 cq23 L0 b0 b1 b2 b3 b4 b5 w24 (by omega) (hS24.rd (List.mem_of_getElem? (i := 0) rfl))) hS24 (fun v26 new27 w25 Rw25 hS25 => hK _ _ ?_))
    clear hK K
    obtain ⟨mq28, Aq29, cq30, hlq31, hmhlq31, rfl, rfl⟩ := Rw25
    obtain rfl : mq15 = mq28 := by omega
    refine q_seg (S := (fun x_ => St w x_ [Res.row (Value.slice Aq29 mq15 cq30) 37 6 mq15 ((regL L0 n0 (fnd (isID L0 b0 b1) n0) [b0, b1, b2, b3, b4, b5]).map (Value.int .i64)), Res.row (Value.slice Aq22 n0 cq23) 37 6 n0 (L0.map (Value.int .i64)), Res.row (Value.slice Aq16 mq15 cq17) 37 6 mq15 ((regL L0 n0 (fnd (isID L0 b0 b1) n0) [b0, b1, b2, b3, b4, b5]).map (Value.int .i64)), Res.row (Value.slice Aq9 n0 cq10) 37 6 n0 (L0.map (Value.int .i64)), Res.box blk2 [Value.int .i64 b0, Value.int .i64 b1, Value.int .i64 b2, Value.int .i64 b3, Value.int .i64 b4, Value.int .i64 b5] 28])) [(12, Value.bool (okP L0 n0 (fnd (isID L0 b0 b1) n0) [b0, b1, b2, b3, b4, b5])), (11, Value.int .i64 (regO L0 n0 (fnd (isID L0 b0 b1) n0) [b0, b1, b2, b3, b4, b5])), (10, Value.slice Aq29 mq15 cq30), (42, Value.bool (okP L0 n0 (fnd (isID L0 b0 b1) n0) [b0, b1, b2, b3, b4, b5])), (41, Value.int .i64 (regO L0 n0 (fnd (isID L0 b0 b1) n0) [b0, b1, b2, b3, b4, b5])), (40, Value.slice Aq29 mq15 cq30), (35, Value.tuple #[Value.slice Aq29 mq15 cq30, Value.int .i64 (regO L0 n0 (fnd (isID L0 b0 b1) n0) [b0, b1, b2, b3, b4, b5]), Value.bool (okP L0 n0 (fnd (isID L0 b0 b1) n0) [b0, b1, b2, b3, b4, b5])])] [.no, .no, .no, .no, .no, .no, .no] True (by kernel_rfl) trivial hS25 ?_
    refine l_nil rfl ?_
    refine then_n ?_
    refine wp_seq ?_
    refine wp_seq ?_
    refine c_reg ?_
    refine q_seg (S := (fun x_ => St w x_ [Res.row (Value.slice Aq29 mq15 cq30) 37 6 mq15 ((regL L0 n0 (fnd (isID L0 b0 b1) n0) [b0, b1, b2, b3, b4, b5]).map (Value.int .i64)), Res.row (Value.slice Aq22 n0 cq23) 37 6 n0 (L0.map (Value.int .i64)), Res.row (Value.slice Aq16 mq15 cq17) 37 6 mq15 ((regL L0 n0 (fnd (isID L0 b0 b1) n0) [b0, b1, b2, b3, b4, b5]).map (Value.int .i64)), Res.row (Value.slice Aq9 n0 cq10) 37 6 n0 (L0.map (Value.int .i64)), Res.box blk2 [Value.int .i64 b0, Value.int .i64 b1, Value.int .i64 b2, Value.int .i64 b3, Value.int .i64 b4, Value.int .i64 b5] 28])) [(44, Value.slice Aq16 mq15 cq17), (43, Value.slice Aq29 mq15 cq30)] [.no, .no] True (by kernel_rfl) trivial hS25 ?_
    refine l_op rfl rfl (fun K hK => op_callv (d := some 45) rfl rfl ⟨_, Try.func10, by kernel_rfl, by kernel_rfl⟩ (vs := [Value.slice Aq29 mq15 cq30, Value.slice Aq16 mq15 cq17]) (by kernel_rfl) (v := Value.bool true) (eqRegistrationS_c Aq29 Aq16 mq15 cq30 cq17 (regL L0 n0 (fnd (isID L0 b0 b1) n0) [b0, b1, b2, b3, b4, b5]) w25 (by omega) (hS25.rd (List.mem_of_getElem? (i := 0) rfl)) (hS25.rd (List.mem_of_getElem? (i := 2) rfl))) hS25 (fun w32 hS32 => hK _ _ ?_))
    clear hK K
    refine q_seg (S := (fun x_ => St w x_ [Res.row (Value.slice Aq29 mq15 cq30) 37 6 mq15 ((regL L0 n0 (fnd (isID L0 b0 b1) n0) [b0, b1, b2, b3, b4, b5]).map (Value.int .i64)), Res.row (Value.slice Aq22 n0 cq23) 37 6 n0 (L0.map (Value.int .i64)), Res.row (Value.slice Aq16 mq15 cq17) 37 6 mq15 ((regL L0 n0 (fnd (isID L0 b0 b1) n0) [b0, b1, b2, b3, b4, b5]).map (Value.int .i64)), Res.row (Value.slice Aq9 n0 cq10) 37 6 n0 (L0.map (Value.int .i64)), Res.box blk2 [Value.int .i64 b0, Value.int .i64 b1, Value.int .i64 b2, Value.int .i64 b3, Value.int .i64 b4, Value.int .i64 b5] 28])) [(56, Value.bool (!(((okP L0 n0 (fnd (isID L0 b0 b1) n0) [b0, b1, b2, b3, b4, b5]) == (okP L0 n0 (fnd (isID L0 b0 b1) n0) [b0, b1, b2, b3, b4, b5]))))), (55, Value.bool (!(((okP L0 n0 (fnd (isID L0 b0 b1) n0) [b0, b1, b2, b3, b4, b5]) == (okP L0 n0 (fnd (isID L0 b0 b1) n0) [b0, b1, b2, b3, b4, b5]))))), (54, Value.bool (okP L0 n0 (fnd (isID L0 b0 b1) n0) [b0, b1, b2, b3, b4, b5])), (53, Value.bool (okP L0 n0 (fnd (isID L0 b0 b1) n0) [b0, b1, b2, b3, b4, b5])), (52, Value.bool (!(decide ((regO L0 n0 (fnd (isID L0 b0 b1) n0) [b0, b1, b2, b3, b4, b5]) = (regO L0 n0 (fnd (isID L0 b0 b1) n0) [b0, b1, b2, b3, b4, b5]))))), (51, Value.bool (!(decide ((regO L0 n0 (fnd (isID L0 b0 b1) n0) [b0, b1, b2, b3, b4, b5]) = (regO L0 n0 (fnd (isID L0 b0 b1) n0) [b0, b1, b2, b3, b4, b5]))))), (50, Value.bool (!(decide ((regO L0 n0 (fnd (isID L0 b0 b1) n0) [b0, b1, b2, b3, b4, b5]) = (regO L0 n0 (fnd (isID L0 b0 b1) n0) [b0, b1, b2, b3, b4, b5]))))), (49, Value.int .i64 (regO L0 n0 (fnd (isID L0 b0 b1) n0) [b0, b1, b2, b3, b4, b5])), (48, Value.int .i64 (regO L0 n0 (fnd (isID L0 b0 b1) n0) [b0, b1, b2, b3, b4, b5])), (47, Value.bool false), (46, Value.bool false)] [.no, .no, .no, .no, .no, .v (.bool false), .no, .no, .no, .no, .v (.bool false)] ((false = false) ∧ (false = false) ∧ (false = false) ∧ (false = false) ∧ ((!(decide ((regO L0 n0 (fnd (isID L0 b0 b1) n0) [b0, b1, b2, b3, b4, b5]) = (regO L0 n0 (fnd (isID L0 b0 b1) n0) [b0, b1, b2, b3, b4, b5])))) = false) ∧ ((!(decide ((regO L0 n0 (fnd (isID L0 b0 b1) n0) [b0, b1, b2, b3, b4, b5]) = (regO L0 n0 (fnd (isID L0 b0 b1) n0) [b0, b1, b2, b3, b4, b5])))) = false) ∧ ((!(decide ((regO L0 n0 (fnd (isID L0 b0 b1) n0) [b0, b1, b2, b3, b4, b5]) = (regO L0 n0 (fnd (isID L0 b0 b1) n0) [b0, b1, b2, b3, b4, b5])))) = false) ∧ ((!(decide ((regO L0 n0 (fnd (isID L0 b0 b1) n0) [b0, b1, b2, b3, b4, b5]) = (regO L0 n0 (fnd (isID L0 b0 b1) n0) [b0, b1, b2, b3, b4, b5])))) = false)) (by kernel_rfl) ⟨rfl, rfl, rfl, rfl, (nb (v := true) (decide_eq_true rfl)), (nb (v := true) (decide_eq_true rfl)), (nb (v := true) (decide_eq_true rfl)), (nb (v := true) (decide_eq_true rfl))⟩ hS32 ?_
    refine l_nil rfl ?_
    refine then_n ?_
    refine c_false (b := (!(((okP L0 n0 (fnd (isID L0 b0 b1) n0) [b0, b1, b2, b3, b4, b5]) == (okP L0 n0 (fnd (isID L0 b0 b1) n0) [b0, b1, b2, b3, b4, b5]))))) (by kernel_rfl) (nb (v := true) (by simp)) ?_
    refine wp_skip ?_
    refine then_n ?_
    refine wp_seq ?_
    refine wp_seq ?_
    refine c_reg ?_
    refine q_seg (S := (fun x_ => St w x_ [Res.row (Value.slice Aq29 mq15 cq30) 37 6 mq15 ((regL L0 n0 (fnd (isID L0 b0 b1) n0) [b0, b1, b2, b3, b4, b5]).map (Value.int .i64)), Res.row (Value.slice Aq22 n0 cq23) 37 6 n0 (L0.map (Value.int .i64)), Res.row (Value.slice Aq16 mq15 cq17) 37 6 mq15 ((regL L0 n0 (fnd (isID L0 b0 b1) n0) [b0, b1, b2, b3, b4, b5]).map (Value.int .i64)), Res.row (Value.slice Aq9 n0 cq10) 37 6 n0 (L0.map (Value.int .i64)), Res.box blk2 [Value.int .i64 b0, Value.int .i64 b1, Value.int .i64 b2, Value.int .i64 b3, Value.int .i64 b4, Value.int .i64 b5] 28])) [(58, Value.slice A0 n0 c0), (57, Value.slice Aq22 n0 cq23)] [.no, .no] True (by kernel_rfl) trivial hS32 ?_
    refine l_op rfl rfl (fun K hK => op_call (d := some 59) rfl rfl ⟨_, Try.func7, by kernel_rfl, by kernel_rfl⟩ (vs := [Value.slice A0 n0 c0]) (by kernel_rfl) (toRegistrationS_c A0 n0 c0 L0 w32 (by omega) (hS32.rdlow hr0)) hS32 (fun v34 new35 w33 Rw33 hS33 => hK _ _ ?_))
    clear hK K
    obtain ⟨Aq36, cq37, rfl, rfl⟩ := Rw33
    refine l_op rfl rfl (fun K hK => op_callv (d := some 60) rfl rfl ⟨_, Try.func10, by kernel_rfl, by kernel_rfl⟩ (vs := [Value.slice Aq22 n0 cq23, Value.slice Aq36 n0 cq37]) (by kernel_rfl) (v := Value.bool true) (eqRegistrationS_c Aq22 Aq36 n0 cq23 cq37 L0 w33 (by omega) (hS33.rd (List.mem_of_getElem? (i := 2) rfl)) (hS33.rd (List.mem_of_getElem? (i := 0) rfl))) hS33 (fun w38 hS38 => hK _ _ ?_))
    clear hK K
    refine q_seg (S := (fun x_ => St w x_ [Res.row (Value.slice Aq36 n0 cq37) 37 6 n0 (L0.map (Value.int .i64)), Res.row (Value.slice Aq29 mq15 cq30) 37 6 mq15 ((regL L0 n0 (fnd (isID L0 b0 b1) n0) [b0, b1, b2, b3, b4, b5]).map (Value.int .i64)), Res.row (Value.slice Aq22 n0 cq23) 37 6 n0 (L0.map (Value.int .i64)), Res.row (Value.slice Aq16 mq15 cq17) 37 6 mq15 ((regL L0 n0 (fnd (isID L0 b0 b1) n0) [b0, b1, b2, b3, b4, b5]).map (Value.int .i64)), Res.row (Value.slice Aq9 n0 cq10) 37 6 n0 (L0.map (Value.int .i64)), Res.box blk2 [Value.int .i64 b0, Value.int .i64 b1, Value.int .i64 b2, Value.int .i64 b3, Value.int .i64 b4, Value.int .i64 b5] 28])) [(61, Value.bool false)] [.no] True (by kernel_rfl) trivial hS38 ?_
    refine l_nil rfl ?_
    refine then_n ?_
    refine c_false (b := false) (by kernel_rfl) rfl ?_
    refine wp_skip ?_
    refine then_n ?_
    refine wp_seq ?_
    refine c_reg ?_
    refine q_seg (S := (fun x_ => St w x_ [Res.row (Value.slice Aq36 n0 cq37) 37 6 n0 (L0.map (Value.int .i64)), Res.row (Value.slice Aq29 mq15 cq30) 37 6 mq15 ((regL L0 n0 (fnd (isID L0 b0 b1) n0) [b0, b1, b2, b3, b4, b5]).map (Value.int .i64)), Res.row (Value.slice Aq22 n0 cq23) 37 6 n0 (L0.map (Value.int .i64)), Res.row (Value.slice Aq16 mq15 cq17) 37 6 mq15 ((regL L0 n0 (fnd (isID L0 b0 b1) n0) [b0, b1, b2, b3, b4, b5]).map (Value.int .i64)), Res.row (Value.slice Aq9 n0 cq10) 37 6 n0 (L0.map (Value.int .i64)), Res.box blk2 [Value.int .i64 b0, Value.int .i64 b1, Value.int .i64 b2, Value.int .i64 b3, Value.int .i64 b4, Value.int .i64 b5] 28])) [(13, Value.int .i64 1)] [.no] True (by kernel_rfl) trivial hS38 ?_
    refine l_nil rfl ?_
    refine then_n ?_
    refine wp_seq ?_
    refine c_reg ?_
    refine q_seg (S := (fun x_ => St w x_ [Res.row (Value.slice Aq36 n0 cq37) 37 6 n0 (L0.map (Value.int .i64)), Res.row (Value.slice Aq29 mq15 cq30) 37 6 mq15 ((regL L0 n0 (fnd (isID L0 b0 b1) n0) [b0, b1, b2, b3, b4, b5]).map (Value.int .i64)), Res.row (Value.slice Aq22 n0 cq23) 37 6 n0 (L0.map (Value.int .i64)), Res.row (Value.slice Aq16 mq15 cq17) 37 6 mq15 ((regL L0 n0 (fnd (isID L0 b0 b1) n0) [b0, b1, b2, b3, b4, b5]).map (Value.int .i64)), Res.row (Value.slice Aq9 n0 cq10) 37 6 n0 (L0.map (Value.int .i64)), Res.box blk2 [Value.int .i64 b0, Value.int .i64 b1, Value.int .i64 b2, Value.int .i64 b3, Value.int .i64 b4, Value.int .i64 b5] 28])) [(63, Value.int .i64 1), (62, Value.slice Aq22 n0 cq23)] [.no, .no] True (by kernel_rfl) trivial hS38 ?_
    refine l_op rfl rfl (fun K hK => op_callm (d := some 64) rfl rfl ⟨_, Try.func11, by kernel_rfl, by kernel_rfl⟩ (vs := [Value.slice Aq22 n0 cq23, Value.int .i64 1]) (by kernel_rfl) (markRegistrationS_c Aq22 n0 cq23 (1 : Int) _ _ w w38 (hS38.front 2 rfl) (by omega) (by omega) (by omega)) (fun v40 new41 w39 Rw39 hS39 => hK _ _ ?_))
    clear hK K
    obtain ⟨rfl, rfl⟩ := Rw39
    refine q_seg (S := (fun x_ => St w x_ [Res.row (Value.slice Aq22 n0 cq23) 37 6 n0 ((marks id (1 : Int) (n0 * 6)).map (Value.int .i64)), Res.row (Value.slice Aq36 n0 cq37) 37 6 n0 (L0.map (Value.int .i64)), Res.row (Value.slice Aq29 mq15 cq30) 37 6 mq15 ((regL L0 n0 (fnd (isID L0 b0 b1) n0) [b0, b1, b2, b3, b4, b5]).map (Value.int .i64)), Res.row (Value.slice Aq16 mq15 cq17) 37 6 mq15 ((regL L0 n0 (fnd (isID L0 b0 b1) n0) [b0, b1, b2, b3, b4, b5]).map (Value.int .i64)), Res.row (Value.slice Aq9 n0 cq10) 37 6 n0 (L0.map (Value.int .i64)), Res.box blk2 [Value.int .i64 b0, Value.int .i64 b1, Value.int .i64 b2, Value.int .i64 b3, Value.int .i64 b4, Value.int .i64 b5] 28])) [(13, Value.int .i64 ((1 : Int) + ((n0 * 6 : Nat) : Int)))] [.no] True (by kernel_rfl) trivial hS39 ?_
    refine l_nil rfl ?_
    refine then_n ?_
    refine wp_seq ?_
    refine wp_seq ?_
    refine c_reg ?_
    refine q_seg (S := (fun x_ => St w x_ [Res.row (Value.slice Aq22 n0 cq23) 37 6 n0 ((marks id (1 : Int) (n0 * 6)).map (Value.int .i64)), Res.row (Value.slice Aq36 n0 cq37) 37 6 n0 (L0.map (Value.int .i64)), Res.row (Value.slice Aq29 mq15 cq30) 37 6 mq15 ((regL L0 n0 (fnd (isID L0 b0 b1) n0) [b0, b1, b2, b3, b4, b5]).map (Value.int .i64)), Res.row (Value.slice Aq16 mq15 cq17) 37 6 mq15 ((regL L0 n0 (fnd (isID L0 b0 b1) n0) [b0, b1, b2, b3, b4, b5]).map (Value.int .i64)), Res.row (Value.slice Aq9 n0 cq10) 37 6 n0 (L0.map (Value.int .i64)), Res.box blk2 [Value.int .i64 b0, Value.int .i64 b1, Value.int .i64 b2, Value.int .i64 b3, Value.int .i64 b4, Value.int .i64 b5] 28])) [(69, Value.slice Aq16 mq15 cq17), (68, Value.slice Aq29 mq15 cq30), (67, Value.bool (decide (((1 : Int) + ((n0 * 6 : Nat) : Int)) < (0 : Int)))), (66, Value.bool (decide (((1 : Int) + ((n0 * 6 : Nat) : Int)) < (0 : Int)))), (65, Value.int .i64 ((1 : Int) + ((n0 * 6 : Nat) : Int)))] [.no, .no, .no, .no, .no] (((decide (((1 : Int) + ((n0 * 6 : Nat) : Int)) < (0 : Int))) = false) ∧ ((decide (((1 : Int) + ((n0 * 6 : Nat) : Int)) < (0 : Int))) = false)) (by kernel_rfl) ⟨(decide_eq_false (by omega)), (decide_eq_false (by omega))⟩ hS39 ?_
    refine l_opg rfl (b := (decide (((1 : Int) + ((n0 * 6 : Nat) : Int)) < (0 : Int)))) (want := false) (by kernel_rfl) (decide_eq_false (by omega)) (fun K hK => op_callv (d := some 70) rfl rfl ⟨_, Try.func10, by kernel_rfl, by kernel_rfl⟩ (vs := [Value.slice Aq29 mq15 cq30, Value.slice Aq16 mq15 cq17]) (by kernel_rfl) (v := Value.bool true) (eqRegistrationS_c Aq29 Aq16 mq15 cq30 cq17 (regL L0 n0 (fnd (isID L0 b0 b1) n0) [b0, b1, b2, b3, b4, b5]) w39 (by omega) (hS39.rd (List.mem_of_getElem? (i := 2) rfl)) (hS39.rd (List.mem_of_getElem? (i := 3) rfl))) hS39 (fun w42 hS42 => hK _ _ ?_))
    clear hK K
    refine q_seg (S := (fun x_ => St w x_ [Res.row (Value.slice Aq22 n0 cq23) 37 6 n0 ((marks id (1 : Int) (n0 * 6)).map (Value.int .i64)), Res.row (Value.slice Aq36 n0 cq37) 37 6 n0 (L0.map (Value.int .i64)), Res.row (Value.slice Aq29 mq15 cq30) 37 6 mq15 ((regL L0 n0 (fnd (isID L0 b0 b1) n0) [b0, b1, b2, b3, b4, b5]).map (Value.int .i64)), Res.row (Value.slice Aq16 mq15 cq17) 37 6 mq15 ((regL L0 n0 (fnd (isID L0 b0 b1) n0) [b0, b1, b2, b3, b4, b5]).map (Value.int .i64)), Res.row (Value.slice Aq9 n0 cq10) 37 6 n0 (L0.map (Value.int .i64)), Res.box blk2 [Value.int .i64 b0, Value.int .i64 b1, Value.int .i64 b2, Value.int .i64 b3, Value.int .i64 b4, Value.int .i64 b5] 28])) [(82, Value.bool (!(((okP L0 n0 (fnd (isID L0 b0 b1) n0) [b0, b1, b2, b3, b4, b5]) == (okP L0 n0 (fnd (isID L0 b0 b1) n0) [b0, b1, b2, b3, b4, b5]))))), (81, Value.bool (!(((okP L0 n0 (fnd (isID L0 b0 b1) n0) [b0, b1, b2, b3, b4, b5]) == (okP L0 n0 (fnd (isID L0 b0 b1) n0) [b0, b1, b2, b3, b4, b5]))))), (80, Value.bool (okP L0 n0 (fnd (isID L0 b0 b1) n0) [b0, b1, b2, b3, b4, b5])), (79, Value.bool (okP L0 n0 (fnd (isID L0 b0 b1) n0) [b0, b1, b2, b3, b4, b5])), (78, Value.bool (!(decide ((regO L0 n0 (fnd (isID L0 b0 b1) n0) [b0, b1, b2, b3, b4, b5]) = (regO L0 n0 (fnd (isID L0 b0 b1) n0) [b0, b1, b2, b3, b4, b5]))))), (77, Value.bool (!(decide ((regO L0 n0 (fnd (isID L0 b0 b1) n0) [b0, b1, b2, b3, b4, b5]) = (regO L0 n0 (fnd (isID L0 b0 b1) n0) [b0, b1, b2, b3, b4, b5]))))), (76, Value.bool (!(decide ((regO L0 n0 (fnd (isID L0 b0 b1) n0) [b0, b1, b2, b3, b4, b5]) = (regO L0 n0 (fnd (isID L0 b0 b1) n0) [b0, b1, b2, b3, b4, b5]))))), (75, Value.int .i64 (regO L0 n0 (fnd (isID L0 b0 b1) n0) [b0, b1, b2, b3, b4, b5])), (74, Value.int .i64 (regO L0 n0 (fnd (isID L0 b0 b1) n0) [b0, b1, b2, b3, b4, b5])), (73, Value.bool false), (72, Value.bool false), (71, Value.bool false)] [.no, .v (.bool false), .no, .no, .no, .no, .v (.bool false), .no, .no, .no, .no, .v (.bool false)] (((decide (((1 : Int) + ((n0 * 6 : Nat) : Int)) < (0 : Int))) = false) ∧ ((decide (((1 : Int) + ((n0 * 6 : Nat) : Int)) < (0 : Int))) = false) ∧ (false = false) ∧ (false = false) ∧ (false = false) ∧ (false = false) ∧ ((!(decide ((regO L0 n0 (fnd (isID L0 b0 b1) n0) [b0, b1, b2, b3, b4, b5]) = (regO L0 n0 (fnd (isID L0 b0 b1) n0) [b0, b1, b2, b3, b4, b5])))) = false) ∧ ((!(decide ((regO L0 n0 (fnd (isID L0 b0 b1) n0) [b0, b1, b2, b3, b4, b5]) = (regO L0 n0 (fnd (isID L0 b0 b1) n0) [b0, b1, b2, b3, b4, b5])))) = false) ∧ ((!(decide ((regO L0 n0 (fnd (isID L0 b0 b1) n0) [b0, b1, b2, b3, b4, b5]) = (regO L0 n0 (fnd (isID L0 b0 b1) n0) [b0, b1, b2, b3, b4, b5])))) = false) ∧ ((!(decide ((regO L0 n0 (fnd (isID L0 b0 b1) n0) [b0, b1, b2, b3, b4, b5]) = (regO L0 n0 (fnd (isID L0 b0 b1) n0) [b0, b1, b2, b3, b4, b5])))) = false)) (by kernel_rfl) ⟨(decide_eq_false (by omega)), (decide_eq_false (by omega)), rfl, rfl, rfl, rfl, (nb (v := true) (decide_eq_true rfl)), (nb (v := true) (decide_eq_true rfl)), (nb (v := true) (decide_eq_true rfl)), (nb (v := true) (decide_eq_true rfl))⟩ hS42 ?_
    refine l_nil rfl ?_
    refine then_n ?_
    refine c_false (b := (!(((okP L0 n0 (fnd (isID L0 b0 b1) n0) [b0, b1, b2, b3, b4, b5]) == (okP L0 n0 (fnd (isID L0 b0 b1) n0) [b0, b1, b2, b3, b4, b5]))))) (by kernel_rfl) (nb (v := true) (by simp)) ?_
    refine wp_skip ?_
    refine then_n ?_
    refine wp_seq ?_
    refine c_reg ?_
    refine q_seg (S := (fun x_ => St w x_ [Res.row (Value.slice Aq22 n0 cq23) 37 6 n0 ((marks id (1 : Int) (n0 * 6)).map (Value.int .i64)), Res.row (Value.slice Aq36 n0 cq37) 37 6 n0 (L0.map (Value.int .i64)), Res.row (Value.slice Aq29 mq15 cq30) 37 6 mq15 ((regL L0 n0 (fnd (isID L0 b0 b1) n0) [b0, b1, b2, b3, b4, b5]).map (Value.int .i64)), Res.row (Value.slice Aq16 mq15 cq17) 37 6 mq15 ((regL L0 n0 (fnd (isID L0 b0 b1) n0) [b0, b1, b2, b3, b4, b5]).map (Value.int .i64)), Res.row (Value.slice Aq9 n0 cq10) 37 6 n0 (L0.map (Value.int .i64)), Res.box blk2 [Value.int .i64 b0, Value.int .i64 b1, Value.int .i64 b2, Value.int .i64 b3, Value.int .i64 b4, Value.int .i64 b5] 28])) [(14, Value.int .i64 1)] [.no] True (by kernel_rfl) trivial hS42 ?_
    refine l_nil rfl ?_
    refine then_n ?_
    refine wp_seq ?_
    refine c_reg ?_
    refine q_seg (S := (fun x_ => St w x_ [Res.row (Value.slice Aq22 n0 cq23) 37 6 n0 ((marks id (1 : Int) (n0 * 6)).map (Value.int .i64)), Res.row (Value.slice Aq36 n0 cq37) 37 6 n0 (L0.map (Value.int .i64)), Res.row (Value.slice Aq29 mq15 cq30) 37 6 mq15 ((regL L0 n0 (fnd (isID L0 b0 b1) n0) [b0, b1, b2, b3, b4, b5]).map (Value.int .i64)), Res.row (Value.slice Aq16 mq15 cq17) 37 6 mq15 ((regL L0 n0 (fnd (isID L0 b0 b1) n0) [b0, b1, b2, b3, b4, b5]).map (Value.int .i64)), Res.row (Value.slice Aq9 n0 cq10) 37 6 n0 (L0.map (Value.int .i64)), Res.box blk2 [Value.int .i64 b0, Value.int .i64 b1, Value.int .i64 b2, Value.int .i64 b3, Value.int .i64 b4, Value.int .i64 b5] 28])) [(84, Value.int .i64 1), (83, Value.slice Aq29 mq15 cq30)] [.no, .no] True (by kernel_rfl) trivial hS42 ?_
    refine l_op rfl rfl (fun K hK => op_callm (d := some 85) rfl rfl ⟨_, Try.func11, by kernel_rfl, by kernel_rfl⟩ (vs := [Value.slice Aq29 mq15 cq30, Value.int .i64 1]) (by kernel_rfl) (markRegistrationS_c Aq29 mq15 cq30 (1 : Int) _ _ w w42 (hS42.front 2 rfl) (by omega) (by omega) (by omega)) (fun v44 new45 w43 Rw43 hS43 => hK _ _ ?_))
    clear hK K
    obtain ⟨rfl, rfl⟩ := Rw43
    refine q_seg (S := (fun x_ => St w x_ [Res.row (Value.slice Aq29 mq15 cq30) 37 6 mq15 ((marks id (1 : Int) (mq15 * 6)).map (Value.int .i64)), Res.row (Value.slice Aq22 n0 cq23) 37 6 n0 ((marks id (1 : Int) (n0 * 6)).map (Value.int .i64)), Res.row (Value.slice Aq36 n0 cq37) 37 6 n0 (L0.map (Value.int .i64)), Res.row (Value.slice Aq16 mq15 cq17) 37 6 mq15 ((regL L0 n0 (fnd (isID L0 b0 b1) n0) [b0, b1, b2, b3, b4, b5]).map (Value.int .i64)), Res.row (Value.slice Aq9 n0 cq10) 37 6 n0 (L0.map (Value.int .i64)), Res.box blk2 [Value.int .i64 b0, Value.int .i64 b1, Value.int .i64 b2, Value.int .i64 b3, Value.int .i64 b4, Value.int .i64 b5] 28])) [(14, Value.int .i64 ((1 : Int) + ((mq15 * 6 : Nat) : Int)))] [.no] True (by kernel_rfl) trivial hS43 ?_
    refine l_nil rfl ?_
    refine then_n ?_
    refine wp_seq ?_
    refine c_reg ?_
    refine q_seg (S := (fun x_ => St w x_ [Res.row (Value.slice Aq29 mq15 cq30) 37 6 mq15 ((marks id (1 : Int) (mq15 * 6)).map (Value.int .i64)), Res.row (Value.slice Aq22 n0 cq23) 37 6 n0 ((marks id (1 : Int) (n0 * 6)).map (Value.int .i64)), Res.row (Value.slice Aq36 n0 cq37) 37 6 n0 (L0.map (Value.int .i64)), Res.row (Value.slice Aq16 mq15 cq17) 37 6 mq15 ((regL L0 n0 (fnd (isID L0 b0 b1) n0) [b0, b1, b2, b3, b4, b5]).map (Value.int .i64)), Res.row (Value.slice Aq9 n0 cq10) 37 6 n0 (L0.map (Value.int .i64)), Res.box blk2 [Value.int .i64 b0, Value.int .i64 b1, Value.int .i64 b2, Value.int .i64 b3, Value.int .i64 b4, Value.int .i64 b5] 28])) [(15, Value.int .i64 1)] [.no] True (by kernel_rfl) trivial hS43 ?_
    refine l_nil rfl ?_
    refine then_n ?_
    refine wp_seq ?_
    refine c_reg ?_
    refine q_seg (S := (fun x_ => St w x_ [Res.row (Value.slice Aq29 mq15 cq30) 37 6 mq15 ((marks id (1 : Int) (mq15 * 6)).map (Value.int .i64)), Res.row (Value.slice Aq22 n0 cq23) 37 6 n0 ((marks id (1 : Int) (n0 * 6)).map (Value.int .i64)), Res.row (Value.slice Aq36 n0 cq37) 37 6 n0 (L0.map (Value.int .i64)), Res.row (Value.slice Aq16 mq15 cq17) 37 6 mq15 ((regL L0 n0 (fnd (isID L0 b0 b1) n0) [b0, b1, b2, b3, b4, b5]).map (Value.int .i64)), Res.row (Value.slice Aq9 n0 cq10) 37 6 n0 (L0.map (Value.int .i64)), Res.box blk2 [Value.int .i64 b0, Value.int .i64 b1, Value.int .i64 b2, Value.int .i64 b3, Value.int .i64 b4, Value.int .i64 b5] 28])) [(87, Value.int .i64 1), (86, Value.slice Aq29 mq15 cq30)] [.no, .no] True (by kernel_rfl) trivial hS43 ?_
    refine l_op rfl rfl (fun K hK => op_callv (d := some 88) rfl rfl ⟨_, Try.func12, by kernel_rfl, by kernel_rfl⟩ (vs := [Value.slice Aq29 mq15 cq30, Value.int .i64 1]) (by kernel_rfl) (v := Value.int .i64 ((1 : Int) + ((mq15 * 6 : Nat) : Int))) (heldRegistrationS_c Aq29 mq15 cq30 (1 : Int) w43 (by omega) (by omega) (by omega) (hS43.rd (List.mem_of_getElem? (i := 0) rfl))) hS43 (fun w46 hS46 => hK _ _ ?_))
    clear hK K
    refine q_seg (S := (fun x_ => St w x_ [Res.row (Value.slice Aq29 mq15 cq30) 37 6 mq15 ((marks id (1 : Int) (mq15 * 6)).map (Value.int .i64)), Res.row (Value.slice Aq22 n0 cq23) 37 6 n0 ((marks id (1 : Int) (n0 * 6)).map (Value.int .i64)), Res.row (Value.slice Aq36 n0 cq37) 37 6 n0 (L0.map (Value.int .i64)), Res.row (Value.slice Aq16 mq15 cq17) 37 6 mq15 ((regL L0 n0 (fnd (isID L0 b0 b1) n0) [b0, b1, b2, b3, b4, b5]).map (Value.int .i64)), Res.row (Value.slice Aq9 n0 cq10) 37 6 n0 (L0.map (Value.int .i64)), Res.box blk2 [Value.int .i64 b0, Value.int .i64 b1, Value.int .i64 b2, Value.int .i64 b3, Value.int .i64 b4, Value.int .i64 b5] 28])) [(15, Value.int .i64 ((1 : Int) + ((mq15 * 6 : Nat) : Int)))] [.no] True (by kernel_rfl) trivial hS46 ?_
    refine l_nil rfl ?_
    refine then_n ?_
    refine wp_seq ?_
    refine wp_seq ?_
    refine c_reg ?_
    refine q_seg (S := (fun x_ => St w x_ [Res.row (Value.slice Aq29 mq15 cq30) 37 6 mq15 ((marks id (1 : Int) (mq15 * 6)).map (Value.int .i64)), Res.row (Value.slice Aq22 n0 cq23) 37 6 n0 ((marks id (1 : Int) (n0 * 6)).map (Value.int .i64)), Res.row (Value.slice Aq36 n0 cq37) 37 6 n0 (L0.map (Value.int .i64)), Res.row (Value.slice Aq16 mq15 cq17) 37 6 mq15 ((regL L0 n0 (fnd (isID L0 b0 b1) n0) [b0, b1, b2, b3, b4, b5]).map (Value.int .i64)), Res.row (Value.slice Aq9 n0 cq10) 37 6 n0 (L0.map (Value.int .i64)), Res.box blk2 [Value.int .i64 b0, Value.int .i64 b1, Value.int .i64 b2, Value.int .i64 b3, Value.int .i64 b4, Value.int .i64 b5] 28])) [(90, Value.bool (decide (((1 : Int) + ((mq15 * 6 : Nat) : Int)) < (0 : Int)))), (89, Value.int .i64 ((1 : Int) + ((mq15 * 6 : Nat) : Int)))] [.no, .no] True (by kernel_rfl) trivial hS46 ?_
    refine l_nil rfl ?_
    refine then_n ?_
    refine c_false (b := (decide (((1 : Int) + ((mq15 * 6 : Nat) : Int)) < (0 : Int)))) (by kernel_rfl) (decide_eq_false (by omega)) ?_
    refine wp_skip ?_
    refine then_n ?_
    refine wp_seq ?_
    refine wp_seq ?_
    refine c_reg ?_
    refine q_seg (S := (fun x_ => St w x_ [Res.row (Value.slice Aq29 mq15 cq30) 37 6 mq15 ((marks id (1 : Int) (mq15 * 6)).map (Value.int .i64)), Res.row (Value.slice Aq22 n0 cq23) 37 6 n0 ((marks id (1 : Int) (n0 * 6)).map (Value.int .i64)), Res.row (Value.slice Aq36 n0 cq37) 37 6 n0 (L0.map (Value.int .i64)), Res.row (Value.slice Aq16 mq15 cq17) 37 6 mq15 ((regL L0 n0 (fnd (isID L0 b0 b1) n0) [b0, b1, b2, b3, b4, b5]).map (Value.int .i64)), Res.row (Value.slice Aq9 n0 cq10) 37 6 n0 (L0.map (Value.int .i64)), Res.box blk2 [Value.int .i64 b0, Value.int .i64 b1, Value.int .i64 b2, Value.int .i64 b3, Value.int .i64 b4, Value.int .i64 b5] 28])) [(93, Value.bool (!(decide (((1 : Int) + ((mq15 * 6 : Nat) : Int)) = ((1 : Int) + ((mq15 * 6 : Nat) : Int)))))), (92, Value.int .i64 ((1 : Int) + ((mq15 * 6 : Nat) : Int))), (91, Value.int .i64 ((1 : Int) + ((mq15 * 6 : Nat) : Int)))] [.no, .no, .no] True (by kernel_rfl) trivial hS46 ?_
    refine l_nil rfl ?_
    refine then_n ?_
    refine c_false (b := (!(decide (((1 : Int) + ((mq15 * 6 : Nat) : Int)) = ((1 : Int) + ((mq15 * 6 : Nat) : Int)))))) (by kernel_rfl) (nb (v := true) (decide_eq_true rfl)) ?_
    refine wp_skip ?_
    refine then_n ?_
    refine wp_seq ?_
    refine c_drawn [] (by kernel_rfl) hS46 (fun w47 hS47 => ?_)
    refine t_seg (S := (fun x_ => St w x_ [Res.row (Value.slice Aq29 mq15 cq30) 37 6 mq15 ((marks id (1 : Int) (mq15 * 6)).map (Value.int .i64)), Res.row (Value.slice Aq22 n0 cq23) 37 6 n0 ((marks id (1 : Int) (n0 * 6)).map (Value.int .i64)), Res.row (Value.slice Aq36 n0 cq37) 37 6 n0 (L0.map (Value.int .i64)), Res.row (Value.slice Aq16 mq15 cq17) 37 6 mq15 ((regL L0 n0 (fnd (isID L0 b0 b1) n0) [b0, b1, b2, b3, b4, b5]).map (Value.int .i64)), Res.row (Value.slice Aq9 n0 cq10) 37 6 n0 (L0.map (Value.int .i64)), Res.box blk2 [Value.int .i64 b0, Value.int .i64 b1, Value.int .i64 b2, Value.int .i64 b3, Value.int .i64 b4, Value.int .i64 b5] 28])) [(0, .no), (2, .v (Value.agg #[Value.int .i64 b0, Value.int .i64 b1, Value.int .i64 b2, Value.int .i64 b3, Value.int .i64 b4, Value.int .i64 b5]))] 10 #[true, false, true, false, false, false, false, false, false, false, false, false] [(97, Value.agg #[Value.int .i64 b0, Value.int .i64 b1, Value.int .i64 b2, Value.int .i64 b3, Value.int .i64 b4, Value.int .i64 b5]), (95, Value.slice A0 n0 c0)] ((LoadsAt Try.prog (fun x_ => St w x_ [Res.row (Value.slice Aq29 mq15 cq30) 37 6 mq15 ((marks id (1 : Int) (mq15 * 6)).map (Value.int .i64)), Res.row (Value.slice Aq22 n0 cq23) 37 6 n0 ((marks id (1 : Int) (n0 * 6)).map (Value.int .i64)), Res.row (Value.slice Aq36 n0 cq37) 37 6 n0 (L0.map (Value.int .i64)), Res.row (Value.slice Aq16 mq15 cq17) 37 6 mq15 ((regL L0 n0 (fnd (isID L0 b0 b1) n0) [b0, b1, b2, b3, b4, b5]).map (Value.int .i64)), Res.row (Value.slice Aq9 n0 cq10) 37 6 n0 (L0.map (Value.int .i64)), Res.box blk2 [Value.int .i64 b0, Value.int .i64 b1, Value.int .i64 b2, Value.int .i64 b3, Value.int .i64 b4, Value.int .i64 b5] 28]) 28 ⟨blk2, 0, none⟩ (Value.agg #[Value.int .i64 b0, Value.int .i64 b1, Value.int .i64 b2, Value.int .i64 b3, Value.int .i64 b4, Value.int .i64 b5]))) (by kernel_rfl) (Qpanic.then Qpanic.bp) rfl (by kernel_rfl) (ld_boxN (i := 5) (k := 6) rfl rfl rfl (by kernel_rfl)) hS47 ?_
    refine a_op (i := 1) (fuel := 9) (listed' := #[true, true, true, false, false, false, false, false, false, false, false, false]) rfl rfl (by kernel_rfl) (by kernel_rfl) rfl (fun K hK => op_call (d := some 96) rfl rfl ⟨_, Try.func7, by kernel_rfl, by kernel_rfl⟩ (vs := [Value.slice A0 n0 c0]) (by kernel_rfl) (toRegistrationS_c A0 n0 c0 L0 w47 (by omega) (hS47.rdlow hr0)) hS47 (fun v49 new50 w48 Rw48 hS48 => hK _ _ (fun _ => hS48.after) ?_))
    clear hK K
    obtain ⟨Aq51, cq52, rfl, rfl⟩ := Rw48
    refine a_op (i := 3) (fuel := 8) (listed' := #[true, true, true, true, false, false, false, false, false, false, false, false]) rfl rfl (by kernel_rfl) (by kernel_rfl) rfl (fun K hK => op_callv (d := some 98) rfl rfl ⟨_, Try.func8, by kernel_rfl, by kernel_rfl⟩ (vs := [Value.agg #[Value.int .i64 b0, Value.int .i64 b1, Value.int .i64 b2, Value.int .i64 b3, Value.int .i64 b4, Value.int .i64 b5]]) (by kernel_rfl) (v := Value.agg #[Value.int .i64 b0, Value.int .i64 b1, Value.int .i64 b2, Value.int .i64 b3, Value.int .i64 b4, Value.int .i64 b5]) (toRegistration_c b0 b1 b2 b3 b4 b5  _) hS48 (fun w53 hS53 => hK _ _ (fun _ => hS53.drop) ?_))
    clear hK K
    refine a_op (i := 4) (fuel := 7) (listed' := #[true, true, true, true, true, false, false, false, false, false, false, false]) rfl rfl (by kernel_rfl) (by kernel_rfl) rfl (fun K hK => op_call (d := some 99) rfl rfl ⟨_, Try.func9, by kernel_rfl, by kernel_rfl⟩ (vs := [Value.slice Aq51 n0 cq52, Value.agg #[Value.int .i64 b0, Value.int .i64 b1, Value.int .i64 b2, Value.int .i64 b3, Value.int .i64 b4, Value.int .i64 b5]]) (by kernel_rfl) (RegI_c Aq51 n0 cq52 L0 b0 b1 b2 b3 b4 b5 w53 (by omega) (hS53.rd (List.mem_of_getElem? (i := 0) rfl))) hS53 (fun v55 new56 w54 Rw54 hS54 => hK _ _ (fun _ => hS54.after.drop) ?_))
    clear hK K
    obtain ⟨mq57, Aq58, cq59, hlq60, hmhlq60, rfl, rfl⟩ := Rw54
    obtain rfl : mq15 = mq57 := by omega
    refine t_seg (S := (fun x_ => St w x_ [Res.row (Value.slice Aq29 mq15 cq30) 37 6 mq15 ((marks id (1 : Int) (mq15 * 6)).map (Value.int .i64)), Res.row (Value.slice Aq22 n0 cq23) 37 6 n0 ((marks id (1 : Int) (n0 * 6)).map (Value.int .i64)), Res.row (Value.slice Aq36 n0 cq37) 37 6 n0 (L0.map (Value.int .i64)), Res.row (Value.slice Aq16 mq15 cq17) 37 6 mq15 ((regL L0 n0 (fnd (isID L0 b0 b1) n0) [b0, b1, b2, b3, b4, b5]).map (Value.int .i64)), Res.row (Value.slice Aq9 n0 cq10) 37 6 n0 (L0.map (Value.int .i64)), Res.box blk2 [Value.int .i64 b0, Value.int .i64 b1, Value.int .i64 b2, Value.int .i64 b3, Value.int .i64 b4, Value.int .i64 b5] 28])) [(5, .no), (6, .no), (7, .no), (8, .no), (9, .no), (10, .no), (11, .no)] 0 #[true, true, true, true, true, true, true, true, true, true, true, true] [(18, Value.bool (okP L0 n0 (fnd (isID L0 b0 b1) n0) [b0, b1, b2, b3, b4, b5])), (17, Value.int .i64 (regO L0 n0 (fnd (isID L0 b0 b1) n0) [b0, b1, b2, b3, b4, b5])), (16, Value.slice Aq58 mq15 cq59), (102, Value.bool (okP L0 n0 (fnd (isID L0 b0 b1) n0) [b0, b1, b2, b3, b4, b5])), (101, Value.int .i64 (regO L0 n0 (fnd (isID L0 b0 b1) n0) [b0, b1, b2, b3, b4, b5])), (100, Value.slice Aq58 mq15 cq59), (94, Value.tuple #[Value.slice Aq58 mq15 cq59, Value.int .i64 (regO L0 n0 (fnd (isID L0 b0 b1) n0) [b0, b1, b2, b3, b4, b5]), Value.bool (okP L0 n0 (fnd (isID L0 b0 b1) n0) [b0, b1, b2, b3, b4, b5])])] True (by kernel_rfl) (Qpanic.then Qpanic.bp) rfl (by kernel_rfl) trivial (hS54.drop.drop) ?_
    refine a_done (by kernel_rfl) ?_
    refine then_n ?_
    refine wp_seq ?_
    refine wp_seq ?_
    refine c_reg ?_
    refine q_seg (S := (fun x_ => St w x_ [Res.row (Value.slice Aq58 mq15 cq59) 37 6 mq15 ((regL L0 n0 (fnd (isID L0 b0 b1) n0) [b0, b1, b2, b3, b4, b5]).map (Value.int .i64)), Res.row (Value.slice Aq51 n0 cq52) 37 6 n0 (L0.map (Value.int .i64)), Res.row (Value.slice Aq29 mq15 cq30) 37 6 mq15 ((marks id (1 : Int) (mq15 * 6)).map (Value.int .i64)), Res.row (Value.slice Aq22 n0 cq23) 37 6 n0 ((marks id (1 : Int) (n0 * 6)).map (Value.int .i64)), Res.row (Value.slice Aq36 n0 cq37) 37 6 n0 (L0.map (Value.int .i64)), Res.row (Value.slice Aq16 mq15 cq17) 37 6 mq15 ((regL L0 n0 (fnd (isID L0 b0 b1) n0) [b0, b1, b2, b3, b4, b5]).map (Value.int .i64)), Res.row (Value.slice Aq9 n0 cq10) 37 6 n0 (L0.map (Value.int .i64)), Res.box blk2 [Value.int .i64 b0, Value.int .i64 b1, Value.int .i64 b2, Value.int .i64 b3, Value.int .i64 b4, Value.int .i64 b5] 28])) [(104, Value.slice Aq16 mq15 cq17), (103, Value.slice Aq58 mq15 cq59)] [.no, .no] True (by kernel_rfl) trivial hS54 ?_
    refine l_op rfl rfl (fun K hK => op_callv (d := some 105) rfl rfl ⟨_, Try.func10, by kernel_rfl, by kernel_rfl⟩ (vs := [Value.slice Aq58 mq15 cq59, Value.slice Aq16 mq15 cq17]) (by kernel_rfl) (v := Value.bool true) (eqRegistrationS_c Aq58 Aq16 mq15 cq59 cq17 (regL L0 n0 (fnd (isID L0 b0 b1) n0) [b0, b1, b2, b3, b4, b5]) w54 (by omega) (hS54.rd (List.mem_of_getElem? (i := 0) rfl)) (hS54.rd (List.mem_of_getElem? (i := 5) rfl))) hS54 (fun w61 hS61 => hK _ _ ?_))
    clear hK K
    refine q_seg (S := (fun x_ => St w x_ [Res.row (Value.slice Aq58 mq15 cq59) 37 6 mq15 ((regL L0 n0 (fnd (isID L0 b0 b1) n0) [b0, b1, b2, b3, b4, b5]).map (Value.int .i64)), Res.row (Value.slice Aq51 n0 cq52) 37 6 n0 (L0.map (Value.int .i64)), Res.row (Value.slice Aq29 mq15 cq30) 37 6 mq15 ((marks id (1 : Int) (mq15 * 6)).map (Value.int .i64)), Res.row (Value.slice Aq22 n0 cq23) 37 6 n0 ((marks id (1 : Int) (n0 * 6)).map (Value.int .i64)), Res.row (Value.slice Aq36 n0 cq37) 37 6 n0 (L0.map (Value.int .i64)), Res.row (Value.slice Aq16 mq15 cq17) 37 6 mq15 ((regL L0 n0 (fnd (isID L0 b0 b1) n0) [b0, b1, b2, b3, b4, b5]).map (Value.int .i64)), Res.row (Value.slice Aq9 n0 cq10) 37 6 n0 (L0.map (Value.int .i64)), Res.box blk2 [Value.int .i64 b0, Value.int .i64 b1, Value.int .i64 b2, Value.int .i64 b3, Value.int .i64 b4, Value.int .i64 b5] 28])) [(116, Value.bool (!(((okP L0 n0 (fnd (isID L0 b0 b1) n0) [b0, b1, b2, b3, b4, b5]) == (okP L0 n0 (fnd (isID L0 b0 b1) n0) [b0, b1, b2, b3, b4, b5]))))), (115, Value.bool (!(((okP L0 n0 (fnd (isID L0 b0 b1) n0) [b0, b1, b2, b3, b4, b5]) == (okP L0 n0 (fnd (isID L0 b0 b1) n0) [b0, b1, b2, b3, b4, b5]))))), (114, Value.bool (okP L0 n0 (fnd (isID L0 b0 b1) n0) [b0, b1, b2, b3, b4, b5])), (113, Value.bool (okP L0 n0 (fnd (isID L0 b0 b1) n0) [b0, b1, b2, b3, b4, b5])), (112, Value.bool (!(decide ((regO L0 n0 (fnd (isID L0 b0 b1) n0) [b0, b1, b2, b3, b4, b5]) = (regO L0 n0 (fnd (isID L0 b0 b1) n0) [b0, b1, b2, b3, b4, b5]))))), (111, Value.bool (!(decide ((regO L0 n0 (fnd (isID L0 b0 b1) n0) [b0, b1, b2, b3, b4, b5]) = (regO L0 n0 (fnd (isID L0 b0 b1) n0) [b0, b1, b2, b3, b4, b5]))))), (110, Value.bool (!(decide ((regO L0 n0 (fnd (isID L0 b0 b1) n0) [b0, b1, b2, b3, b4, b5]) = (regO L0 n0 (fnd (isID L0 b0 b1) n0) [b0, b1, b2, b3, b4, b5]))))), (109, Value.int .i64 (regO L0 n0 (fnd (isID L0 b0 b1) n0) [b0, b1, b2, b3, b4, b5])), (108, Value.int .i64 (regO L0 n0 (fnd (isID L0 b0 b1) n0) [b0, b1, b2, b3, b4, b5])), (107, Value.bool false), (106, Value.bool false)] [.no, .no, .no, .no, .no, .v (.bool false), .no, .no, .no, .no, .v (.bool false)] ((false = false) ∧ (false = false) ∧ (false = false) ∧ (false = false) ∧ ((!(decide ((regO L0 n0 (fnd (isID L0 b0 b1) n0) [b0, b1, b2, b3, b4, b5]) = (regO L0 n0 (fnd (isID L0 b0 b1) n0) [b0, b1, b2, b3, b4, b5])))) = false) ∧ ((!(decide ((regO L0 n0 (fnd (isID L0 b0 b1) n0) [b0, b1, b2, b3, b4, b5]) = (regO L0 n0 (fnd (isID L0 b0 b1) n0) [b0, b1, b2, b3, b4, b5])))) = false) ∧ ((!(decide ((regO L0 n0 (fnd (isID L0 b0 b1) n0) [b0, b1, b2, b3, b4, b5]) = (regO L0 n0 (fnd (isID L0 b0 b1) n0) [b0, b1, b2, b3, b4, b5])))) = false) ∧ ((!(decide ((regO L0 n0 (fnd (isID L0 b0 b1) n0) [b0, b1, b2, b3, b4, b5]) = (regO L0 n0 (fnd (isID L0 b0 b1) n0) [b0, b1, b2, b3, b4, b5])))) = false)) (by kernel_rfl) ⟨rfl, rfl, rfl, rfl, (nb (v := true) (decide_eq_true rfl)), (nb (v := true) (decide_eq_true rfl)), (nb (v := true) (decide_eq_true rfl)), (nb (v := true) (decide_eq_true rfl))⟩ hS61 ?_
    refine l_nil rfl ?_
    refine then_n ?_
    refine c_false (b := (!(((okP L0 n0 (fnd (isID L0 b0 b1) n0) [b0, b1, b2, b3, b4, b5]) == (okP L0 n0 (fnd (isID L0 b0 b1) n0) [b0, b1, b2, b3, b4, b5]))))) (by kernel_rfl) (nb (v := true) (by simp)) ?_
    refine wp_skip ?_
    refine then_n ?_
    refine wp_seq ?_
    refine c_reg ?_
    refine q_seg (S := (fun x_ => St w x_ [Res.row (Value.slice Aq58 mq15 cq59) 37 6 mq15 ((regL L0 n0 (fnd (isID L0 b0 b1) n0) [b0, b1, b2, b3, b4, b5]).map (Value.int .i64)), Res.row (Value.slice Aq51 n0 cq52) 37 6 n0 (L0.map (Value.int .i64)), Res.row (Value.slice Aq29 mq15 cq30) 37 6 mq15 ((marks id (1 : Int) (mq15 * 6)).map (Value.int .i64)), Res.row (Value.slice Aq22 n0 cq23) 37 6 n0 ((marks id (1 : Int) (n0 * 6)).map (Value.int .i64)), Res.row (Value.slice Aq36 n0 cq37) 37 6 n0 (L0.map (Value.int .i64)), Res.row (Value.slice Aq16 mq15 cq17) 37 6 mq15 ((regL L0 n0 (fnd (isID L0 b0 b1) n0) [b0, b1, b2, b3, b4, b5]).map (Value.int .i64)), Res.row (Value.slice Aq9 n0 cq10) 37 6 n0 (L0.map (Value.int .i64)), Res.box blk2 [Value.int .i64 b0, Value.int .i64 b1, Value.int .i64 b2, Value.int .i64 b3, Value.int .i64 b4, Value.int .i64 b5] 28])) [(15, Value.int .i64 1)] [.no] True (by kernel_rfl) trivial hS61 ?_
    refine l_nil rfl ?_
    refine then_n ?_
    refine wp_seq ?_
    refine c_reg ?_
    refine q_seg (S := (fun x_ => St w x_ [Res.row (Value.slice Aq58 mq15 cq59) 37 6 mq15 ((regL L0 n0 (fnd (isID L0 b0 b1) n0) [b0, b1, b2, b3, b4, b5]).map (Value.int .i64)), Res.row (Value.slice Aq51 n0 cq52) 37 6 n0 (L0.map (Value.int .i64)), Res.row (Value.slice Aq29 mq15 cq30) 37 6 mq15 ((marks id (1 : Int) (mq15 * 6)).map (Value.int .i64)), Res.row (Value.slice Aq22 n0 cq23) 37 6 n0 ((marks id (1 : Int) (n0 * 6)).map (Value.int .i64)), Res.row (Value.slice Aq36 n0 cq37) 37 6 n0 (L0.map (Value.int .i64)), Res.row (Value.slice Aq16 mq15 cq17) 37 6 mq15 ((regL L0 n0 (fnd (isID L0 b0 b1) n0) [b0, b1, b2, b3, b4, b5]).map (Value.int .i64)), Res.row (Value.slice Aq9 n0 cq10) 37 6 n0 (L0.map (Value.int .i64)), Res.box blk2 [Value.int .i64 b0, Value.int .i64 b1, Value.int .i64 b2, Value.int .i64 b3, Value.int .i64 b4, Value.int .i64 b5] 28])) [(118, Value.int .i64 1), (117, Value.slice Aq29 mq15 cq30)] [.no, .no] True (by kernel_rfl) trivial hS61 ?_
    refine l_op rfl rfl (fun K hK => op_callv (d := some 119) rfl rfl ⟨_, Try.func12, by kernel_rfl, by kernel_rfl⟩ (vs := [Value.slice Aq29 mq15 cq30, Value.int .i64 1]) (by kernel_rfl) (v := Value.int .i64 ((1 : Int) + ((mq15 * 6 : Nat) : Int))) (heldRegistrationS_c Aq29 mq15 cq30 (1 : Int) w61 (by omega) (by omega) (by omega) (hS61.rd (List.mem_of_getElem? (i := 2) rfl))) hS61 (fun w62 hS62 => hK _ _ ?_))
    clear hK K
    refine q_seg (S := (fun x_ => St w x_ [Res.row (Value.slice Aq58 mq15 cq59) 37 6 mq15 ((regL L0 n0 (fnd (isID L0 b0 b1) n0) [b0, b1, b2, b3, b4, b5]).map (Value.int .i64)), Res.row (Value.slice Aq51 n0 cq52) 37 6 n0 (L0.map (Value.int .i64)), Res.row (Value.slice Aq29 mq15 cq30) 37 6 mq15 ((marks id (1 : Int) (mq15 * 6)).map (Value.int .i64)), Res.row (Value.slice Aq22 n0 cq23) 37 6 n0 ((marks id (1 : Int) (n0 * 6)).map (Value.int .i64)), Res.row (Value.slice Aq36 n0 cq37) 37 6 n0 (L0.map (Value.int .i64)), Res.row (Value.slice Aq16 mq15 cq17) 37 6 mq15 ((regL L0 n0 (fnd (isID L0 b0 b1) n0) [b0, b1, b2, b3, b4, b5]).map (Value.int .i64)), Res.row (Value.slice Aq9 n0 cq10) 37 6 n0 (L0.map (Value.int .i64)), Res.box blk2 [Value.int .i64 b0, Value.int .i64 b1, Value.int .i64 b2, Value.int .i64 b3, Value.int .i64 b4, Value.int .i64 b5] 28])) [(15, Value.int .i64 ((1 : Int) + ((mq15 * 6 : Nat) : Int)))] [.no] True (by kernel_rfl) trivial hS62 ?_
    refine l_nil rfl ?_
    refine then_n ?_
    refine wp_seq ?_
    refine wp_seq ?_
    refine c_reg ?_
    refine q_seg (S := (fun x_ => St w x_ [Res.row (Value.slice Aq58 mq15 cq59) 37 6 mq15 ((regL L0 n0 (fnd (isID L0 b0 b1) n0) [b0, b1, b2, b3, b4, b5]).map (Value.int .i64)), Res.row (Value.slice Aq51 n0 cq52) 37 6 n0 (L0.map (Value.int .i64)), Res.row (Value.slice Aq29 mq15 cq30) 37 6 mq15 ((marks id (1 : Int) (mq15 * 6)).map (Value.int .i64)), Res.row (Value.slice Aq22 n0 cq23) 37 6 n0 ((marks id (1 : Int) (n0 * 6)).map (Value.int .i64)), Res.row (Value.slice Aq36 n0 cq37) 37 6 n0 (L0.map (Value.int .i64)), Res.row (Value.slice Aq16 mq15 cq17) 37 6 mq15 ((regL L0 n0 (fnd (isID L0 b0 b1) n0) [b0, b1, b2, b3, b4, b5]).map (Value.int .i64)), Res.row (Value.slice Aq9 n0 cq10) 37 6 n0 (L0.map (Value.int .i64)), Res.box blk2 [Value.int .i64 b0, Value.int .i64 b1, Value.int .i64 b2, Value.int .i64 b3, Value.int .i64 b4, Value.int .i64 b5] 28])) [(121, Value.bool (decide (((1 : Int) + ((mq15 * 6 : Nat) : Int)) < (0 : Int)))), (120, Value.int .i64 ((1 : Int) + ((mq15 * 6 : Nat) : Int)))] [.no, .no] True (by kernel_rfl) trivial hS62 ?_
    refine l_nil rfl ?_
    refine then_n ?_
    refine c_false (b := (decide (((1 : Int) + ((mq15 * 6 : Nat) : Int)) < (0 : Int)))) (by kernel_rfl) (decide_eq_false (by omega)) ?_
    refine wp_skip ?_
    refine then_n ?_
    refine wp_seq ?_
    refine wp_seq ?_
    refine c_reg ?_
    refine q_seg (S := (fun x_ => St w x_ [Res.row (Value.slice Aq58 mq15 cq59) 37 6 mq15 ((regL L0 n0 (fnd (isID L0 b0 b1) n0) [b0, b1, b2, b3, b4, b5]).map (Value.int .i64)), Res.row (Value.slice Aq51 n0 cq52) 37 6 n0 (L0.map (Value.int .i64)), Res.row (Value.slice Aq29 mq15 cq30) 37 6 mq15 ((marks id (1 : Int) (mq15 * 6)).map (Value.int .i64)), Res.row (Value.slice Aq22 n0 cq23) 37 6 n0 ((marks id (1 : Int) (n0 * 6)).map (Value.int .i64)), Res.row (Value.slice Aq36 n0 cq37) 37 6 n0 (L0.map (Value.int .i64)), Res.row (Value.slice Aq16 mq15 cq17) 37 6 mq15 ((regL L0 n0 (fnd (isID L0 b0 b1) n0) [b0, b1, b2, b3, b4, b5]).map (Value.int .i64)), Res.row (Value.slice Aq9 n0 cq10) 37 6 n0 (L0.map (Value.int .i64)), Res.box blk2 [Value.int .i64 b0, Value.int .i64 b1, Value.int .i64 b2, Value.int .i64 b3, Value.int .i64 b4, Value.int .i64 b5] 28])) [(124, Value.bool (!(decide (((1 : Int) + ((mq15 * 6 : Nat) : Int)) = ((1 : Int) + ((mq15 * 6 : Nat) : Int)))))), (123, Value.int .i64 ((1 : Int) + ((mq15 * 6 : Nat) : Int))), (122, Value.int .i64 ((1 : Int) + ((mq15 * 6 : Nat) : Int)))] [.no, .no, .no] True (by kernel_rfl) trivial hS62 ?_
    refine l_nil rfl ?_
    refine then_n ?_
    refine c_false (b := (!(decide (((1 : Int) + ((mq15 * 6 : Nat) : Int)) = ((1 : Int) + ((mq15 * 6 : Nat) : Int)))))) (by kernel_rfl) (nb (v := true) (decide_eq_true rfl)) ?_
    refine wp_skip ?_
    refine then_n ?_
    refine wp_seq ?_
    refine c_reg ?_
    refine q_seg (S := (fun x_ => St w x_ [Res.row (Value.slice Aq58 mq15 cq59) 37 6 mq15 ((regL L0 n0 (fnd (isID L0 b0 b1) n0) [b0, b1, b2, b3, b4, b5]).map (Value.int .i64)), Res.row (Value.slice Aq51 n0 cq52) 37 6 n0 (L0.map (Value.int .i64)), Res.row (Value.slice Aq29 mq15 cq30) 37 6 mq15 ((marks id (1 : Int) (mq15 * 6)).map (Value.int .i64)), Res.row (Value.slice Aq22 n0 cq23) 37 6 n0 ((marks id (1 : Int) (n0 * 6)).map (Value.int .i64)), Res.row (Value.slice Aq36 n0 cq37) 37 6 n0 (L0.map (Value.int .i64)), Res.row (Value.slice Aq16 mq15 cq17) 37 6 mq15 ((regL L0 n0 (fnd (isID L0 b0 b1) n0) [b0, b1, b2, b3, b4, b5]).map (Value.int .i64)), Res.row (Value.slice Aq9 n0 cq10) 37 6 n0 (L0.map (Value.int .i64)), Res.box blk2 [Value.int .i64 b0, Value.int .i64 b1, Value.int .i64 b2, Value.int .i64 b3, Value.int .i64 b4, Value.int .i64 b5] 28])) [(4, Value.bool true)] [.no] True (by kernel_rfl) trivial hS62 ?_
    refine l_nil rfl ?_
    refine then_n ?_
    refine wp_ret ?_
    exact c_end (S := (fun x_ => St w x_ [Res.row (Value.slice Aq58 mq15 cq59) 37 6 mq15 ((regL L0 n0 (fnd (isID L0 b0 b1) n0) [b0, b1, b2, b3, b4, b5]).map (Value.int .i64)), Res.row (Value.slice Aq51 n0 cq52) 37 6 n0 (L0.map (Value.int .i64)), Res.row (Value.slice Aq29 mq15 cq30) 37 6 mq15 ((marks id (1 : Int) (mq15 * 6)).map (Value.int .i64)), Res.row (Value.slice Aq22 n0 cq23) 37 6 n0 ((marks id (1 : Int) (n0 * 6)).map (Value.int .i64)), Res.row (Value.slice Aq36 n0 cq37) 37 6 n0 (L0.map (Value.int .i64)), Res.row (Value.slice Aq16 mq15 cq17) 37 6 mq15 ((regL L0 n0 (fnd (isID L0 b0 b1) n0) [b0, b1, b2, b3, b4, b5]).map (Value.int .i64)), Res.row (Value.slice Aq9 n0 cq10) 37 6 n0 (L0.map (Value.int .i64)), Res.box blk2 [Value.int .i64 b0, Value.int .i64 b1, Value.int .i64 b2, Value.int .i64 b3, Value.int .i64 b4, Value.int .i64 b5] 28])) (rs := [.tmp 4]) rfl [] (v := Value.bool true) (C := True) (by kernel_rfl) trivial hS62 ((hS62.rv rfl))
end Go.Proofs.Ytihecjcbgnpakaa
