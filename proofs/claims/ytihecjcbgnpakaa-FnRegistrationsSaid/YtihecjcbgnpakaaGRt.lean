/-
  Contracts of cancellations and of comparisons.
-/
import Derived.Test.YtihecjcbgnpakaaGRg
import Derived.Test.YtihecjcbgnpakaaRecL
namespace Go.Proofs.Ytihecjcbgnpakaa
open Go.RowKit
set_option maxRecDepth 100000

theorem DerI_c (A : Option Addr) (n c : Nat) (L : List Int) (a b e : Int) (w : World) (hn : n ≤ 1073741824) (hnc : n ≤ c) (hr : Rd w w.heap.size A (n * 6) (L.map (Value.int .i64))) : Calls Try.prog 19 #[.slice A n c, .agg #[.int .i64 a, .int .i64 b], .int .i64 e] w (Ret w (fun v new => ∃ (m : Nat) (A_ : Option Addr) (c_ : Nat), (derL L (fnd (isID L a b) n) e).length = m * 6 ∧ m ≤ n ∧ v = .slice A_ m c_ ∧ new = [.row (.slice A_ m c_) 37 6 m ((derL L (fnd (isID L a b) n) e).map (Value.int .i64))])) := by
  have hLl : L.length = n * 6 := hr.len
  refine calls_FA Try.func19 rfl (n := 35) rfl (l := [(0, Value.slice A n c), (1, Value.agg #[Value.int .i64 a, Value.int .i64 b]), (2, Value.int .i64 e)]) rfl (by simp) (fun g => ?_)
  have hS := St.init w
  refine wp_seq ?_
  refine c_reg ?_
  refine l_op rfl rfl (fun K hK => op_box (d := some 4) rfl rfl [Value.int .i64 a, Value.int .i64 b] (by kernel_rfl) hS (fun blk2 w1 hS1 => hK _ _ ?_))
  clear hK K
  refine q_seg (S := (fun x_ => St w x_ [Res.box blk2 [Value.int .i64 a, Value.int .i64 b] 34])) [(6, Value.slice none 0 0)] [.no] True (by kernel_rfl) trivial hS1 ?_
  refine l_nil rfl ?_
  refine then_n ?_
  refine wp_seq ?_
  refine c_reg ?_
  refine q_seg (S := (fun x_ => St w x_ [Res.box blk2 [Value.int .i64 a, Value.int .i64 b] 34])) [(10, Value.agg #[Value.int .i64 a, Value.int .i64 b]), (9, Value.slice A n c)] [.no, .v (Value.agg #[Value.int .i64 a, Value.int .i64 b])] ((LoadsAt Try.prog (fun x_ => St w x_ [Res.box blk2 [Value.int .i64 a, Value.int .i64 b] 34]) 34 ⟨blk2, 0, none⟩ (Value.agg #[Value.int .i64 a, Value.int .i64 b]))) (by kernel_rfl) (ld_boxN (i := 0) (k := 2) rfl rfl rfl (by kernel_rfl)) hS1 ?_
  refine l_op rfl rfl (fun K hK => op_callv (d := some 11) rfl rfl ⟨_, Try.func17, by kernel_rfl, by kernel_rfl⟩ (vs := [Value.slice A n c, Value.agg #[Value.int .i64 a, Value.int .i64 b]]) (by kernel_rfl) (v := Value.int .i64 (fnd (isID L a b) n)) (FindI_c A n c n L a b w1 (by omega) (by omega) (hS1.rdlow hr)) hS1 (fun w3 hS3 => hK _ _ ?_))
  clear hK K
  have hfq4 := fnd_bd (isID L a b) n
  refine q_seg (S := (fun x_ => St w x_ [Res.box blk2 [Value.int .i64 a, Value.int .i64 b] 34])) [(7, Value.int .i64 (fnd (isID L a b) n))] [.no] True (by kernel_rfl) trivial hS3 ?_
  refine l_nil rfl ?_
  refine then_n ?_
  refine wp_seq ?_
  refine wp_seq ?_
  refine c_reg ?_
  refine q_seg (S := (fun x_ => St w x_ [Res.box blk2 [Value.int .i64 a, Value.int .i64 b] 34])) [(14, Value.bool (decide ((fnd (isID L a b) n) < (0 : Int)))), (13, Value.bool (decide ((fnd (isID L a b) n) < (0 : Int)))), (12, Value.int .i64 (fnd (isID L a b) n))] [.no, .no, .no] True (by kernel_rfl) trivial hS3 ?_
  rcases Bool.eq_false_or_eq_true (decide ((fnd (isID L a b) n) < (0 : Int))) with hb5 | hb5
  · skip
    have hb5p := of_decide_eq_true hb5
    refine q_seg (S := (fun x_ => St w x_ [Res.box blk2 [Value.int .i64 a, Value.int .i64 b] 34])) [(22, Value.bool true), (21, undef), (20, undef), (19, undef), (18, undef), (17, undef), (16, undef), (15, undef)] [.skip, .skip, .skip, .skip, .skip, .skip, .skip, .v (.bool true)] (((decide ((fnd (isID L a b) n) < (0 : Int))) = !false) ∧ ((decide ((fnd (isID L a b) n) < (0 : Int))) = !false) ∧ ((decide ((fnd (isID L a b) n) < (0 : Int))) = !false) ∧ ((decide ((fnd (isID L a b) n) < (0 : Int))) = !false) ∧ ((decide ((fnd (isID L a b) n) < (0 : Int))) = !false) ∧ ((decide ((fnd (isID L a b) n) < (0 : Int))) = !false) ∧ ((decide ((fnd (isID L a b) n) < (0 : Int))) = !false) ∧ ((decide ((fnd (isID L a b) n) < (0 : Int))) = true)) (by kernel_rfl) ⟨hb5, hb5, hb5, hb5, hb5, hb5, hb5, hb5⟩ hS3 ?_
    refine l_nil rfl ?_
    refine then_n ?_
    refine c_true (b := true) (by kernel_rfl) rfl ?_
    refine wp_seq ?_
    refine c_reg ?_
    refine q_seg (S := (fun x_ => St w x_ [Res.box blk2 [Value.int .i64 a, Value.int .i64 b] 34])) [(23, Value.slice A n c)] [.no] True (by kernel_rfl) trivial hS3 ?_
    refine l_op rfl rfl (fun K hK => op_call (d := some 24) rfl rfl ⟨_, Try.func25, by kernel_rfl, by kernel_rfl⟩ (vs := [Value.slice A n c]) (by kernel_rfl) (copyItems_c A n c L w3 (by omega) (hS3.rdlow hr)) hS3 (fun v7 new8 w6 Rw6 hS6 => hK _ _ ?_))
    clear hK K
    obtain ⟨Aq9, cq10, rfl, rfl⟩ := Rw6
    refine q_seg (S := (fun x_ => St w x_ [Res.row (Value.slice Aq9 n cq10) 37 6 n (L.map (Value.int .i64)), Res.box blk2 [Value.int .i64 a, Value.int .i64 b] 34])) [(6, Value.slice Aq9 n cq10)] [.no] True (by kernel_rfl) trivial hS6 ?_
    refine l_nil rfl ?_
    refine then_n ?_
    refine wp_ret ?_
    refine then_r ?_
    have hS6s1 : St w w6 [Res.row (Value.slice Aq9 n cq10) 37 6 n (L.map (Value.int .i64))] := (hS6.sub (List.Sublist.cons_cons _ (List.Sublist.cons _ List.Sublist.slnil)))
    have hrl := hS6s1.rec_len (List.mem_of_getElem? (i := 0) rfl)
    have e1 : derL L (fnd (isID L a b) n) e = L := derL_no (by omega)
    exact c_end (S := (fun x_ => St w x_ [Res.row (Value.slice Aq9 n cq10) 37 6 n (L.map (Value.int .i64))])) (rs := [.tmp 6]) rfl [] (v := Value.slice Aq9 n cq10) (C := True) (by kernel_rfl) trivial hS6s1 (hS6s1.rt ⟨n, Aq9, cq10, by rw [e1]; exact hrl, by omega, rfl, by rw [e1]⟩)
  · skip
    have hb5p := of_decide_eq_false hb5
    obtain ⟨bA, offA, rfl, hbA, hclA⟩ := hr.2 (by omega)
    refine q_seg (S := (fun x_ => St w x_ [Res.box blk2 [Value.int .i64 a, Value.int .i64 b] 34])) [(22, Value.bool (!(decide ((za L (Int.toNat (fnd (isID L a b) n) * 6 + 2)) = e)))), (21, Value.bool (!(decide ((za L (Int.toNat (fnd (isID L a b) n) * 6 + 2)) = e)))), (20, Value.int .i64 e), (19, Value.int .i64 (za L (Int.toNat (fnd (isID L a b) n) * 6 + 2))), (18, Value.pointer (some ⟨bA, offA + Int.toNat (fnd (isID L a b) n) * 6 + 2, none⟩)), (17, Value.pointer (some ⟨bA, offA + Int.toNat (fnd (isID L a b) n) * 6, none⟩)), (16, Value.int .i64 (fnd (isID L a b) n)), (15, Value.slice (some ⟨bA, offA, none⟩) n c)] [.no, .no, .no, .no, .v (Value.int .i64 (za L (Int.toNat (fnd (isID L a b) n) * 6 + 2))), .no, .no, .v (.bool false)] (((decide ((fnd (isID L a b) n) < (0 : Int))) = false) ∧ ((decide ((fnd (isID L a b) n) < (0 : Int))) = false) ∧ ((decide ((fnd (isID L a b) n) < (0 : Int))) = false) ∧ ((0 : Int) ≤ (fnd (isID L a b) n)) ∧ ((fnd (isID L a b) n) < ((n : Nat) : Int)) ∧ ((decide ((fnd (isID L a b) n) < (0 : Int))) = false) ∧ ((decide ((fnd (isID L a b) n) < (0 : Int))) = false) ∧ (LoadsAt Try.prog (fun x_ => St w x_ [Res.box blk2 [Value.int .i64 a, Value.int .i64 b] 34]) 3 ⟨bA, offA + Int.toNat (fnd (isID L a b) n) * 6 + 2, none⟩ (Value.int .i64 (za L (Int.toNat (fnd (isID L a b) n) * 6 + 2)))) ∧ ((decide ((fnd (isID L a b) n) < (0 : Int))) = false) ∧ ((decide ((fnd (isID L a b) n) < (0 : Int))) = false) ∧ ((decide ((fnd (isID L a b) n) < (0 : Int))) = false)) (by kernel_rfl) ⟨hb5, hb5, hb5, (by omega), (by omega), hb5, hb5, (ld_low (rec_low1 (p := Int.toNat (fnd (isID L a b) n) * 6 + 2) hclA (by omega) (by omega)) (by kernel_rfl)), hb5, hb5, hb5⟩ hS3 ?_
    refine l_nil rfl ?_
    refine then_n ?_
    rcases Bool.eq_false_or_eq_true (decide ((za L (Int.toNat (fnd (isID L a b) n) * 6 + 2)) = e)) with hb11 | hb11
    · skip
      have hb11p := of_decide_eq_true hb11
      refine c_false (b := (!(decide ((za L (Int.toNat (fnd (isID L a b) n) * 6 + 2)) = e)))) (by kernel_rfl) (nb (v := true) hb11) ?_
      refine wp_skip ?_
      refine then_n ?_
      refine wp_seq ?_
      refine c_reg ?_
      refine q_seg (S := (fun x_ => St w x_ [Res.box blk2 [Value.int .i64 a, Value.int .i64 b] 34])) [(27, Value.slice (cutA (some ⟨bA, offA, none⟩) c 0 6) ((Int.toNat (fnd (isID L a b) n)) - 0) (c - 0)), (26, Value.int .i64 (fnd (isID L a b) n)), (25, Value.slice (some ⟨bA, offA, none⟩) n c)] [.no, .no, .no] (((0 : Int) ≤ (0 : Int)) ∧ ((0 : Int) ≤ (fnd (isID L a b) n)) ∧ ((fnd (isID L a b) n) ≤ ((c : Nat) : Int)) ∧ (n ≤ c)) (by kernel_rfl) ⟨(by omega), (by omega), (by omega), (by omega)⟩ hS3 ?_
      refine l_op rfl rfl (fun K hK => op_call (d := some 28) rfl rfl ⟨_, Try.func25, by kernel_rfl, by kernel_rfl⟩ (vs := [Value.slice (cutA (some ⟨bA, offA, none⟩) c 0 6) ((Int.toNat (fnd (isID L a b) n)) - 0) (c - 0)]) (by kernel_rfl) (copyItems_c (cutA (some ⟨bA, offA, none⟩) c 0 6) ((Int.toNat (fnd (isID L a b) n)) - 0) (c - 0) (L.take ((Int.toNat (fnd (isID L a b) n)) * 6)) w3 (by omega) (rec_cut0 (hS3.rdlow hr) (by omega) (by omega))) hS3 (fun v13 new14 w12 Rw12 hS12 => hK _ _ ?_))
      clear hK K
      obtain ⟨Aq15, cq16, rfl, rfl⟩ := Rw12
      refine q_seg (S := (fun x_ => St w x_ [Res.row (Value.slice Aq15 ((Int.toNat (fnd (isID L a b) n)) - 0) cq16) 37 6 ((Int.toNat (fnd (isID L a b) n)) - 0) ((L.take ((Int.toNat (fnd (isID L a b) n)) * 6)).map (Value.int .i64)), Res.box blk2 [Value.int .i64 a, Value.int .i64 b] 34])) [(8, Value.slice Aq15 ((Int.toNat (fnd (isID L a b) n)) - 0) cq16)] [.no] True (by kernel_rfl) trivial hS12 ?_
      refine l_nil rfl ?_
      refine then_n ?_
      refine wp_seq ?_
      refine c_reg ?_
      refine q_seg (S := (fun x_ => St w x_ [Res.row (Value.slice Aq15 ((Int.toNat (fnd (isID L a b) n)) - 0) cq16) 37 6 ((Int.toNat (fnd (isID L a b) n)) - 0) ((L.take ((Int.toNat (fnd (isID L a b) n)) * 6)).map (Value.int .i64)), Res.box blk2 [Value.int .i64 a, Value.int .i64 b] 34])) [(33, Value.slice (cutA (some ⟨bA, offA, none⟩) c (Int.toNat ((fnd (isID L a b) n) + (1 : Int))) 6) (n - (Int.toNat ((fnd (isID L a b) n) + (1 : Int)))) (c - (Int.toNat ((fnd (isID L a b) n) + (1 : Int))))), (32, Value.int .i64 ((fnd (isID L a b) n) + (1 : Int))), (31, Value.int .i64 (fnd (isID L a b) n)), (30, Value.slice (some ⟨bA, offA, none⟩) n c), (29, Value.slice Aq15 ((Int.toNat (fnd (isID L a b) n)) - 0) cq16)] [.no, .no, .no, .no, .no] ((InK .i64 ((fnd (isID L a b) n) + (1 : Int))) ∧ ((0 : Int) ≤ ((fnd (isID L a b) n) + (1 : Int))) ∧ (((fnd (isID L a b) n) + (1 : Int)) ≤ ((n : Nat) : Int)) ∧ (((n : Nat) : Int) ≤ ((c : Nat) : Int)) ∧ (n ≤ c)) (by kernel_rfl) ⟨(in64 (by omega) (by omega)), (by omega), (by omega), (by omega), (by omega)⟩ hS12 ?_
      refine l_op rfl rfl (fun K hK => op_append (d := some 34) rfl rfl el_37 hS12 (i := 0) rfl rfl rfl (news := ((L.drop ((Int.toNat ((fnd (isID L a b) n) + (1 : Int))) * 6)).map (Value.int .i64))) (rec_cutT (hS12.rdlow hr) (by omega) (by omega)) (ints_one _ _) (by omega) (by omega) (fun v18 w17 hS17 => hK _ _ ?_))
      clear hK K
      obtain ⟨hlv18, Av18, cv18, hvv18, hnv18, hmv18⟩ := hS17.row_slice (List.mem_of_getElem? (i := 0) rfl)
      subst hvv18
      replace hS17 := hS17.eqv (own' := [Res.row (Value.slice Av18 (((Int.toNat (fnd (isID L a b) n)) - 0) + (n - (Int.toNat ((fnd (isID L a b) n) + (1 : Int))))) cv18) 37 6 (((Int.toNat (fnd (isID L a b) n)) - 0) + (n - (Int.toNat ((fnd (isID L a b) n) + (1 : Int))))) (((L.take ((Int.toNat (fnd (isID L a b) n)) * 6)) ++ (L.drop ((Int.toNat ((fnd (isID L a b) n) + (1 : Int))) * 6))).map (Value.int .i64)), Res.box blk2 [Value.int .i64 a, Value.int .i64 b] 34]) (by simp)
      refine q_seg (S := (fun x_ => St w x_ [Res.row (Value.slice Av18 (((Int.toNat (fnd (isID L a b) n)) - 0) + (n - (Int.toNat ((fnd (isID L a b) n) + (1 : Int))))) cv18) 37 6 (((Int.toNat (fnd (isID L a b) n)) - 0) + (n - (Int.toNat ((fnd (isID L a b) n) + (1 : Int))))) (((L.take ((Int.toNat (fnd (isID L a b) n)) * 6)) ++ (L.drop ((Int.toNat ((fnd (isID L a b) n) + (1 : Int))) * 6))).map (Value.int .i64)), Res.box blk2 [Value.int .i64 a, Value.int .i64 b] 34])) [(6, Value.slice Av18 (((Int.toNat (fnd (isID L a b) n)) - 0) + (n - (Int.toNat ((fnd (isID L a b) n) + (1 : Int))))) cv18)] [.no] True (by kernel_rfl) trivial hS17 ?_
      refine l_nil rfl ?_
      refine then_n ?_
      refine wp_ret ?_
      have hS17s2 : St w w17 [Res.row (Value.slice Av18 (((Int.toNat (fnd (isID L a b) n)) - 0) + (n - (Int.toNat ((fnd (isID L a b) n) + (1 : Int))))) cv18) 37 6 (((Int.toNat (fnd (isID L a b) n)) - 0) + (n - (Int.toNat ((fnd (isID L a b) n) + (1 : Int))))) (((L.take ((Int.toNat (fnd (isID L a b) n)) * 6)) ++ (L.drop ((Int.toNat ((fnd (isID L a b) n) + (1 : Int))) * 6))).map (Value.int .i64))] := (hS17.sub (List.Sublist.cons_cons _ (List.Sublist.cons _ List.Sublist.slnil)))
      have hrl := hS17s2.rec_len (List.mem_of_getElem? (i := 0) rfl)
      have e1 : derL L (fnd (isID L a b) n) e = L.take (Int.toNat (fnd (isID L a b) n) * 6) ++ L.drop (Int.toNat ((fnd (isID L a b) n) + (1 : Int)) * 6) := by rw [derL_yes (by omega) (by omega), show Int.toNat (fnd (isID L a b) n) * 6 + 6 = Int.toNat ((fnd (isID L a b) n) + (1 : Int)) * 6 by omega]
      exact c_end (S := (fun x_ => St w x_ [Res.row (Value.slice Av18 (((Int.toNat (fnd (isID L a b) n)) - 0) + (n - (Int.toNat ((fnd (isID L a b) n) + (1 : Int))))) cv18) 37 6 (((Int.toNat (fnd (isID L a b) n)) - 0) + (n - (Int.toNat ((fnd (isID L a b) n) + (1 : Int))))) (((L.take ((Int.toNat (fnd (isID L a b) n)) * 6)) ++ (L.drop ((Int.toNat ((fnd (isID L a b) n) + (1 : Int))) * 6))).map (Value.int .i64))])) (rs := [.tmp 6]) rfl [] (v := Value.slice Av18 (((Int.toNat (fnd (isID L a b) n)) - 0) + (n - (Int.toNat ((fnd (isID L a b) n) + (1 : Int))))) cv18) (C := True) (by kernel_rfl) trivial hS17s2 (hS17s2.rt ⟨(((Int.toNat (fnd (isID L a b) n)) - 0) + (n - (Int.toNat ((fnd (isID L a b) n) + (1 : Int))))), Av18, cv18, by rw [e1]; exact hrl, by omega, rfl, by rw [e1]⟩)
    · skip
      have hb11p := of_decide_eq_false hb11
      refine c_true (b := (!(decide ((za L (Int.toNat (fnd (isID L a b) n) * 6 + 2)) = e)))) (by kernel_rfl) (nb (v := false) hb11) ?_
      refine wp_seq ?_
      refine c_reg ?_
      refine q_seg (S := (fun x_ => St w x_ [Res.box blk2 [Value.int .i64 a, Value.int .i64 b] 34])) [(23, Value.slice (some ⟨bA, offA, none⟩) n c)] [.no] True (by kernel_rfl) trivial hS3 ?_
      refine l_op rfl rfl (fun K hK => op_call (d := some 24) rfl rfl ⟨_, Try.func25, by kernel_rfl, by kernel_rfl⟩ (vs := [Value.slice (some ⟨bA, offA, none⟩) n c]) (by kernel_rfl) (copyItems_c (some ⟨bA, offA, none⟩) n c L w3 (by omega) (hS3.rdlow hr)) hS3 (fun v20 new21 w19 Rw19 hS19 => hK _ _ ?_))
      clear hK K
      obtain ⟨Aq22, cq23, rfl, rfl⟩ := Rw19
      refine q_seg (S := (fun x_ => St w x_ [Res.row (Value.slice Aq22 n cq23) 37 6 n (L.map (Value.int .i64)), Res.box blk2 [Value.int .i64 a, Value.int .i64 b] 34])) [(6, Value.slice Aq22 n cq23)] [.no] True (by kernel_rfl) trivial hS19 ?_
      refine l_nil rfl ?_
      refine then_n ?_
      refine wp_ret ?_
      refine then_r ?_
      have hS19s3 : St w w19 [Res.row (Value.slice Aq22 n cq23) 37 6 n (L.map (Value.int .i64))] := (hS19.sub (List.Sublist.cons_cons _ (List.Sublist.cons _ List.Sublist.slnil)))
      have hrl := hS19s3.rec_len (List.mem_of_getElem? (i := 0) rfl)
      have e1 : derL L (fnd (isID L a b) n) e = L := derL_no (by omega)
      exact c_end (S := (fun x_ => St w x_ [Res.row (Value.slice Aq22 n cq23) 37 6 n (L.map (Value.int .i64))])) (rs := [.tmp 6]) rfl [] (v := Value.slice Aq22 n cq23) (C := True) (by kernel_rfl) trivial hS19s3 (hS19s3.rt ⟨n, Aq22, cq23, by rw [e1]; exact hrl, by omega, rfl, by rw [e1]⟩)
theorem DerS_c (A : Option Addr) (n c : Nat) (L : List Int) (a b e : Int) (w : World) (hn : n ≤ 1073741824) (hnc : n ≤ c) (hr : Rd w w.heap.size A (n * 6) (L.map (Value.int .i64))) : Calls Try.prog 47 #[.slice A n c, .agg #[.int .i64 a, .int .i64 b], .int .i64 e] w (Ret w (fun v new => ∃ (m : Nat) (A_ : Option Addr) (c_ : Nat), (derL L (fnd (isID L a b) n) e).length = m * 6 ∧ m ≤ n ∧ v = .slice A_ m c_ ∧ new = [.row (.slice A_ m c_) 37 6 m ((derL L (fnd (isID L a b) n) e).map (Value.int .i64))])) := by
  have hLl : L.length = n * 6 := hr.len
  refine calls_FA Try.func47 rfl (n := 34) rfl (l := [(0, Value.slice A n c), (1, Value.agg #[Value.int .i64 a, Value.int .i64 b]), (2, Value.int .i64 e)]) rfl (by simp) (fun g => ?_)
  have hS := St.init w
  refine wp_seq ?_
  refine c_reg ?_
  refine l_op rfl rfl (fun K hK => op_box (d := some 4) rfl rfl [Value.int .i64 a, Value.int .i64 b] (by kernel_rfl) hS (fun blk2 w1 hS1 => hK _ _ ?_))
  clear hK K
  refine q_seg (S := (fun x_ => St w x_ [Res.box blk2 [Value.int .i64 a, Value.int .i64 b] 34])) [(6, Value.slice none 0 0)] [.no] True (by kernel_rfl) trivial hS1 ?_
  refine l_nil rfl ?_
  refine then_n ?_
  refine wp_seq ?_
  refine c_reg ?_
  refine q_seg (S := (fun x_ => St w x_ [Res.box blk2 [Value.int .i64 a, Value.int .i64 b] 34])) [(9, Value.agg #[Value.int .i64 a, Value.int .i64 b]), (8, Value.slice A n c)] [.no, .v (Value.agg #[Value.int .i64 a, Value.int .i64 b])] ((LoadsAt Try.prog (fun x_ => St w x_ [Res.box blk2 [Value.int .i64 a, Value.int .i64 b] 34]) 34 ⟨blk2, 0, none⟩ (Value.agg #[Value.int .i64 a, Value.int .i64 b]))) (by kernel_rfl) (ld_boxN (i := 0) (k := 2) rfl rfl rfl (by kernel_rfl)) hS1 ?_
  refine l_op rfl rfl (fun K hK => op_callv (d := some 10) rfl rfl ⟨_, Try.func16, by kernel_rfl, by kernel_rfl⟩ (vs := [Value.slice A n c, Value.agg #[Value.int .i64 a, Value.int .i64 b]]) (by kernel_rfl) (v := Value.int .i64 (fnd (isID L a b) n)) (FindS_c A n c n L a b w1 (by omega) (by omega) (hS1.rdlow hr)) hS1 (fun w3 hS3 => hK _ _ ?_))
  clear hK K
  have hfq4 := fnd_bd (isID L a b) n
  refine q_seg (S := (fun x_ => St w x_ [Res.box blk2 [Value.int .i64 a, Value.int .i64 b] 34])) [(7, Value.int .i64 (fnd (isID L a b) n))] [.no] True (by kernel_rfl) trivial hS3 ?_
  refine l_nil rfl ?_
  refine then_n ?_
  refine wp_seq ?_
  refine wp_seq ?_
  refine c_reg ?_
  refine q_seg (S := (fun x_ => St w x_ [Res.box blk2 [Value.int .i64 a, Value.int .i64 b] 34])) [(13, Value.bool (decide ((fnd (isID L a b) n) < (0 : Int)))), (12, Value.bool (decide ((fnd (isID L a b) n) < (0 : Int)))), (11, Value.int .i64 (fnd (isID L a b) n))] [.no, .no, .no] True (by kernel_rfl) trivial hS3 ?_
  rcases Bool.eq_false_or_eq_true (decide ((fnd (isID L a b) n) < (0 : Int))) with hb5 | hb5
  · skip
    have hb5p := of_decide_eq_true hb5
    refine q_seg (S := (fun x_ => St w x_ [Res.box blk2 [Value.int .i64 a, Value.int .i64 b] 34])) [(21, Value.bool true), (20, undef), (19, undef), (18, undef), (17, undef), (16, undef), (15, undef), (14, undef)] [.skip, .skip, .skip, .skip, .skip, .skip, .skip, .v (.bool true)] (((decide ((fnd (isID L a b) n) < (0 : Int))) = !false) ∧ ((decide ((fnd (isID L a b) n) < (0 : Int))) = !false) ∧ ((decide ((fnd (isID L a b) n) < (0 : Int))) = !false) ∧ ((decide ((fnd (isID L a b) n) < (0 : Int))) = !false) ∧ ((decide ((fnd (isID L a b) n) < (0 : Int))) = !false) ∧ ((decide ((fnd (isID L a b) n) < (0 : Int))) = !false) ∧ ((decide ((fnd (isID L a b) n) < (0 : Int))) = !false) ∧ ((decide ((fnd (isID L a b) n) < (0 : Int))) = true)) (by kernel_rfl) ⟨hb5, hb5, hb5, hb5, hb5, hb5, hb5, hb5⟩ hS3 ?_
    refine l_nil rfl ?_
    refine then_n ?_
    refine c_true (b := true) (by kernel_rfl) rfl ?_
    refine wp_seq ?_
    refine c_reg ?_
    refine q_seg (S := (fun x_ => St w x_ [Res.box blk2 [Value.int .i64 a, Value.int .i64 b] 34])) [(22, Value.slice A n c)] [.no] True (by kernel_rfl) trivial hS3 ?_
    refine l_op rfl rfl (fun K hK => op_call (d := some 23) rfl rfl ⟨_, Try.func21, by kernel_rfl, by kernel_rfl⟩ (vs := [Value.slice A n c]) (by kernel_rfl) (l21Copy_c A n c L w3 (by omega) (hS3.rdlow hr)) hS3 (fun v7 new8 w6 Rw6 hS6 => hK _ _ ?_))
    clear hK K
    obtain ⟨Aq9, cq10, rfl, rfl⟩ := Rw6
    refine q_seg (S := (fun x_ => St w x_ [Res.row (Value.slice Aq9 n cq10) 37 6 n (L.map (Value.int .i64)), Res.box blk2 [Value.int .i64 a, Value.int .i64 b] 34])) [(6, Value.slice Aq9 n cq10)] [.no] True (by kernel_rfl) trivial hS6 ?_
    refine l_nil rfl ?_
    refine then_n ?_
    refine wp_ret ?_
    refine then_r ?_
    have hS6s1 : St w w6 [Res.row (Value.slice Aq9 n cq10) 37 6 n (L.map (Value.int .i64))] := (hS6.sub (List.Sublist.cons_cons _ (List.Sublist.cons _ List.Sublist.slnil)))
    have hrl := hS6s1.rec_len (List.mem_of_getElem? (i := 0) rfl)
    have e1 : derL L (fnd (isID L a b) n) e = L := derL_no (by omega)
    exact c_end (S := (fun x_ => St w x_ [Res.row (Value.slice Aq9 n cq10) 37 6 n (L.map (Value.int .i64))])) (rs := [.tmp 6]) rfl [] (v := Value.slice Aq9 n cq10) (C := True) (by kernel_rfl) trivial hS6s1 (hS6s1.rt ⟨n, Aq9, cq10, by rw [e1]; exact hrl, by omega, rfl, by rw [e1]⟩)
  · skip
    have hb5p := of_decide_eq_false hb5
    obtain ⟨bA, offA, rfl, hbA, hclA⟩ := hr.2 (by omega)
    refine q_seg (S := (fun x_ => St w x_ [Res.box blk2 [Value.int .i64 a, Value.int .i64 b] 34])) [(21, Value.bool (!(decide ((za L (Int.toNat (fnd (isID L a b) n) * 6 + 2)) = e)))), (20, Value.bool (!(decide ((za L (Int.toNat (fnd (isID L a b) n) * 6 + 2)) = e)))), (19, Value.int .i64 e), (18, Value.int .i64 (za L (Int.toNat (fnd (isID L a b) n) * 6 + 2))), (17, Value.pointer (some ⟨bA, offA + Int.toNat (fnd (isID L a b) n) * 6 + 2, none⟩)), (16, Value.pointer (some ⟨bA, offA + Int.toNat (fnd (isID L a b) n) * 6, none⟩)), (15, Value.int .i64 (fnd (isID L a b) n)), (14, Value.slice (some ⟨bA, offA, none⟩) n c)] [.no, .no, .no, .no, .v (Value.int .i64 (za L (Int.toNat (fnd (isID L a b) n) * 6 + 2))), .no, .no, .v (.bool false)] (((decide ((fnd (isID L a b) n) < (0 : Int))) = false) ∧ ((decide ((fnd (isID L a b) n) < (0 : Int))) = false) ∧ ((decide ((fnd (isID L a b) n) < (0 : Int))) = false) ∧ ((0 : Int) ≤ (fnd (isID L a b) n)) ∧ ((fnd (isID L a b) n) < ((n : Nat) : Int)) ∧ ((decide ((fnd (isID L a b) n) < (0 : Int))) = false) ∧ ((decide ((fnd (isID L a b) n) < (0 : Int))) = false) ∧ (LoadsAt Try.prog (fun x_ => St w x_ [Res.box blk2 [Value.int .i64 a, Value.int .i64 b] 34]) 3 ⟨bA, offA + Int.toNat (fnd (isID L a b) n) * 6 + 2, none⟩ (Value.int .i64 (za L (Int.toNat (fnd (isID L a b) n) * 6 + 2)))) ∧ ((decide ((fnd (isID L a b) n) < (0 : Int))) = false) ∧ ((decide ((fnd (isID L a b) n) < (0 : Int))) = false) ∧ ((decide ((fnd (isID L a b) n) < (0 : Int))) = false)) (by kernel_rfl) ⟨hb5, hb5, hb5, (by omega), (by omega), hb5, hb5, (ld_low (rec_low1 (p := Int.toNat (fnd (isID L a b) n) * 6 + 2) hclA (by omega) (by omega)) (by kernel_rfl)), hb5, hb5, hb5⟩ hS3 ?_
    refine l_nil rfl ?_
    refine then_n ?_
    rcases Bool.eq_false_or_eq_true (decide ((za L (Int.toNat (fnd (isID L a b) n) * 6 + 2)) = e)) with hb11 | hb11
    · skip
      have hb11p := of_decide_eq_true hb11
      refine c_false (b := (!(decide ((za L (Int.toNat (fnd (isID L a b) n) * 6 + 2)) = e)))) (by kernel_rfl) (nb (v := true) hb11) ?_
      refine wp_skip ?_
      refine then_n ?_
      refine wp_seq ?_
      refine c_drawn [] (by kernel_rfl) hS3 (fun w12 hS12 => ?_)
      refine t_seg (S := (fun x_ => St w x_ [Res.box blk2 [Value.int .i64 a, Value.int .i64 b] 34])) [(1, .no), (2, .no), (5, .no), (6, .no), (3, .no), (7, .no), (8, .no)] 4 #[false, true, true, true, false, true, true, true, true, false, false] [(32, Value.slice (cutA (some ⟨bA, offA, none⟩) c (Int.toNat ((fnd (isID L a b) n) + (1 : Int))) 6) (n - (Int.toNat ((fnd (isID L a b) n) + (1 : Int)))) (c - (Int.toNat ((fnd (isID L a b) n) + (1 : Int))))), (31, Value.int .i64 ((fnd (isID L a b) n) + (1 : Int))), (27, Value.slice (cutA (some ⟨bA, offA, none⟩) c 0 6) ((Int.toNat (fnd (isID L a b) n)) - 0) (c - 0)), (30, Value.int .i64 (fnd (isID L a b) n)), (29, Value.slice (some ⟨bA, offA, none⟩) n c), (26, Value.int .i64 (fnd (isID L a b) n)), (25, Value.slice (some ⟨bA, offA, none⟩) n c)] (((0 : Int) ≤ (0 : Int)) ∧ ((0 : Int) ≤ (fnd (isID L a b) n)) ∧ ((fnd (isID L a b) n) ≤ ((c : Nat) : Int)) ∧ (n ≤ c) ∧ (InK .i64 ((fnd (isID L a b) n) + (1 : Int))) ∧ ((0 : Int) ≤ ((fnd (isID L a b) n) + (1 : Int))) ∧ (((fnd (isID L a b) n) + (1 : Int)) ≤ ((n : Nat) : Int)) ∧ (((n : Nat) : Int) ≤ ((c : Nat) : Int)) ∧ (n ≤ c)) (by kernel_rfl) (Qpanic.then Qpanic.bp) rfl (by kernel_rfl) ⟨(by omega), (by omega), (by omega), (by omega), (in64 (by omega) (by omega)), (by omega), (by omega), (by omega), (by omega)⟩ hS12 ?_
      refine a_op (i := 0) (fuel := 3) (listed' := #[true, true, true, true, false, true, true, true, true, false, false]) rfl rfl (by kernel_rfl) (by kernel_rfl) rfl (fun K hK => op_buildSlice (d := some 24) rfl rfl (e := 37) (by kernel_rfl) 6 (by kernel_rfl) (by decide) (by decide) [] (by kernel_rfl) rfl hS12 (fun blk14 w13 hS13 => hK _ _ (fun _ => hS13.drop) ?_))
      clear hK K
      refine a_op (i := 4) (fuel := 2) (listed' := #[true, true, true, true, true, true, true, true, true, false, false]) rfl rfl (by kernel_rfl) (by kernel_rfl) rfl (fun K hK => op_append_nil (d := some 28) rfl rfl el_37 hS13 (i := 0) rfl rfl rfl (news := ((L.take ((Int.toNat (fnd (isID L a b) n)) * 6)).map (Value.int .i64))) (rec_cut0 (hS13.rdlow hr) (by omega) (by omega)) (ints_one _ _) (by omega) (by omega) (fun v16 w15 hS15 => hK _ _ (fun _ => hS15.drop) ?_))
      clear hK K
      obtain ⟨hlv16, Av16, cv16, hvv16, hnv16, hmv16⟩ := hS15.row_slice (List.mem_of_getElem? (i := 0) rfl)
      subst hvv16
      refine a_op (i := 9) (fuel := 1) (listed' := #[true, true, true, true, true, true, true, true, true, true, false]) rfl rfl (by kernel_rfl) (by kernel_rfl) rfl (fun K hK => op_append (d := some 33) rfl rfl el_37 hS15 (i := 0) rfl rfl rfl (news := ((L.drop ((Int.toNat ((fnd (isID L a b) n) + (1 : Int))) * 6)).map (Value.int .i64))) (rec_cutT (hS15.rdlow hr) (by omega) (by omega)) (ints_one _ _) (by omega) (by omega) (fun v18 w17 hS17 => hK _ _ (fun _ => hS17.drop) ?_))
      clear hK K
      obtain ⟨hlv18, Av18, cv18, hvv18, hnv18, hmv18⟩ := hS17.row_slice (List.mem_of_getElem? (i := 0) rfl)
      subst hvv18
      replace hS17 := hS17.eqv (own' := [Res.row (Value.slice Av18 (((Int.toNat (fnd (isID L a b) n)) - 0) + (n - (Int.toNat ((fnd (isID L a b) n) + (1 : Int))))) cv18) 37 6 (((Int.toNat (fnd (isID L a b) n)) - 0) + (n - (Int.toNat ((fnd (isID L a b) n) + (1 : Int))))) (((L.take ((Int.toNat (fnd (isID L a b) n)) * 6)) ++ (L.drop ((Int.toNat ((fnd (isID L a b) n) + (1 : Int))) * 6))).map (Value.int .i64)), Res.box blk2 [Value.int .i64 a, Value.int .i64 b] 34]) (by simp)
      refine t_seg (S := (fun x_ => St w x_ [Res.box blk2 [Value.int .i64 a, Value.int .i64 b] 34])) [(10, .no)] 0 #[true, true, true, true, true, true, true, true, true, true, true] [(6, Value.slice Av18 (((Int.toNat (fnd (isID L a b) n)) - 0) + (n - (Int.toNat ((fnd (isID L a b) n) + (1 : Int))))) cv18)] True (by kernel_rfl) (Qpanic.then Qpanic.bp) rfl (by kernel_rfl) trivial (hS17.drop) ?_
      refine a_done (by kernel_rfl) ?_
      refine then_n ?_
      refine wp_ret ?_
      have hS17s2 : St w w17 [Res.row (Value.slice Av18 (((Int.toNat (fnd (isID L a b) n)) - 0) + (n - (Int.toNat ((fnd (isID L a b) n) + (1 : Int))))) cv18) 37 6 (((Int.toNat (fnd (isID L a b) n)) - 0) + (n - (Int.toNat ((fnd (isID L a b) n) + (1 : Int))))) (((L.take ((Int.toNat (fnd (isID L a b) n)) * 6)) ++ (L.drop ((Int.toNat ((fnd (isID L a b) n) + (1 : Int))) * 6))).map (Value.int .i64))] := (hS17.sub (List.Sublist.cons_cons _ (List.Sublist.cons _ List.Sublist.slnil)))
      have hrl := hS17s2.rec_len (List.mem_of_getElem? (i := 0) rfl)
      have e1 : derL L (fnd (isID L a b) n) e = L.take (Int.toNat (fnd (isID L a b) n) * 6) ++ L.drop (Int.toNat ((fnd (isID L a b) n) + (1 : Int)) * 6) := by rw [derL_yes (by omega) (by omega), show Int.toNat (fnd (isID L a b) n) * 6 + 6 = Int.toNat ((fnd (isID L a b) n) + (1 : Int)) * 6 by omega]
      exact c_end (S := (fun x_ => St w x_ [Res.row (Value.slice Av18 (((Int.toNat (fnd (isID L a b) n)) - 0) + (n - (Int.toNat ((fnd (isID L a b) n) + (1 : Int))))) cv18) 37 6 (((Int.toNat (fnd (isID L a b) n)) - 0) + (n - (Int.toNat ((fnd (isID L a b) n) + (1 : Int))))) (((L.take ((Int.toNat (fnd (isID L a b) n)) * 6)) ++ (L.drop ((Int.toNat ((fnd (isID L a b) n) + (1 : Int))) * 6))).map (Value.int .i64))])) (rs := [.tmp 6]) rfl [] (v := Value.slice Av18 (((Int.toNat (fnd (isID L a b) n)) - 0) + (n - (Int.toNat ((fnd (isID L a b) n) + (1 : Int))))) cv18) (C := True) (by kernel_rfl) trivial hS17s2 (hS17s2.rt ⟨(((Int.toNat (fnd (isID L a b) n)) - 0) + (n - (Int.toNat ((fnd (isID L a b) n) + (1 : Int))))), Av18, cv18, by rw [e1]; exact hrl, by omega, rfl, by rw [e1]⟩)
    · skip
      have hb11p := of_decide_eq_false hb11
      refine c_true (b := (!(decide ((za L (Int.toNat (fnd (isID L a b) n) * 6 + 2)) = e)))) (by kernel_rfl) (nb (v := false) hb11) ?_
      refine wp_seq ?_
      refine c_reg ?_
      refine q_seg (S := (fun x_ => St w x_ [Res.box blk2 [Value.int .i64 a, Value.int .i64 b] 34])) [(22, Value.slice (some ⟨bA, offA, none⟩) n c)] [.no] True (by kernel_rfl) trivial hS3 ?_
      refine l_op rfl rfl (fun K hK => op_call (d := some 23) rfl rfl ⟨_, Try.func21, by kernel_rfl, by kernel_rfl⟩ (vs := [Value.slice (some ⟨bA, offA, none⟩) n c]) (by kernel_rfl) (l21Copy_c (some ⟨bA, offA, none⟩) n c L w3 (by omega) (hS3.rdlow hr)) hS3 (fun v20 new21 w19 Rw19 hS19 => hK _ _ ?_))
      clear hK K
      obtain ⟨Aq22, cq23, rfl, rfl⟩ := Rw19
      refine q_seg (S := (fun x_ => St w x_ [Res.row (Value.slice Aq22 n cq23) 37 6 n (L.map (Value.int .i64)), Res.box blk2 [Value.int .i64 a, Value.int .i64 b] 34])) [(6, Value.slice Aq22 n cq23)] [.no] True (by kernel_rfl) trivial hS19 ?_
      refine l_nil rfl ?_
      refine then_n ?_
      refine wp_ret ?_
      refine then_r ?_
      have hS19s3 : St w w19 [Res.row (Value.slice Aq22 n cq23) 37 6 n (L.map (Value.int .i64))] := (hS19.sub (List.Sublist.cons_cons _ (List.Sublist.cons _ List.Sublist.slnil)))
      have hrl := hS19s3.rec_len (List.mem_of_getElem? (i := 0) rfl)
      have e1 : derL L (fnd (isID L a b) n) e = L := derL_no (by omega)
      exact c_end (S := (fun x_ => St w x_ [Res.row (Value.slice Aq22 n cq23) 37 6 n (L.map (Value.int .i64))])) (rs := [.tmp 6]) rfl [] (v := Value.slice Aq22 n cq23) (C := True) (by kernel_rfl) trivial hS19s3 (hS19s3.rt ⟨n, Aq22, cq23, by rw [e1]; exact hrl, by omega, rfl, by rw [e1]⟩)
theorem sameR_c (A B : Option Addr) (n c d : Nat) (L : List Int) (w : World) (hn : n ≤ 1099511627776) (hr : Rd w w.heap.size A (n * 6) (L.map (Value.int .i64))) (hr2 : Rd w w.heap.size B (n * 6) (L.map (Value.int .i64))) : Calls Try.prog 15 #[.slice A n c, .slice B n d] w (RetV w (.bool true)) := by
  have hLl : L.length = n * 6 := hr.len
  refine calls_FA Try.func15 rfl (n := 26) rfl (l := [(0, Value.slice A n c), (1, Value.slice B n d)]) rfl (by simp) (fun g => ?_)
  have hS := St.init w
  refine wp_seq ?_
  refine c_reg ?_
  refine q_seg (S := (fun x_ => St w x_ [])) [(4, Value.bool false)] [.no] True (by kernel_rfl) trivial hS ?_
  refine l_nil rfl ?_
  refine then_n ?_
  refine wp_seq ?_
  refine wp_seq ?_
  refine c_reg ?_
  refine q_seg (S := (fun x_ => St w x_ [])) [(10, Value.bool (!(decide (((n : Nat) : Int) = ((n : Nat) : Int))))), (9, Value.int .i64 ((n : Nat) : Int)), (8, Value.slice B n d), (7, Value.int .i64 ((n : Nat) : Int)), (6, Value.slice A n c)] [.no, .no, .no, .no, .no] True (by kernel_rfl) trivial hS ?_
  refine l_nil rfl ?_
  refine then_n ?_
  refine c_false (b := (!(decide (((n : Nat) : Int) = ((n : Nat) : Int))))) (by kernel_rfl) (nb (v := true) (decide_eq_true rfl)) ?_
  refine wp_skip ?_
  refine then_n ?_
  refine wp_seq ?_
  refine wp_seq ?_
  refine c_reg ?_
  refine q_seg (S := (fun x_ => St w x_ [])) [(5, Value.int .i64 0)] [.no] True (by kernel_rfl) trivial hS ?_
  refine l_nil rfl ?_
  refine then_n ?_
  refine wp_block ?_
  refine c_loop (X := Nat) (fun (k : Nat) => [(0, Value.slice A n c), (1, Value.slice B n d), (5, Value.int .i64 ((k : Nat) : Int))]) (fun (k : Nat) (wr : World) => (k ≤ n) ∧ St w wr []) (fun (k : Nat) => n - k) 0 ?_ ?_ ?_
  · exact (agree_cons (by kernel_rfl) (agree_cons (by kernel_rfl) (agree_cons (by kernel_rfl) agree_nil)))
  · exact ⟨Nat.zero_le _, hS⟩
  rintro k g2 w1 ⟨hkn, hS1⟩
  refine wp_seq ?_
  refine wp_seq ?_
  refine c_reg ?_
  refine q_seg (S := (fun x_ => St w x_ [])) [(14, Value.bool (decide (((k : Nat) : Int) < ((n : Nat) : Int)))), (13, Value.int .i64 ((n : Nat) : Int)), (12, Value.slice A n c), (11, Value.int .i64 ((k : Nat) : Int))] [.no, .no, .no, .no] True (by kernel_rfl) trivial hS1 ?_
  refine l_nil rfl ?_
  refine then_n ?_
  rcases Bool.eq_false_or_eq_true (decide (((k : Nat) : Int) < ((n : Nat) : Int))) with hb3 | hb3
  · skip
    have hb3p := of_decide_eq_true hb3
    have hk_n : k < n := by omega
    obtain ⟨bA, offA, rfl, hbA, hclA⟩ := hr.2 (by omega)
    obtain ⟨bB, offB, rfl, hbB, hclB⟩ := hr2.2 (by omega)
    refine c_true (b := (decide (((k : Nat) : Int) < ((n : Nat) : Int)))) (by kernel_rfl) hb3 ?_
    refine wp_skip ?_
    refine then_n ?_
    refine wp_seq ?_
    refine wp_block ?_
    refine wp_seq ?_
    refine c_drawn [] (by kernel_rfl) hS1 (fun w4 hS4 => ?_)
    refine t_seg (S := (fun x_ => St w x_ [])) [(0, .no), (1, .no), (4, .no), (5, .no), (2, .no), (6, .no), (3, .v (Value.agg #[Value.int .i64 (za L (k * 6 + 0)), Value.int .i64 (za L (k * 6 + 1)), Value.int .i64 (za L (k * 6 + 2)), Value.int .i64 (za L (k * 6 + 3)), Value.int .i64 (za L (k * 6 + 4)), Value.int .i64 (za L (k * 6 + 5))])), (7, .v (Value.agg #[Value.int .i64 (za L (k * 6 + 0)), Value.int .i64 (za L (k * 6 + 1)), Value.int .i64 (za L (k * 6 + 2)), Value.int .i64 (za L (k * 6 + 3)), Value.int .i64 (za L (k * 6 + 4)), Value.int .i64 (za L (k * 6 + 5))])), (8, .no)] 0 #[true, true, true, true, true, true, true, true, true] [(25, Value.bool (!(((((za L (k * 6 + 0)) == (za L (k * 6 + 0))) && (((za L (k * 6 + 1)) == (za L (k * 6 + 1))) && true)) && (((za L (k * 6 + 2)) == (za L (k * 6 + 2))) && (((za L (k * 6 + 3)) == (za L (k * 6 + 3))) && ((((za L (k * 6 + 4)) == (za L (k * 6 + 4))) && (((za L (k * 6 + 5)) == (za L (k * 6 + 5))) && true)) && true))))))), (24, Value.agg #[Value.int .i64 (za L (k * 6 + 0)), Value.int .i64 (za L (k * 6 + 1)), Value.int .i64 (za L (k * 6 + 2)), Value.int .i64 (za L (k * 6 + 3)), Value.int .i64 (za L (k * 6 + 4)), Value.int .i64 (za L (k * 6 + 5))]), (20, Value.agg #[Value.int .i64 (za L (k * 6 + 0)), Value.int .i64 (za L (k * 6 + 1)), Value.int .i64 (za L (k * 6 + 2)), Value.int .i64 (za L (k * 6 + 3)), Value.int .i64 (za L (k * 6 + 4)), Value.int .i64 (za L (k * 6 + 5))]), (23, Value.pointer (some ⟨bB, offB + Int.toNat ((k : Nat) : Int) * 6, none⟩)), (19, Value.pointer (some ⟨bA, offA + Int.toNat ((k : Nat) : Int) * 6, none⟩)), (22, Value.int .i64 ((k : Nat) : Int)), (21, Value.slice (some ⟨bB, offB, none⟩) n d), (18, Value.int .i64 ((k : Nat) : Int)), (17, Value.slice (some ⟨bA, offA, none⟩) n c)] (((0 : Int) ≤ ((k : Nat) : Int)) ∧ (((k : Nat) : Int) < ((n : Nat) : Int)) ∧ ((0 : Int) ≤ ((k : Nat) : Int)) ∧ (((k : Nat) : Int) < ((n : Nat) : Int)) ∧ (LoadsAt Try.prog (fun x_ => St w x_ []) 37 ⟨bA, offA + Int.toNat ((k : Nat) : Int) * 6, none⟩ (Value.agg #[Value.int .i64 (za L (k * 6 + 0)), Value.int .i64 (za L (k * 6 + 1)), Value.int .i64 (za L (k * 6 + 2)), Value.int .i64 (za L (k * 6 + 3)), Value.int .i64 (za L (k * 6 + 4)), Value.int .i64 (za L (k * 6 + 5))])) ∧ (LoadsAt Try.prog (fun x_ => St w x_ []) 37 ⟨bB, offB + Int.toNat ((k : Nat) : Int) * 6, none⟩ (Value.agg #[Value.int .i64 (za L (k * 6 + 0)), Value.int .i64 (za L (k * 6 + 1)), Value.int .i64 (za L (k * 6 + 2)), Value.int .i64 (za L (k * 6 + 3)), Value.int .i64 (za L (k * 6 + 4)), Value.int .i64 (za L (k * 6 + 5))]))) (by kernel_rfl) (Qpanic.then (Qpanic.block (Qpanic.then (Qpanic.then (Qpanic.block (Qpanic.then Qpanic.bp)))))) rfl (by kernel_rfl) ⟨(by omega), (by omega), (by omega), (by omega), (ld_lowN (k := 6) (vs := [Value.int .i64 (za L (k * 6 + 0)), Value.int .i64 (za L (k * 6 + 1)), Value.int .i64 (za L (k * 6 + 2)), Value.int .i64 (za L (k * 6 + 3)), Value.int .i64 (za L (k * 6 + 4)), Value.int .i64 (za L (k * 6 + 5))]) (by kernel_rfl) rfl (rec_low (p := k * 6) (q := 6) hclA (by omega) (seg6 (by omega)))), (ld_lowN (k := 6) (vs := [Value.int .i64 (za L (k * 6 + 0)), Value.int .i64 (za L (k * 6 + 1)), Value.int .i64 (za L (k * 6 + 2)), Value.int .i64 (za L (k * 6 + 3)), Value.int .i64 (za L (k * 6 + 4)), Value.int .i64 (za L (k * 6 + 5))]) (by kernel_rfl) rfl (rec_low (p := k * 6) (q := 6) hclB (by omega) (seg6 (by omega))))⟩ hS4 ?_
    refine a_done (by kernel_rfl) ?_
    refine then_n ?_
    refine c_false (b := (!(((((za L (k * 6 + 0)) == (za L (k * 6 + 0))) && (((za L (k * 6 + 1)) == (za L (k * 6 + 1))) && true)) && (((za L (k * 6 + 2)) == (za L (k * 6 + 2))) && (((za L (k * 6 + 3)) == (za L (k * 6 + 3))) && ((((za L (k * 6 + 4)) == (za L (k * 6 + 4))) && (((za L (k * 6 + 5)) == (za L (k * 6 + 5))) && true)) && true))))))) (by kernel_rfl) (nb (v := true) (by simp)) ?_
    refine wp_skip ?_
    refine blk_n ?_
    refine then_n ?_
    refine c_reg ?_
    refine q_seg (S := (fun x_ => St w x_ [])) [(5, Value.int .i64 (((k : Nat) : Int) + (1 : Int))), (16, Value.int .i64 (((k : Nat) : Int) + (1 : Int))), (15, Value.int .i64 ((k : Nat) : Int))] [.no, .no, .no] ((InK .i64 (((k : Nat) : Int) + (1 : Int)))) (by kernel_rfl) (in64 (by omega) (by omega)) hS4 ?_
    refine l_nil rfl ?_
    refine then_n ?_
    refine round_end (k + 1) ?_ ?_ ?_
    · exact (agree_cons (by kernel_rfl) (agree_cons (by kernel_rfl) (agree_cons (by kernel_rfl) agree_nil)))
    · exact ⟨(by omega), hS4⟩
    · exact (by first | omega | (dsimp only; omega))
  · skip
    have hb3p := of_decide_eq_false hb3
    refine c_false (b := (decide (((k : Nat) : Int) < ((n : Nat) : Int)))) (by kernel_rfl) hb3 ?_
    refine wp_exit ?_
    refine then_x ?_
    refine then_x ?_
    refine blk_hit ?_
    refine then_n ?_
    refine wp_seq ?_
    refine c_reg ?_
    refine q_seg (S := (fun x_ => St w x_ [])) [(4, Value.bool true)] [.no] True (by kernel_rfl) trivial hS1 ?_
    refine l_nil rfl ?_
    refine then_n ?_
    refine wp_ret ?_
    exact c_end (S := (fun x_ => St w x_ [])) (rs := [.tmp 4]) rfl [] (v := Value.bool true) (C := True) (by kernel_rfl) trivial hS1 ((hS1.rv rfl))
theorem slEq_c (A B : Option Addr) (n c d : Nat) (L : List Int) (w : World) (hn : n ≤ 1099511627776) (hr : Rd w w.heap.size A (n * 6) (L.map (Value.int .i64))) (hr2 : Rd w w.heap.size B (n * 6) (L.map (Value.int .i64))) : Calls Try.prog 35 #[.slice A n c, .slice B n d] w (RetV w (.bool true)) := by
  have hLl : L.length = n * 6 := hr.len
  refine calls_FA Try.func35 rfl (n := 26) rfl (l := [(0, Value.slice A n c), (1, Value.slice B n d)]) rfl (by simp) (fun g => ?_)
  have hS := St.init w
  refine wp_seq ?_
  refine c_reg ?_
  refine q_seg (S := (fun x_ => St w x_ [])) [(4, Value.bool false)] [.no] True (by kernel_rfl) trivial hS ?_
  refine l_nil rfl ?_
  refine then_n ?_
  refine wp_seq ?_
  refine wp_seq ?_
  refine c_reg ?_
  refine q_seg (S := (fun x_ => St w x_ [])) [(10, Value.bool (!(decide (((n : Nat) : Int) = ((n : Nat) : Int))))), (9, Value.int .i64 ((n : Nat) : Int)), (8, Value.slice B n d), (7, Value.int .i64 ((n : Nat) : Int)), (6, Value.slice A n c)] [.no, .no, .no, .no, .no] True (by kernel_rfl) trivial hS ?_
  refine l_nil rfl ?_
  refine then_n ?_
  refine c_false (b := (!(decide (((n : Nat) : Int) = ((n : Nat) : Int))))) (by kernel_rfl) (nb (v := true) (decide_eq_true rfl)) ?_
  refine wp_skip ?_
  refine then_n ?_
  refine wp_seq ?_
  refine wp_seq ?_
  refine c_reg ?_
  refine q_seg (S := (fun x_ => St w x_ [])) [(13, Value.int .i64 0), (12, Value.int .i64 ((n : Nat) : Int)), (11, Value.slice A n c)] [.no, .no, .no] True (by kernel_rfl) trivial hS ?_
  refine l_nil rfl ?_
  refine then_n ?_
  refine wp_block ?_
  refine c_loop (X := Nat) (fun (k : Nat) => [(0, Value.slice A n c), (1, Value.slice B n d), (12, Value.int .i64 ((n : Nat) : Int)), (13, Value.int .i64 ((k : Nat) : Int))]) (fun (k : Nat) (wr : World) => (k ≤ n) ∧ St w wr []) (fun (k : Nat) => n - k) 0 ?_ ?_ ?_
  · exact (agree_cons (by kernel_rfl) (agree_cons (by kernel_rfl) (agree_cons (by kernel_rfl) (agree_cons (by kernel_rfl) agree_nil))))
  · exact ⟨Nat.zero_le _, hS⟩
  rintro k g2 w1 ⟨hkn, hS1⟩
  refine wp_seq ?_
  refine c_reg ?_
  refine q_seg (S := (fun x_ => St w x_ [])) [(14, Value.bool (decide (((k : Nat) : Int) < ((n : Nat) : Int))))] [.no] True (by kernel_rfl) trivial hS1 ?_
  refine l_nil rfl ?_
  refine then_n ?_
  refine wp_seq ?_
  rcases Bool.eq_false_or_eq_true (decide (((k : Nat) : Int) < ((n : Nat) : Int))) with hb3 | hb3
  · skip
    have hb3p := of_decide_eq_true hb3
    have hk_n : k < n := by omega
    obtain ⟨bA, offA, rfl, hbA, hclA⟩ := hr.2 (by omega)
    obtain ⟨bB, offB, rfl, hbB, hclB⟩ := hr2.2 (by omega)
    refine c_true (b := (decide (((k : Nat) : Int) < ((n : Nat) : Int)))) (by kernel_rfl) hb3 ?_
    refine wp_skip ?_
    refine then_n ?_
    refine wp_seq ?_
    refine wp_block ?_
    refine wp_seq ?_
    refine c_reg ?_
    refine q_seg (S := (fun x_ => St w x_ [])) [(5, Value.int .i64 ((k : Nat) : Int)), (15, Value.int .i64 ((k : Nat) : Int))] [.no, .no] True (by kernel_rfl) trivial hS1 ?_
    refine l_nil rfl ?_
    refine then_n ?_
    refine wp_seq ?_
    refine c_drawn [] (by kernel_rfl) hS1 (fun w4 hS4 => ?_)
    refine t_seg (S := (fun x_ => St w x_ [])) [(0, .no), (1, .no), (4, .no), (5, .no), (2, .no), (6, .no), (3, .v (Value.agg #[Value.int .i64 (za L (k * 6 + 0)), Value.int .i64 (za L (k * 6 + 1)), Value.int .i64 (za L (k * 6 + 2)), Value.int .i64 (za L (k * 6 + 3)), Value.int .i64 (za L (k * 6 + 4)), Value.int .i64 (za L (k * 6 + 5))])), (7, .v (Value.agg #[Value.int .i64 (za L (k * 6 + 0)), Value.int .i64 (za L (k * 6 + 1)), Value.int .i64 (za L (k * 6 + 2)), Value.int .i64 (za L (k * 6 + 3)), Value.int .i64 (za L (k * 6 + 4)), Value.int .i64 (za L (k * 6 + 5))])), (8, .no)] 0 #[true, true, true, true, true, true, true, true, true] [(24, Value.bool (!(((((za L (k * 6 + 0)) == (za L (k * 6 + 0))) && (((za L (k * 6 + 1)) == (za L (k * 6 + 1))) && true)) && (((za L (k * 6 + 2)) == (za L (k * 6 + 2))) && (((za L (k * 6 + 3)) == (za L (k * 6 + 3))) && ((((za L (k * 6 + 4)) == (za L (k * 6 + 4))) && (((za L (k * 6 + 5)) == (za L (k * 6 + 5))) && true)) && true))))))), (23, Value.agg #[Value.int .i64 (za L (k * 6 + 0)), Value.int .i64 (za L (k * 6 + 1)), Value.int .i64 (za L (k * 6 + 2)), Value.int .i64 (za L (k * 6 + 3)), Value.int .i64 (za L (k * 6 + 4)), Value.int .i64 (za L (k * 6 + 5))]), (19, Value.agg #[Value.int .i64 (za L (k * 6 + 0)), Value.int .i64 (za L (k * 6 + 1)), Value.int .i64 (za L (k * 6 + 2)), Value.int .i64 (za L (k * 6 + 3)), Value.int .i64 (za L (k * 6 + 4)), Value.int .i64 (za L (k * 6 + 5))]), (22, Value.pointer (some ⟨bB, offB + Int.toNat ((k : Nat) : Int) * 6, none⟩)), (18, Value.pointer (some ⟨bA, offA + Int.toNat ((k : Nat) : Int) * 6, none⟩)), (21, Value.int .i64 ((k : Nat) : Int)), (20, Value.slice (some ⟨bB, offB, none⟩) n d), (17, Value.int .i64 ((k : Nat) : Int)), (16, Value.slice (some ⟨bA, offA, none⟩) n c)] (((0 : Int) ≤ ((k : Nat) : Int)) ∧ (((k : Nat) : Int) < ((n : Nat) : Int)) ∧ ((0 : Int) ≤ ((k : Nat) : Int)) ∧ (((k : Nat) : Int) < ((n : Nat) : Int)) ∧ (LoadsAt Try.prog (fun x_ => St w x_ []) 37 ⟨bA, offA + Int.toNat ((k : Nat) : Int) * 6, none⟩ (Value.agg #[Value.int .i64 (za L (k * 6 + 0)), Value.int .i64 (za L (k * 6 + 1)), Value.int .i64 (za L (k * 6 + 2)), Value.int .i64 (za L (k * 6 + 3)), Value.int .i64 (za L (k * 6 + 4)), Value.int .i64 (za L (k * 6 + 5))])) ∧ (LoadsAt Try.prog (fun x_ => St w x_ []) 37 ⟨bB, offB + Int.toNat ((k : Nat) : Int) * 6, none⟩ (Value.agg #[Value.int .i64 (za L (k * 6 + 0)), Value.int .i64 (za L (k * 6 + 1)), Value.int .i64 (za L (k * 6 + 2)), Value.int .i64 (za L (k * 6 + 3)), Value.int .i64 (za L (k * 6 + 4)), Value.int .i64 (za L (k * 6 + 5))]))) (by kernel_rfl) (Qpanic.then (Qpanic.block (Qpanic.then (Qpanic.then (Qpanic.block (Qpanic.then Qpanic.bp)))))) rfl (by kernel_rfl) ⟨(by omega), (by omega), (by omega), (by omega), (ld_lowN (k := 6) (vs := [Value.int .i64 (za L (k * 6 + 0)), Value.int .i64 (za L (k * 6 + 1)), Value.int .i64 (za L (k * 6 + 2)), Value.int .i64 (za L (k * 6 + 3)), Value.int .i64 (za L (k * 6 + 4)), Value.int .i64 (za L (k * 6 + 5))]) (by kernel_rfl) rfl (rec_low (p := k * 6) (q := 6) hclA (by omega) (seg6 (by omega)))), (ld_lowN (k := 6) (vs := [Value.int .i64 (za L (k * 6 + 0)), Value.int .i64 (za L (k * 6 + 1)), Value.int .i64 (za L (k * 6 + 2)), Value.int .i64 (za L (k * 6 + 3)), Value.int .i64 (za L (k * 6 + 4)), Value.int .i64 (za L (k * 6 + 5))]) (by kernel_rfl) rfl (rec_low (p := k * 6) (q := 6) hclB (by omega) (seg6 (by omega))))⟩ hS4 ?_
    refine a_done (by kernel_rfl) ?_
    refine then_n ?_
    refine c_false (b := (!(((((za L (k * 6 + 0)) == (za L (k * 6 + 0))) && (((za L (k * 6 + 1)) == (za L (k * 6 + 1))) && true)) && (((za L (k * 6 + 2)) == (za L (k * 6 + 2))) && (((za L (k * 6 + 3)) == (za L (k * 6 + 3))) && ((((za L (k * 6 + 4)) == (za L (k * 6 + 4))) && (((za L (k * 6 + 5)) == (za L (k * 6 + 5))) && true)) && true))))))) (by kernel_rfl) (nb (v := true) (by simp)) ?_
    refine wp_skip ?_
    refine blk_n ?_
    refine then_n ?_
    refine c_reg ?_
    refine q_seg (S := (fun x_ => St w x_ [])) [(13, Value.int .i64 (((k : Nat) : Int) + (1 : Int))), (25, Value.int .i64 (((k : Nat) : Int) + (1 : Int)))] [.no, .no] ((InK .i64 (((k : Nat) : Int) + (1 : Int)))) (by kernel_rfl) (in64 (by omega) (by omega)) hS4 ?_
    refine l_nil rfl ?_
    refine then_n ?_
    refine round_end (k + 1) ?_ ?_ ?_
    · exact (agree_cons (by kernel_rfl) (agree_cons (by kernel_rfl) (agree_cons (by kernel_rfl) (agree_cons (by kernel_rfl) agree_nil))))
    · exact ⟨(by omega), hS4⟩
    · exact (by first | omega | (dsimp only; omega))
  · skip
    have hb3p := of_decide_eq_false hb3
    refine c_false (b := (decide (((k : Nat) : Int) < ((n : Nat) : Int)))) (by kernel_rfl) hb3 ?_
    refine wp_exit ?_
    refine then_x ?_
    refine then_x ?_
    refine blk_hit ?_
    refine then_n ?_
    refine wp_seq ?_
    refine c_reg ?_
    refine q_seg (S := (fun x_ => St w x_ [])) [(4, Value.bool true)] [.no] True (by kernel_rfl) trivial hS1 ?_
    refine l_nil rfl ?_
    refine then_n ?_
    refine wp_ret ?_
    exact c_end (S := (fun x_ => St w x_ [])) (rs := [.tmp 4]) rfl [] (v := Value.bool true) (C := True) (by kernel_rfl) trivial hS1 ((hS1.rv rfl))
theorem EqR_c (A B : Option Addr) (n c d : Nat) (L : List Int) (w : World) (hn : n ≤ 1099511627776) (hr : Rd w w.heap.size A (n * 6) (L.map (Value.int .i64))) (hr2 : Rd w w.heap.size B (n * 6) (L.map (Value.int .i64))) : Calls Try.prog 20 #[.slice A n c, .slice B n d] w (RetV w (.bool true)) := by
  have hLl : L.length = n * 6 := hr.len
  refine calls_FA Try.func20 rfl (n := 8) rfl (l := [(0, Value.slice A n c), (1, Value.slice B n d)]) rfl (by simp) (fun g => ?_)
  have hS := St.init w
  refine wp_seq ?_
  refine c_reg ?_
  refine q_seg (S := (fun x_ => St w x_ [])) [(4, Value.bool false)] [.no] True (by kernel_rfl) trivial hS ?_
  refine l_nil rfl ?_
  refine then_n ?_
  refine wp_seq ?_
  refine c_reg ?_
  refine q_seg (S := (fun x_ => St w x_ [])) [(6, Value.slice B n d), (5, Value.slice A n c)] [.no, .no] True (by kernel_rfl) trivial hS ?_
  refine l_op rfl rfl (fun K hK => op_callv (d := some 7) rfl rfl ⟨_, Try.func35, by kernel_rfl, by kernel_rfl⟩ (vs := [Value.slice A n c, Value.slice B n d]) (by kernel_rfl) (v := Value.bool true) (slEq_c A B n c d L w (by omega) (hS.rdlow hr) (hS.rdlow hr2)) hS (fun w1 hS1 => hK _ _ ?_))
  clear hK K
  refine q_seg (S := (fun x_ => St w x_ [])) [(4, Value.bool true)] [.no] True (by kernel_rfl) trivial hS1 ?_
  refine l_nil rfl ?_
  refine then_n ?_
  refine wp_ret ?_
  exact c_end (S := (fun x_ => St w x_ [])) (rs := [.tmp 4]) rfl [] (v := Value.bool true) (C := True) (by kernel_rfl) trivial hS1 ((hS1.rv rfl))
end Go.Proofs.Ytihecjcbgnpakaa
