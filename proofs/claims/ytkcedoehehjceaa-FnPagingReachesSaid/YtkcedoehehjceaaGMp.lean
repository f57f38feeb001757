/-
  Draws of cell maps.
-/
import Derived.Test.YtkcedoehehjceaaGDr
import Derived.Test.YtkcedoehehjceaaMapL
import Derived.Test.YtkcedoehehjceaaGTu
namespace Go.Proofs.Ytkcedoehehjceaa
open Go.RowKit
set_option maxRecDepth 100000

theorem big_c (A : Option Addr) (n c : Nat) (w : World) : Calls Try.prog 12 #[.slice A n c] w (RetV w (.bool (decide ((1048576 : Int) < ((n : Nat) : Int))))) := by
  refine calls_FA Try.func12 rfl (n := 6) rfl (l := [(0, Value.slice A n c)]) rfl (by simp) (fun g => ?_)
  have hS := St.init w
  refine wp_seq ?_
  refine c_reg ?_
  refine q_seg (S := (fun x_ => St w x_ [])) [(2, Value.bool false)] [.no] True (by kernel_rfl) trivial hS ?_
  refine l_nil rfl ?_
  refine then_n ?_
  refine wp_seq ?_
  refine c_reg ?_
  refine q_seg (S := (fun x_ => St w x_ [])) [(2, Value.bool (decide ((1048576 : Int) < ((n : Nat) : Int)))), (5, Value.bool (decide ((1048576 : Int) < ((n : Nat) : Int)))), (4, Value.int .i64 ((n : Nat) : Int)), (3, Value.slice A n c)] [.no, .no, .no, .no] True (by kernel_rfl) trivial hS ?_
  refine l_nil rfl ?_
  refine then_n ?_
  refine wp_ret ?_
  exact c_end (S := (fun x_ => St w x_ [])) (rs := [.tmp 2]) rfl [] (v := Value.bool (decide ((1048576 : Int) < ((n : Nat) : Int)))) (C := True) (by kernel_rfl) trivial hS ((hS.rv rfl))
theorem l10Join_c (A : Option Addr) (n c a b W : Nat) (ys : List It) (tl : List Res) (w0 w : World) (hS : St w0 w (Res.row (Value.slice A n c) 44 2 n (flat true ys) :: ((ys.map (It.row .i64 3)) ++ tl))) (hl0 : ys.length = n) (ho0 : okL .i64 (ys.map (con true))) (hw0 : wt (ys.map (con true)) ≤ W) (hW : W ≤ 1000000) (hn : n ≤ 1000000) (ha : a < n) (hb : b < n) : Calls Try.prog 53 #[.agg #[.slice A n c], .int .i64 ((a : Nat) : Int), .int .i64 ((b : Nat) : Int)] w (fun e w' => ∃ v own', e = .returned v ∧ St w0 w' own' ∧ (∃ (L' : List (Int × List Int)) (ys' : List It), v = .tuple #[] ∧ own' = (Res.row (Value.slice A n c) 44 2 n (flat true ys') :: ((ys'.map (It.row .i64 3)) ++ tl)) ∧ ys'.map (con true) = L' ∧ L'.length = n ∧ okL .i64 L' ∧ wt L' ≤ W + 2)) := by
  obtain ⟨bs, rfl⟩ := hS.row_at (List.mem_of_getElem? (i := 0) rfl) (by omega)
  have hcap := hS.row_cap (i := 0) rfl
  unfold maxLen at hcap
  obtain ⟨y1, hy1, _⟩ := get_of_lt (l := ys) (k := a) (by omega)
  obtain ⟨hy1a, hy1b, hy1c⟩ := el_facts hy1 ho0 hw0
  have hSb : St w0 w (Res.row (Value.slice y1.A y1.zs.length y1.c) 3 1 y1.zs.length (y1.zs.map (Value.int .i64)) :: Res.row (Value.slice (some ⟨bs, 0, none⟩) n c) 44 2 n (flat true ys) :: (((List.eraseIdx ys a).map (It.row .i64 3)) ++ tl)) := St.borE (κ := .i64) (tb := 3) [Res.row (Value.slice (some ⟨bs, 0, none⟩) n c) 44 2 n (flat true ys)] hS hy1
  refine calls_FA Try.func53 rfl (n := 34) rfl (l := [(0, Value.agg #[Value.slice (some ⟨bs, 0, none⟩) n c]), (1, Value.int .i64 ((a : Nat) : Int)), (2, Value.int .i64 ((b : Nat) : Int))]) rfl (by simp) (fun g => ?_)
  refine wp_seq ?_
  refine c_reg ?_
  refine l_op rfl rfl (fun K hK => op_box (d := some 3) rfl rfl [Value.slice (some ⟨bs, 0, none⟩) n c] (by kernel_rfl) hSb (fun blk2 w1 hS1 => hK _ _ ?_))
  clear hK K
  refine l_nil rfl ?_
  refine then_n ?_
  refine wp_seq ?_
  refine c_drawnS (S := (fun x_ => St w0 x_ (Res.box blk2 [Value.slice (some ⟨bs, 0, none⟩) n c] 32 :: Res.row (Value.slice (some ⟨bs, 0, none⟩) n c) 44 2 n (flat true ys) :: tl))) [14] (by kernel_rfl) hS1 (fun w3 hS3 => ?_)
  refine t_seg (S := (fun x_ => St w0 x_ (Res.box blk2 [Value.slice (some ⟨bs, 0, none⟩) n c] 32 :: Res.row (Value.slice (some ⟨bs, 0, none⟩) n c) 44 2 n (flat true ys) :: tl))) [(0, .no), (2, .no), (3, .no), (5, .no), (9, .no), (1, .v (Value.slice (some ⟨bs, 0, none⟩) n c)), (4, .v (Value.slice (some ⟨bs, 0, none⟩) n c)), (6, .no), (7, .no), (8, .v (Value.slice y1.A y1.zs.length y1.c))] 5 #[true, true, true, true, true, true, true, true, true, true, false, false, false, false, false] [(14, Value.slice y1.A y1.zs.length y1.c), (13, Value.pointer (some ⟨bs, 0 + Int.toNat ((a : Nat) : Int) * 2 + 1, none⟩)), (12, Value.pointer (some ⟨bs, 0 + Int.toNat ((a : Nat) : Int) * 2, none⟩)), (10, Value.slice (some ⟨bs, 0, none⟩) n c), (7, Value.slice (some ⟨bs, 0, none⟩) n c), (15, Value.int .i64 ((b : Nat) : Int)), (11, Value.int .i64 ((a : Nat) : Int)), (9, Value.pointer (some ⟨blk2, 0 + 0, none⟩)), (8, Value.int .i64 ((a : Nat) : Int)), (6, Value.pointer (some ⟨blk2, 0 + 0, none⟩))] ((LoadsAt Try.prog (fun x_ => St w0 x_ (Res.box blk2 [Value.slice (some ⟨bs, 0, none⟩) n c] 32 :: Res.row (Value.slice (some ⟨bs, 0, none⟩) n c) 44 2 n (flat true ys) :: tl)) 30 ⟨blk2, 0 + 0, none⟩ (Value.slice (some ⟨bs, 0, none⟩) n c)) ∧ (LoadsAt Try.prog (fun x_ => St w0 x_ (Res.box blk2 [Value.slice (some ⟨bs, 0, none⟩) n c] 32 :: Res.row (Value.slice (some ⟨bs, 0, none⟩) n c) 44 2 n (flat true ys) :: tl)) 30 ⟨blk2, 0 + 0, none⟩ (Value.slice (some ⟨bs, 0, none⟩) n c)) ∧ ((0 : Int) ≤ ((a : Nat) : Int)) ∧ (((a : Nat) : Int) < ((n : Nat) : Int)) ∧ (LoadsAt Try.prog (fun x_ => St w0 x_ (Res.box blk2 [Value.slice (some ⟨bs, 0, none⟩) n c] 32 :: Res.row (Value.slice (some ⟨bs, 0, none⟩) n c) 44 2 n (flat true ys) :: tl)) 35 ⟨bs, 0 + Int.toNat ((a : Nat) : Int) * 2 + 1, none⟩ (Value.slice y1.A y1.zs.length y1.c))) (by kernel_rfl) (Qpanic.then Qpanic.bp) rfl (by kernel_rfl) ⟨(ld_box (i := 0) rfl rfl (by kernel_rfl)), (ld_box (i := 0) rfl rfl (by kernel_rfl)), (by omega), (by omega), (ld_row (i := 1) rfl (flat_at1 (p := true) (r := 1) hy1 rfl (by simp only [csz, Int.toNat_natCast]; omega)) (by kernel_rfl))⟩ (hS3.sub (List.Sublist.cons_cons _ (List.Sublist.cons _ (List.Sublist.cons_cons _ (List.Sublist.trans (List.Sublist.refl _) (List.sublist_append_right _ _)))))) ?_
  refine a_op (i := 10) (fuel := 4) (listed' := #[true, true, true, true, true, true, true, true, true, true, true, false, false, false, false]) rfl rfl (by kernel_rfl) (by kernel_rfl) rfl (fun K hK => op_buildSlice (d := some 16) rfl rfl (e := 3) (by kernel_rfl) 1 (by kernel_rfl) (by decide) (by decide) [Value.int .i64 ((b : Nat) : Int)] (by kernel_rfl) rfl hS3 (fun blk5 w4 hS4 => hK _ _ (fun _ => (hS4.sub (List.Sublist.cons _ (List.Sublist.cons_cons _ (List.Sublist.cons _ (List.Sublist.cons_cons _ (List.Sublist.trans (List.Sublist.refl _) (List.sublist_append_right _ _)))))))) ?_))
  clear hK K
  refine a_op (i := 11) (fuel := 3) (listed' := #[true, true, true, true, true, true, true, true, true, true, true, true, false, false, false]) rfl rfl (by kernel_rfl) (by kernel_rfl) rfl (fun K hK => op_append (d := some 17) rfl rfl elInt hS4 (i := 2) rfl rfl rfl (news := [Value.int .i64 ((b : Nat) : Int)]) (hS4.rd (List.mem_of_getElem? (i := 0) rfl)) (all_one (by rfl)) (by omega) (by omega) (fun v7 w6 hS6 => hK _ _ (fun _ => (hS6.sub (List.Sublist.cons _ (List.Sublist.cons_cons _ (List.Sublist.cons _ (List.Sublist.cons_cons _ (List.Sublist.trans (List.Sublist.refl _) (List.sublist_append_right _ _)))))))) ?_))
  clear hK K
  obtain ⟨hlv7, Av7, cv7, hvv7, hnv7, hmv7⟩ := hS6.row_slice (List.mem_of_getElem? (i := 2) rfl)
  subst hvv7
  refine t_seg (S := (fun x_ => St w0 x_ (Res.box blk2 [Value.slice (some ⟨bs, 0, none⟩) n c] 32 :: Res.row (Value.slice (some ⟨bs, 0, none⟩) n c) 44 2 n (flat true ys) :: tl))) [(12, .no), (13, .no)] 1 #[true, true, true, true, true, true, true, true, true, true, true, true, true, true, false] [(19, Value.pointer (some ⟨bs, 0 + Int.toNat ((a : Nat) : Int) * 2 + 1, none⟩)), (18, Value.pointer (some ⟨bs, 0 + Int.toNat ((a : Nat) : Int) * 2, none⟩))] (((0 : Int) ≤ ((a : Nat) : Int)) ∧ (((a : Nat) : Int) < ((n : Nat) : Int))) (by kernel_rfl) (Qpanic.then Qpanic.bp) rfl (by kernel_rfl) ⟨(by omega), (by omega)⟩ (hS6.sub (List.Sublist.cons _ (List.Sublist.cons_cons _ (List.Sublist.cons _ (List.Sublist.cons_cons _ (List.Sublist.trans (List.Sublist.refl _) (List.sublist_append_right _ _))))))) ?_
  have hlnw8 := hS6.row_len (List.mem_of_getElem? (i := 3) rfl)
  refine a_op (i := 14) (fuel := 0) (listed' := #[true, true, true, true, true, true, true, true, true, true, true, true, true, true, true]) rfl rfl (by kernel_rfl) (by kernel_rfl) rfl (fun K hK => op_storeRow (d := none) rfl rfl (i := 3) (b := bs) (off := 0 + Int.toNat ((a : Nat) : Int) * 2 + 1) (m := n) (cap := c) (e := 44) (sz := 2) (xs := (flat true ys)) (by kernel_rfl) (by kernel_rfl) [Value.slice Av7 (y1.zs.length + 1) cv7] (by kernel_rfl) (by kernel_rfl) (by rw [hlnw8]; simp only [List.length_cons, List.length_nil]; omega) (by rfl) (Res.row (Value.slice (some ⟨blk5, 0, none⟩) 1 1) 3 1 1 ([Value.int .i64 ((b : Nat) : Int)]) :: Res.box blk2 [Value.slice (some ⟨bs, 0, none⟩) n c] 32 :: Res.row (Value.slice Av7 (y1.zs.length + 1) cv7) 3 1 (y1.zs.length + 1) ((y1.zs.map (Value.int .i64)) ++ [Value.int .i64 ((b : Nat) : Int)]) :: Res.row (Value.slice (some ⟨bs, 0, none⟩) n c) 44 2 n (List.take (0 + Int.toNat ((a : Nat) : Int) * 2 + 1) (flat true ys) ++ [Value.slice Av7 (y1.zs.length + 1) cv7] ++ List.drop (0 + Int.toNat ((a : Nat) : Int) * 2 + 1 + List.length [Value.slice Av7 (y1.zs.length + 1) cv7]) (flat true ys)) :: (((List.eraseIdx ys a).map (It.row .i64 3)) ++ tl)) (by kernel_rfl) hS6 (fun w8 hS8 => hK _ _ (fun h => absurd h (by decide)) ?_))
  clear hK K
  replace hS8 := hS8.eqv (own' := (Res.row (Value.slice (some ⟨blk5, 0, none⟩) 1 1) 3 1 1 ([Value.int .i64 ((b : Nat) : Int)]) :: Res.box blk2 [Value.slice (some ⟨bs, 0, none⟩) n c] 32 :: Res.row (Value.slice Av7 (y1.zs.length + 1) cv7) 3 1 (y1.zs.length + 1) ((y1.zs.map (Value.int .i64)) ++ [Value.int .i64 ((b : Nat) : Int)]) :: Res.row (Value.slice (some ⟨bs, 0, none⟩) n c) 44 2 n (flat true (List.set ys a (It.mk y1.s Av7 cv7 (y1.zs ++ [((b : Nat) : Int)])))) :: (((List.eraseIdx ys a).map (It.row .i64 3)) ++ tl))) (by rw [flat_set_v hy1 (It.mk y1.s Av7 cv7 (y1.zs ++ [((b : Nat) : Int)])) rfl _ (by omega) [Value.slice Av7 (y1.zs.length + 1) cv7] (by simp [It.val])])
  have hS8s1 : St w0 w8 (Res.row (Value.slice (some ⟨blk5, 0, none⟩) 1 1) 3 1 1 ([Value.int .i64 ((b : Nat) : Int)]) :: Res.box blk2 [Value.slice (some ⟨bs, 0, none⟩) n c] 32 :: Res.row (Value.slice Av7 (List.length (y1.zs ++ [((b : Nat) : Int)])) cv7) 3 1 (List.length (y1.zs ++ [((b : Nat) : Int)])) ((y1.zs ++ [((b : Nat) : Int)]).map (Value.int .i64)) :: Res.row (Value.slice (some ⟨bs, 0, none⟩) n c) 44 2 n (flat true (List.set ys a (It.mk y1.s Av7 cv7 (y1.zs ++ [((b : Nat) : Int)])))) :: (((List.eraseIdx ys a).map (It.row .i64 3)) ++ tl)) := hS8.eqv (by simp)
  have hS8s1s2 : St w0 w8 (Res.row (Value.slice (some ⟨blk5, 0, none⟩) 1 1) 3 1 1 ([Value.int .i64 ((b : Nat) : Int)]) :: Res.box blk2 [Value.slice (some ⟨bs, 0, none⟩) n c] 32 :: Res.row (Value.slice (some ⟨bs, 0, none⟩) n c) 44 2 n (flat true (List.set ys a (It.mk y1.s Av7 cv7 (y1.zs ++ [((b : Nat) : Int)])))) :: (((List.set ys a (It.mk y1.s Av7 cv7 (y1.zs ++ [((b : Nat) : Int)]))).map (It.row .i64 3)) ++ tl)) := St.unborE (κ := .i64) (tb := 3) (ys := ys) (y' := (It.mk y1.s Av7 cv7 (y1.zs ++ [((b : Nat) : Int)]))) (k := a) [Res.row (Value.slice (some ⟨blk5, 0, none⟩) 1 1) 3 1 1 ([Value.int .i64 ((b : Nat) : Int)]), Res.box blk2 [Value.slice (some ⟨bs, 0, none⟩) n c] 32, Res.row (Value.slice (some ⟨bs, 0, none⟩) n c) 44 2 n (flat true (List.set ys a (It.mk y1.s Av7 cv7 (y1.zs ++ [((b : Nat) : Int)]))))] (hS8s1.front 2 rfl) (by omega)
  obtain ⟨hl1, ho1, hw1, _⟩ := set_facts (y' := (It.mk y1.s Av7 cv7 (y1.zs ++ [((b : Nat) : Int)]))) hy1 hl0 ho0 hw0 hy1a (okz_snoc64 hy1b (by omega) (by omega))
  simp only [List.length_append, List.length_singleton] at hw1
  replace hw1 : wt (List.map (con true) (List.set ys a (It.mk y1.s Av7 cv7 (y1.zs ++ [((b : Nat) : Int)])))) ≤ W + 1 := by omega
  obtain ⟨y2, hy2, _⟩ := get_of_lt (l := (List.set ys a (It.mk y1.s Av7 cv7 (y1.zs ++ [((b : Nat) : Int)])))) (k := b) (by omega)
  obtain ⟨hy2a, hy2b, hy2c⟩ := el_facts hy2 ho1 hw1
  have hS8s1s2s3 : St w0 w8 (Res.row (Value.slice y2.A y2.zs.length y2.c) 3 1 y2.zs.length (y2.zs.map (Value.int .i64)) :: Res.row (Value.slice (some ⟨blk5, 0, none⟩) 1 1) 3 1 1 ([Value.int .i64 ((b : Nat) : Int)]) :: Res.box blk2 [Value.slice (some ⟨bs, 0, none⟩) n c] 32 :: Res.row (Value.slice (some ⟨bs, 0, none⟩) n c) 44 2 n (flat true (List.set ys a (It.mk y1.s Av7 cv7 (y1.zs ++ [((b : Nat) : Int)])))) :: (((List.eraseIdx (List.set ys a (It.mk y1.s Av7 cv7 (y1.zs ++ [((b : Nat) : Int)]))) b).map (It.row .i64 3)) ++ tl)) := St.borE (κ := .i64) (tb := 3) (ys := (List.set ys a (It.mk y1.s Av7 cv7 (y1.zs ++ [((b : Nat) : Int)])))) (k := b) [Res.row (Value.slice (some ⟨blk5, 0, none⟩) 1 1) 3 1 1 ([Value.int .i64 ((b : Nat) : Int)]), Res.box blk2 [Value.slice (some ⟨bs, 0, none⟩) n c] 32, Res.row (Value.slice (some ⟨bs, 0, none⟩) n c) 44 2 n (flat true (List.set ys a (It.mk y1.s Av7 cv7 (y1.zs ++ [((b : Nat) : Int)]))))] hS8s1s2 hy2
  refine a_done (by kernel_rfl) ?_
  refine then_n ?_
  refine c_drawnS (S := (fun x_ => St w0 x_ (Res.box blk2 [Value.slice (some ⟨bs, 0, none⟩) n c] 32 :: Res.row (Value.slice (some ⟨bs, 0, none⟩) n c) 44 2 n (flat true (List.set ys a (It.mk y1.s Av7 cv7 (y1.zs ++ [((b : Nat) : Int)])))) :: tl))) [14] (by kernel_rfl) hS8s1s2s3 (fun w9 hS9 => ?_)
  refine t_seg (S := (fun x_ => St w0 x_ (Res.box blk2 [Value.slice (some ⟨bs, 0, none⟩) n c] 32 :: Res.row (Value.slice (some ⟨bs, 0, none⟩) n c) 44 2 n (flat true (List.set ys a (It.mk y1.s Av7 cv7 (y1.zs ++ [((b : Nat) : Int)])))) :: tl))) [(0, .no), (2, .no), (3, .no), (5, .no), (9, .no), (1, .v (Value.slice (some ⟨bs, 0, none⟩) n c)), (4, .v (Value.slice (some ⟨bs, 0, none⟩) n c)), (6, .no), (7, .no), (8, .v (Value.slice y2.A y2.zs.length y2.c))] 5 #[true, true, true, true, true, true, true, true, true, true, false, false, false, false, false] [(28, Value.slice y2.A y2.zs.length y2.c), (27, Value.pointer (some ⟨bs, 0 + Int.toNat ((b : Nat) : Int) * 2 + 1, none⟩)), (26, Value.pointer (some ⟨bs, 0 + Int.toNat ((b : Nat) : Int) * 2, none⟩)), (24, Value.slice (some ⟨bs, 0, none⟩) n c), (21, Value.slice (some ⟨bs, 0, none⟩) n c), (29, Value.int .i64 ((a : Nat) : Int)), (25, Value.int .i64 ((b : Nat) : Int)), (23, Value.pointer (some ⟨blk2, 0 + 0, none⟩)), (22, Value.int .i64 ((b : Nat) : Int)), (20, Value.pointer (some ⟨blk2, 0 + 0, none⟩))] ((LoadsAt Try.prog (fun x_ => St w0 x_ (Res.box blk2 [Value.slice (some ⟨bs, 0, none⟩) n c] 32 :: Res.row (Value.slice (some ⟨bs, 0, none⟩) n c) 44 2 n (flat true (List.set ys a (It.mk y1.s Av7 cv7 (y1.zs ++ [((b : Nat) : Int)])))) :: tl)) 30 ⟨blk2, 0 + 0, none⟩ (Value.slice (some ⟨bs, 0, none⟩) n c)) ∧ (LoadsAt Try.prog (fun x_ => St w0 x_ (Res.box blk2 [Value.slice (some ⟨bs, 0, none⟩) n c] 32 :: Res.row (Value.slice (some ⟨bs, 0, none⟩) n c) 44 2 n (flat true (List.set ys a (It.mk y1.s Av7 cv7 (y1.zs ++ [((b : Nat) : Int)])))) :: tl)) 30 ⟨blk2, 0 + 0, none⟩ (Value.slice (some ⟨bs, 0, none⟩) n c)) ∧ ((0 : Int) ≤ ((b : Nat) : Int)) ∧ (((b : Nat) : Int) < ((n : Nat) : Int)) ∧ (LoadsAt Try.prog (fun x_ => St w0 x_ (Res.box blk2 [Value.slice (some ⟨bs, 0, none⟩) n c] 32 :: Res.row (Value.slice (some ⟨bs, 0, none⟩) n c) 44 2 n (flat true (List.set ys a (It.mk y1.s Av7 cv7 (y1.zs ++ [((b : Nat) : Int)])))) :: tl)) 35 ⟨bs, 0 + Int.toNat ((b : Nat) : Int) * 2 + 1, none⟩ (Value.slice y2.A y2.zs.length y2.c))) (by kernel_rfl) Qpanic.bp rfl (by kernel_rfl) ⟨(ld_box (i := 0) rfl rfl (by kernel_rfl)), (ld_box (i := 0) rfl rfl (by kernel_rfl)), (by omega), (by omega), (ld_row (i := 1) rfl (flat_at1 (p := true) (r := 1) hy2 rfl (by simp only [csz, Int.toNat_natCast]; omega)) (by kernel_rfl))⟩ (hS9.sub (List.Sublist.cons _ (List.Sublist.cons _ (List.Sublist.cons_cons _ (List.Sublist.cons_cons _ (List.Sublist.trans (List.Sublist.refl _) (List.sublist_append_right _ _))))))) ?_
  refine a_op (i := 10) (fuel := 4) (listed' := #[true, true, true, true, true, true, true, true, true, true, true, false, false, false, false]) rfl rfl (by kernel_rfl) (by kernel_rfl) rfl (fun K hK => op_buildSlice (d := some 30) rfl rfl (e := 3) (by kernel_rfl) 1 (by kernel_rfl) (by decide) (by decide) [Value.int .i64 ((a : Nat) : Int)] (by kernel_rfl) rfl hS9 (fun blk11 w10 hS10 => hK _ _ (fun _ => (hS10.sub (List.Sublist.cons _ (List.Sublist.cons _ (List.Sublist.cons _ (List.Sublist.cons_cons _ (List.Sublist.cons_cons _ (List.Sublist.trans (List.Sublist.refl _) (List.sublist_append_right _ _))))))))) ?_))
  clear hK K
  refine a_op (i := 11) (fuel := 3) (listed' := #[true, true, true, true, true, true, true, true, true, true, true, true, false, false, false]) rfl rfl (by kernel_rfl) (by kernel_rfl) rfl (fun K hK => op_append (d := some 31) rfl rfl elInt hS10 (i := 1) rfl rfl rfl (news := [Value.int .i64 ((a : Nat) : Int)]) (hS10.rd (List.mem_of_getElem? (i := 0) rfl)) (all_one (by rfl)) (by omega) (by omega) (fun v13 w12 hS12 => hK _ _ (fun _ => (hS12.sub (List.Sublist.cons _ (List.Sublist.cons _ (List.Sublist.cons _ (List.Sublist.cons_cons _ (List.Sublist.cons_cons _ (List.Sublist.trans (List.Sublist.refl _) (List.sublist_append_right _ _))))))))) ?_))
  clear hK K
  obtain ⟨hlv13, Av13, cv13, hvv13, hnv13, hmv13⟩ := hS12.row_slice (List.mem_of_getElem? (i := 1) rfl)
  subst hvv13
  refine t_seg (S := (fun x_ => St w0 x_ (Res.box blk2 [Value.slice (some ⟨bs, 0, none⟩) n c] 32 :: Res.row (Value.slice (some ⟨bs, 0, none⟩) n c) 44 2 n (flat true (List.set ys a (It.mk y1.s Av7 cv7 (y1.zs ++ [((b : Nat) : Int)])))) :: tl))) [(12, .no), (13, .no)] 1 #[true, true, true, true, true, true, true, true, true, true, true, true, true, true, false] [(33, Value.pointer (some ⟨bs, 0 + Int.toNat ((b : Nat) : Int) * 2 + 1, none⟩)), (32, Value.pointer (some ⟨bs, 0 + Int.toNat ((b : Nat) : Int) * 2, none⟩))] (((0 : Int) ≤ ((b : Nat) : Int)) ∧ (((b : Nat) : Int) < ((n : Nat) : Int))) (by kernel_rfl) Qpanic.bp rfl (by kernel_rfl) ⟨(by omega), (by omega)⟩ (hS12.sub (List.Sublist.cons _ (List.Sublist.cons _ (List.Sublist.cons _ (List.Sublist.cons_cons _ (List.Sublist.cons_cons _ (List.Sublist.trans (List.Sublist.refl _) (List.sublist_append_right _ _)))))))) ?_
  have hlnw14 := hS12.row_len (List.mem_of_getElem? (i := 4) rfl)
  refine a_op (i := 14) (fuel := 0) (listed' := #[true, true, true, true, true, true, true, true, true, true, true, true, true, true, true]) rfl rfl (by kernel_rfl) (by kernel_rfl) rfl (fun K hK => op_storeRow (d := none) rfl rfl (i := 4) (b := bs) (off := 0 + Int.toNat ((b : Nat) : Int) * 2 + 1) (m := n) (cap := c) (e := 44) (sz := 2) (xs := (flat true (List.set ys a (It.mk y1.s Av7 cv7 (y1.zs ++ [((b : Nat) : Int)]))))) (by kernel_rfl) (by kernel_rfl) [Value.slice Av13 (y2.zs.length + 1) cv13] (by kernel_rfl) (by kernel_rfl) (by rw [hlnw14]; simp only [List.length_cons, List.length_nil]; omega) (by rfl) (Res.row (Value.slice (some ⟨blk11, 0, none⟩) 1 1) 3 1 1 ([Value.int .i64 ((a : Nat) : Int)]) :: Res.row (Value.slice Av13 (y2.zs.length + 1) cv13) 3 1 (y2.zs.length + 1) ((y2.zs.map (Value.int .i64)) ++ [Value.int .i64 ((a : Nat) : Int)]) :: Res.row (Value.slice (some ⟨blk5, 0, none⟩) 1 1) 3 1 1 ([Value.int .i64 ((b : Nat) : Int)]) :: Res.box blk2 [Value.slice (some ⟨bs, 0, none⟩) n c] 32 :: Res.row (Value.slice (some ⟨bs, 0, none⟩) n c) 44 2 n (List.take (0 + Int.toNat ((b : Nat) : Int) * 2 + 1) (flat true (List.set ys a (It.mk y1.s Av7 cv7 (y1.zs ++ [((b : Nat) : Int)])))) ++ [Value.slice Av13 (y2.zs.length + 1) cv13] ++ List.drop (0 + Int.toNat ((b : Nat) : Int) * 2 + 1 + List.length [Value.slice Av13 (y2.zs.length + 1) cv13]) (flat true (List.set ys a (It.mk y1.s Av7 cv7 (y1.zs ++ [((b : Nat) : Int)]))))) :: (((List.eraseIdx (List.set ys a (It.mk y1.s Av7 cv7 (y1.zs ++ [((b : Nat) : Int)]))) b).map (It.row .i64 3)) ++ tl)) (by kernel_rfl) hS12 (fun w14 hS14 => hK _ _ (fun h => absurd h (by decide)) ?_))
  clear hK K
  replace hS14 := hS14.eqv (own' := (Res.row (Value.slice (some ⟨blk11, 0, none⟩) 1 1) 3 1 1 ([Value.int .i64 ((a : Nat) : Int)]) :: Res.row (Value.slice Av13 (y2.zs.length + 1) cv13) 3 1 (y2.zs.length + 1) ((y2.zs.map (Value.int .i64)) ++ [Value.int .i64 ((a : Nat) : Int)]) :: Res.row (Value.slice (some ⟨blk5, 0, none⟩) 1 1) 3 1 1 ([Value.int .i64 ((b : Nat) : Int)]) :: Res.box blk2 [Value.slice (some ⟨bs, 0, none⟩) n c] 32 :: Res.row (Value.slice (some ⟨bs, 0, none⟩) n c) 44 2 n (flat true (List.set (List.set ys a (It.mk y1.s Av7 cv7 (y1.zs ++ [((b : Nat) : Int)]))) b (It.mk y2.s Av13 cv13 (y2.zs ++ [((a : Nat) : Int)])))) :: (((List.eraseIdx (List.set ys a (It.mk y1.s Av7 cv7 (y1.zs ++ [((b : Nat) : Int)]))) b).map (It.row .i64 3)) ++ tl))) (by rw [flat_set_v hy2 (It.mk y2.s Av13 cv13 (y2.zs ++ [((a : Nat) : Int)])) rfl _ (by omega) [Value.slice Av13 (y2.zs.length + 1) cv13] (by simp [It.val])])
  have hS14s4 : St w0 w14 (Res.row (Value.slice (some ⟨blk11, 0, none⟩) 1 1) 3 1 1 ([Value.int .i64 ((a : Nat) : Int)]) :: Res.row (Value.slice Av13 (List.length (y2.zs ++ [((a : Nat) : Int)])) cv13) 3 1 (List.length (y2.zs ++ [((a : Nat) : Int)])) ((y2.zs ++ [((a : Nat) : Int)]).map (Value.int .i64)) :: Res.row (Value.slice (some ⟨blk5, 0, none⟩) 1 1) 3 1 1 ([Value.int .i64 ((b : Nat) : Int)]) :: Res.box blk2 [Value.slice (some ⟨bs, 0, none⟩) n c] 32 :: Res.row (Value.slice (some ⟨bs, 0, none⟩) n c) 44 2 n (flat true (List.set (List.set ys a (It.mk y1.s Av7 cv7 (y1.zs ++ [((b : Nat) : Int)]))) b (It.mk y2.s Av13 cv13 (y2.zs ++ [((a : Nat) : Int)])))) :: (((List.eraseIdx (List.set ys a (It.mk y1.s Av7 cv7 (y1.zs ++ [((b : Nat) : Int)]))) b).map (It.row .i64 3)) ++ tl)) := hS14.eqv (by simp)
  have hS14s4s5 : St w0 w14 (Res.row (Value.slice (some ⟨blk11, 0, none⟩) 1 1) 3 1 1 ([Value.int .i64 ((a : Nat) : Int)]) :: Res.row (Value.slice (some ⟨blk5, 0, none⟩) 1 1) 3 1 1 ([Value.int .i64 ((b : Nat) : Int)]) :: Res.box blk2 [Value.slice (some ⟨bs, 0, none⟩) n c] 32 :: Res.row (Value.slice (some ⟨bs, 0, none⟩) n c) 44 2 n (flat true (List.set (List.set ys a (It.mk y1.s Av7 cv7 (y1.zs ++ [((b : Nat) : Int)]))) b (It.mk y2.s Av13 cv13 (y2.zs ++ [((a : Nat) : Int)])))) :: (((List.set (List.set ys a (It.mk y1.s Av7 cv7 (y1.zs ++ [((b : Nat) : Int)]))) b (It.mk y2.s Av13 cv13 (y2.zs ++ [((a : Nat) : Int)]))).map (It.row .i64 3)) ++ tl)) := St.unborE (κ := .i64) (tb := 3) (ys := (List.set ys a (It.mk y1.s Av7 cv7 (y1.zs ++ [((b : Nat) : Int)])))) (y' := (It.mk y2.s Av13 cv13 (y2.zs ++ [((a : Nat) : Int)]))) (k := b) [Res.row (Value.slice (some ⟨blk11, 0, none⟩) 1 1) 3 1 1 ([Value.int .i64 ((a : Nat) : Int)]), Res.row (Value.slice (some ⟨blk5, 0, none⟩) 1 1) 3 1 1 ([Value.int .i64 ((b : Nat) : Int)]), Res.box blk2 [Value.slice (some ⟨bs, 0, none⟩) n c] 32, Res.row (Value.slice (some ⟨bs, 0, none⟩) n c) 44 2 n (flat true (List.set (List.set ys a (It.mk y1.s Av7 cv7 (y1.zs ++ [((b : Nat) : Int)]))) b (It.mk y2.s Av13 cv13 (y2.zs ++ [((a : Nat) : Int)]))))] (hS14s4.front 1 rfl) (by omega)
  obtain ⟨hl2, ho2, hw2, _⟩ := set_facts (y' := (It.mk y2.s Av13 cv13 (y2.zs ++ [((a : Nat) : Int)]))) hy2 hl1 ho1 hw1 hy2a (okz_snoc64 hy2b (by omega) (by omega))
  simp only [List.length_append, List.length_singleton] at hw2
  replace hw2 : wt (List.map (con true) (List.set (List.set ys a (It.mk y1.s Av7 cv7 (y1.zs ++ [((b : Nat) : Int)]))) b (It.mk y2.s Av13 cv13 (y2.zs ++ [((a : Nat) : Int)])))) ≤ W + 2 := by omega
  refine a_done (by kernel_rfl) ?_
  refine c_endN ?_
  have hS14s4s5s6 : St w0 w14 (Res.row (Value.slice (some ⟨bs, 0, none⟩) n c) 44 2 n (flat true (List.set (List.set ys a (It.mk y1.s Av7 cv7 (y1.zs ++ [((b : Nat) : Int)]))) b (It.mk y2.s Av13 cv13 (y2.zs ++ [((a : Nat) : Int)])))) :: (((List.set (List.set ys a (It.mk y1.s Av7 cv7 (y1.zs ++ [((b : Nat) : Int)]))) b (It.mk y2.s Av13 cv13 (y2.zs ++ [((a : Nat) : Int)]))).map (It.row .i64 3)) ++ tl)) := (hS14s4s5.sub (List.Sublist.cons _ (List.Sublist.cons _ (List.Sublist.cons _ (List.Sublist.cons_cons _ (List.Sublist.append (List.Sublist.refl _) (List.Sublist.refl _)))))))
  exact c_end (S := (fun x_ => St w0 x_ (Res.row (Value.slice (some ⟨blk11, 0, none⟩) 1 1) 3 1 1 ([Value.int .i64 ((a : Nat) : Int)]) :: Res.row (Value.slice (some ⟨blk5, 0, none⟩) 1 1) 3 1 1 ([Value.int .i64 ((b : Nat) : Int)]) :: Res.box blk2 [Value.slice (some ⟨bs, 0, none⟩) n c] 32 :: Res.row (Value.slice (some ⟨bs, 0, none⟩) n c) 44 2 n (flat true (List.set (List.set ys a (It.mk y1.s Av7 cv7 (y1.zs ++ [((b : Nat) : Int)]))) b (It.mk y2.s Av13 cv13 (y2.zs ++ [((a : Nat) : Int)])))) :: (((List.set (List.set ys a (It.mk y1.s Av7 cv7 (y1.zs ++ [((b : Nat) : Int)]))) b (It.mk y2.s Av13 cv13 (y2.zs ++ [((a : Nat) : Int)]))).map (It.row .i64 3)) ++ tl)))) (rs := []) rfl [] (v := Value.tuple #[]) (C := True) (by kernel_rfl) trivial hS14s4s5 (⟨_, _, rfl, hS14s4s5s6, ⟨_, _, rfl, rfl, rfl, (by rw [List.length_map]; exact hl2), ho2, hw2⟩⟩)
theorem l10Draw_s_c (b : Nat) (A : Option Addr) (n c : Nat) (i h : Int)  (tl : List Res) (w0 w : World) (hS : St w0 w (Res.box b [Value.slice A n c, Value.int .i64 i, Value.int .i64 h] 70 :: tl)) (hC : CurI w0 A n i)  : Calls Try.prog 47 #[.pointer (some ⟨b, 0, none⟩)] w (fun e w' => ∃ v own', e = .returned v ∧ St w0 w' own' ∧ (∃ (i' h' : Int) (l_ : List (Int × List Int)) (l_A : Option Addr) (l_c : Nat) (l_y : List It), v = Value.agg #[Value.slice l_A (List.length l_) l_c] ∧ own' = (Res.row (Value.slice l_A (List.length l_) l_c) 44 2 (List.length l_) (flat true l_y) :: Res.box b [Value.slice A n c, Value.int .i64 i', Value.int .i64 h'] 70 :: (((l_y.map (It.row .i64 3)) ++ tl))) ∧ CurI w0 A n i' ∧ (l_y.map (con true) = l_) ∧ (okL .i64 l_) ∧ (List.length l_ ≤ 5) ∧ (2 ≤ List.length l_) ∧ (wt l_ ≤ 200))) := by
  obtain ⟨hClo, hChi, hCn, _⟩ := id hC
  refine calls_FA Try.func47 rfl (n := 85) rfl (l := [(0, Value.pointer (some ⟨b, 0, none⟩))]) rfl (by simp) (fun g => ?_)
  refine wp_seq ?_
  refine c_reg ?_
  refine l_op rfl rfl (fun K hK => op_alloc (d := some 2) rfl rfl [Value.slice none 0 0] (by kernel_rfl) hS (fun blk2 w1 hS1 => hK _ _ ?_))
  clear hK K
  refine l_nil rfl ?_
  refine then_n ?_
  refine wp_seq ?_
  refine c_reg ?_
  refine q_seg (S := (fun x_ => St w0 x_ (Res.box blk2 [Value.slice none 0 0] 32 :: Res.box b [Value.slice A n c, Value.int .i64 i, Value.int .i64 h] 70 :: tl))) [(11, Value.agg #[Value.slice none 0 0])] [.no] True (by kernel_rfl) trivial hS1 ?_
  refine l_op rfl rfl (fun K hK => op_alloc (d := some 3) rfl rfl [Value.slice none 0 0] (by kernel_rfl) hS1 (fun blk4 w3 hS3 => hK _ _ ?_))
  clear hK K
  refine l_op rfl rfl (fun K hK => op_store (d := none) rfl rfl (i := 0) (b := blk4) (off := 0) (cs := [Value.slice none 0 0]) (bt := 32) (by kernel_rfl) (by kernel_rfl) [Value.slice none 0 0] (by kernel_rfl) (by kernel_rfl) (Nat.le_of_ble_eq_true (by kernel_rfl)) (by kernel_rfl) (Res.box blk4 [Value.slice none 0 0] 32 :: Res.box blk2 [Value.slice none 0 0] 32 :: Res.box b [Value.slice A n c, Value.int .i64 i, Value.int .i64 h] 70 :: tl) (by kernel_rfl) hS3 (fun w5 hS5 => hK _ _ ?_))
  clear hK K
  refine l_nil rfl ?_
  refine then_n ?_
  refine wp_seq ?_
  refine c_reg ?_
  refine q_seg (S := (fun x_ => St w0 x_ (Res.box blk4 [Value.slice none 0 0] 32 :: Res.box blk2 [Value.slice none 0 0] 32 :: Res.box b [Value.slice A n c, Value.int .i64 i, Value.int .i64 h] 70 :: tl))) [(12, Value.pointer (some ⟨b, 0, none⟩))] [.no] True (by kernel_rfl) trivial hS5 ?_
  refine l_op rfl rfl (fun K hK => op_callm (d := some 13) rfl rfl ⟨_, Try.func38, by kernel_rfl, by kernel_rfl⟩ (vs := [Value.pointer (some ⟨b, 0, none⟩), Value.int .i64 4]) (by kernel_rfl) (l1Below_s_c b A n c i h (4 : Int) _ w0 w5 (hS5.front 2 rfl) hC (by omega)) (fun v7 new8 w6 Rw6 hS6 => ?_))
  obtain ⟨ix10, hx11, xd9, rfl, rfl, hC12, hf13, hf14⟩ := Rw6
  refine hK _ _ ?_
  clear hK K
  refine q_seg (S := (fun x_ => St w0 x_ (Res.box b [Value.slice A n c, Value.int .i64 ix10, Value.int .i64 hx11] 70 :: Res.box blk4 [Value.slice none 0 0] 32 :: Res.box blk2 [Value.slice none 0 0] 32 :: tl))) [(4, Value.int .i64 ((2 : Int) + xd9)), (14, Value.int .i64 ((2 : Int) + xd9))] [.no, .no] ((InK .i64 ((2 : Int) + xd9))) (by kernel_rfl) (in64 (by omega) (by omega)) hS6 ?_
  refine l_nil rfl ?_
  refine then_n ?_
  refine wp_seq ?_
  refine wp_seq ?_
  refine c_reg ?_
  refine q_seg (S := (fun x_ => St w0 x_ (Res.box b [Value.slice A n c, Value.int .i64 ix10, Value.int .i64 hx11] 70 :: Res.box blk4 [Value.slice none 0 0] 32 :: Res.box blk2 [Value.slice none 0 0] 32 :: tl))) [(5, Value.int .i64 0)] [.no] True (by kernel_rfl) trivial hS6 ?_
  refine l_nil rfl ?_
  refine then_n ?_
  refine wp_block ?_
  have hS6s1 : St w0 w6 (Res.row (Value.slice none 0 0) 44 2 0 ([]) :: Res.box b [Value.slice A n c, Value.int .i64 ix10, Value.int .i64 hx11] 70 :: Res.box blk4 [Value.slice none 0 0] 32 :: Res.box blk2 [Value.slice none 0 0] 32 :: tl) := hS6.nilrow 44 2
  have hS6s1s2 : St w0 w6 (Res.row (Value.slice none 0 0) 44 2 0 (flat true ([] : List It)) :: Res.box b [Value.slice A n c, Value.int .i64 ix10, Value.int .i64 hx11] 70 :: Res.box blk4 [Value.slice none 0 0] 32 :: Res.box blk2 [Value.slice none 0 0] 32 :: ((([] : List It).map (It.row .i64 3)) ++ tl)) := hS6s1
  refine c_loop (X := Nat × List (Int × List Int) × Option Addr × Nat × List It × Int × Int) (fun (x_ : Nat × List (Int × List Int) × Option Addr × Nat × List It × Int × Int) => match x_ with | (i, L, A2, c2, ys, ic, hc) => [(0, Value.pointer (some ⟨b, 0, none⟩)), (2, Value.pointer (some ⟨blk2, 0, none⟩)), (3, Value.pointer (some ⟨blk4, 0, none⟩)), (4, Value.int .i64 ((2 : Int) + xd9)), (5, Value.int .i64 ((i : Nat) : Int))]) (fun (x_ : Nat × List (Int × List Int) × Option Addr × Nat × List It × Int × Int) (wr : World) => match x_ with | (i, L, A2, c2, ys, ic, hc) => (CurI w0 A n ic) ∧ (((i : Nat) : Int) ≤ ((2 : Int) + xd9)) ∧ (List.length L = i) ∧ (ys.map (con true) = L) ∧ (okL .i64 L) ∧ (wt L ≤ i) ∧ St w0 wr (Res.row (Value.slice A2 (List.length L) c2) 44 2 (List.length L) (flat true ys) :: Res.box b [Value.slice A n c, Value.int .i64 ic, Value.int .i64 hc] 70 :: Res.box blk4 [Value.slice A2 (List.length L) c2] 32 :: Res.box blk2 [Value.slice none 0 0] 32 :: ((ys.map (It.row .i64 3)) ++ tl))) (fun (x_ : Nat × List (Int × List Int) × Option Addr × Nat × List It × Int × Int) => match x_ with | (i, L, A2, c2, ys, ic, hc) => Int.toNat ((2 : Int) + xd9) - i) ((0, [], none, 0, [], ix10, hx11)) ?_ ?_ ?_
  · exact (agree_cons (by kernel_rfl) (agree_cons (by kernel_rfl) (agree_cons (by kernel_rfl) (agree_cons (by kernel_rfl) (agree_cons (by kernel_rfl) agree_nil)))))
  · exact ⟨hC12, (by omega), rfl, rfl, okL.nil, (by decide), hS6s1s2⟩
  rintro ⟨i, L, A2, c2, ys, ic, hc⟩ g16 w15 ⟨hCl, hin, hLi, hyL, hoL, hwt, hS15⟩
  obtain ⟨hClo2, hChi2, hCn2, _⟩ := id hCl
  have hwL := wt_len L
  refine wp_seq ?_
  refine wp_seq ?_
  refine c_reg ?_
  refine q_seg (S := (fun x_ => St w0 x_ (Res.row (Value.slice A2 (List.length L) c2) 44 2 (List.length L) (flat true ys) :: Res.box b [Value.slice A n c, Value.int .i64 ic, Value.int .i64 hc] 70 :: Res.box blk4 [Value.slice A2 (List.length L) c2] 32 :: Res.box blk2 [Value.slice none 0 0] 32 :: ((ys.map (It.row .i64 3)) ++ tl)))) [(17, Value.bool (decide (((i : Nat) : Int) < ((2 : Int) + xd9)))), (16, Value.int .i64 ((2 : Int) + xd9)), (15, Value.int .i64 ((i : Nat) : Int))] [.no, .no, .no] True (by kernel_rfl) trivial hS15 ?_
  refine l_nil rfl ?_
  refine then_n ?_
  rcases Bool.eq_false_or_eq_true (decide (((i : Nat) : Int) < ((2 : Int) + xd9))) with hb17 | hb17
  · skip
    have hb17p := of_decide_eq_true hb17
    refine c_true (b := (decide (((i : Nat) : Int) < ((2 : Int) + xd9)))) (by kernel_rfl) hb17 ?_
    refine wp_skip ?_
    refine then_n ?_
    refine wp_seq ?_
    refine wp_block ?_
    refine c_drawnS (S := (fun x_ => St w0 x_ (Res.box blk4 [Value.slice A2 (List.length L) c2] 32 :: Res.box blk2 [Value.slice none 0 0] 32 :: tl))) [8] (by kernel_rfl) hS15 (fun w18 hS18 => ?_)
    refine t_seg (S := (fun x_ => St w0 x_ (Res.box blk4 [Value.slice A2 (List.length L) c2] 32 :: Res.box blk2 [Value.slice none 0 0] 32 :: tl))) [(0, .no), (2, .no), (1, .v (Value.slice A2 (List.length L) c2))] 6 #[true, true, true, false, false, false, false, false, false] [(21, Value.slice A2 (List.length L) c2), (22, Value.pointer (some ⟨b, 0, none⟩)), (20, Value.pointer (some ⟨blk4, 0 + 0, none⟩))] ((LoadsAt Try.prog (fun x_ => St w0 x_ (Res.box blk4 [Value.slice A2 (List.length L) c2] 32 :: Res.box blk2 [Value.slice none 0 0] 32 :: tl)) 30 ⟨blk4, 0 + 0, none⟩ (Value.slice A2 (List.length L) c2))) (by kernel_rfl) (Qpanic.block (Qpanic.then (Qpanic.then (Qpanic.block (Qpanic.then Qpanic.bp))))) rfl (by kernel_rfl) (ld_box (i := 0) rfl rfl (by kernel_rfl)) (hS18.sub (List.Sublist.cons _ (List.Sublist.cons _ (List.Sublist.cons_cons _ (List.Sublist.cons_cons _ (List.Sublist.trans (List.Sublist.refl _) (List.sublist_append_right _ _))))))) ?_
    refine a_op (i := 3) (fuel := 5) (listed' := #[true, true, true, true, false, false, false, false, false]) rfl rfl (by kernel_rfl) (by kernel_rfl) rfl (fun K hK => op_callm (d := some 23) rfl rfl ⟨_, Try.func38, by kernel_rfl, by kernel_rfl⟩ (vs := [Value.pointer (some ⟨b, 0, none⟩), Value.int .i64 2]) (by kernel_rfl) (l1Below_s_c b A n c ic hc (2 : Int) _ w0 w18 (hS18.front 1 rfl) hCl (by omega)) (fun v20 new21 w19 Rw19 hS19 => ?_))
    obtain ⟨ix23, hx24, xd22, rfl, rfl, hC25, hf26, hf27⟩ := Rw19
    refine hK _ _ (fun _ => (hS19.sub (List.Sublist.cons _ (List.Sublist.cons _ (List.Sublist.cons_cons _ (List.Sublist.cons_cons _ (List.Sublist.trans (List.Sublist.refl _) (List.sublist_append_right _ _)))))))) ?_
    clear hK K
    refine t_seg (S := (fun x_ => St w0 x_ (Res.box blk4 [Value.slice A2 (List.length L) c2] 32 :: Res.box blk2 [Value.slice none 0 0] 32 :: tl))) [(4, .no)] 4 #[true, true, true, true, true, false, false, false, false] [(24, Value.agg #[Value.int .i64 xd22, Value.slice none 0 0])] True (by kernel_rfl) (Qpanic.block (Qpanic.then (Qpanic.then (Qpanic.block (Qpanic.then Qpanic.bp))))) rfl (by kernel_rfl) trivial (hS19.sub (List.Sublist.cons _ (List.Sublist.cons _ (List.Sublist.cons_cons _ (List.Sublist.cons_cons _ (List.Sublist.trans (List.Sublist.refl _) (List.sublist_append_right _ _))))))) ?_
    refine a_op (i := 5) (fuel := 3) (listed' := #[true, true, true, true, true, true, false, false, false]) rfl rfl (by kernel_rfl) (by kernel_rfl) rfl (fun K hK => op_buildSlice (d := some 25) rfl rfl (e := 44) (by kernel_rfl) 2 (by kernel_rfl) (by decide) (by decide) [Value.int .i64 xd22, Value.slice none 0 0] (by kernel_rfl) rfl hS19 (fun blk29 w28 hS28 => hK _ _ (fun _ => (hS28.sub (List.Sublist.cons _ (List.Sublist.cons _ (List.Sublist.cons _ (List.Sublist.cons_cons _ (List.Sublist.cons_cons _ (List.Sublist.trans (List.Sublist.refl _) (List.sublist_append_right _ _))))))))) ?_))
    clear hK K
    refine a_op (i := 6) (fuel := 2) (listed' := #[true, true, true, true, true, true, true, false, false]) rfl rfl (by kernel_rfl) (by kernel_rfl) rfl (fun K hK => op_append (d := some 26) rfl rfl el_44 hS28 (i := 2) rfl rfl rfl (news := [Value.int .i64 xd22, Value.slice none 0 0]) (hS28.rd (List.mem_of_getElem? (i := 0) rfl)) (all_one (by rfl)) (by omega) (by omega) (fun v31 w30 hS30 => hK _ _ (fun _ => (hS30.sub (List.Sublist.cons _ (List.Sublist.cons _ (List.Sublist.cons _ (List.Sublist.cons_cons _ (List.Sublist.cons_cons _ (List.Sublist.trans (List.Sublist.refl _) (List.sublist_append_right _ _))))))))) ?_))
    clear hK K
    obtain ⟨hlv31, Av31, cv31, hvv31, hnv31, hmv31⟩ := hS30.row_slice (List.mem_of_getElem? (i := 2) rfl)
    subst hvv31
    have hS30s3 : St w0 w30 (Res.row (Value.slice none 0 0) 3 1 0 (([] : List Int).map (Value.int .i64)) :: Res.row (Value.slice (some ⟨blk29, 0, none⟩) 1 1) 44 2 1 ([Value.int .i64 xd22, Value.slice none 0 0]) :: Res.box b [Value.slice A n c, Value.int .i64 ix23, Value.int .i64 hx24] 70 :: Res.row (Value.slice Av31 ((List.length L) + 1) cv31) 44 2 ((List.length L) + 1) ((flat true ys) ++ [Value.int .i64 xd22, Value.slice none 0 0]) :: Res.box blk4 [Value.slice A2 (List.length L) c2] 32 :: Res.box blk2 [Value.slice none 0 0] 32 :: ((ys.map (It.row .i64 3)) ++ tl)) := hS30.nilrow 3 1
    have hS30s3s4 : St w0 w30 (Res.row (Value.slice none 0 0) 3 1 0 (([] : List Int).map (Value.int .i64)) :: Res.row (Value.slice (some ⟨blk29, 0, none⟩) 1 1) 44 2 1 ([Value.int .i64 xd22, Value.slice none 0 0]) :: Res.box b [Value.slice A n c, Value.int .i64 ix23, Value.int .i64 hx24] 70 :: Res.row (Value.slice Av31 ((List.length L) + 1) cv31) 44 2 ((List.length L) + 1) (flat true (ys ++ [(It.mk xd22 none 0 ([] : List Int))])) :: Res.box blk4 [Value.slice A2 (List.length L) c2] 32 :: Res.box blk2 [Value.slice none 0 0] 32 :: ((ys.map (It.row .i64 3)) ++ tl)) := hS30s3.eqv (by rw [flat_snoc]; rfl)
    have hS30s3s4s5 : St w0 w30 (Res.row (Value.slice none 0 0) 3 1 0 (([] : List Int).map (Value.int .i64)) :: Res.box b [Value.slice A n c, Value.int .i64 ix23, Value.int .i64 hx24] 70 :: Res.row (Value.slice Av31 ((List.length L) + 1) cv31) 44 2 ((List.length L) + 1) (flat true (ys ++ [(It.mk xd22 none 0 ([] : List Int))])) :: Res.box blk4 [Value.slice A2 (List.length L) c2] 32 :: Res.box blk2 [Value.slice none 0 0] 32 :: ((ys.map (It.row .i64 3)) ++ tl)) := (hS30s3s4.sub (List.Sublist.cons_cons _ (List.Sublist.cons _ (List.Sublist.cons_cons _ (List.Sublist.cons_cons _ (List.Sublist.cons_cons _ (List.Sublist.cons_cons _ (List.Sublist.append (List.Sublist.refl _) (List.Sublist.refl _)))))))))
    have hS30s3s4s5s6 : St w0 w30 (Res.box b [Value.slice A n c, Value.int .i64 ix23, Value.int .i64 hx24] 70 :: Res.row (Value.slice Av31 ((List.length L) + 1) cv31) 44 2 ((List.length L) + 1) (flat true (ys ++ [(It.mk xd22 none 0 ([] : List Int))])) :: Res.box blk4 [Value.slice A2 (List.length L) c2] 32 :: Res.box blk2 [Value.slice none 0 0] 32 :: (((ys ++ [(It.mk xd22 none 0 ([] : List Int))]).map (It.row .i64 3)) ++ tl)) := St.pickB (κ := .i64) (tb := 3) [Res.box b [Value.slice A n c, Value.int .i64 ix23, Value.int .i64 hx24] 70, Res.row (Value.slice Av31 ((List.length L) + 1) cv31) 44 2 ((List.length L) + 1) (flat true (ys ++ [(It.mk xd22 none 0 ([] : List Int))])), Res.box blk4 [Value.slice A2 (List.length L) c2] 32, Res.box blk2 [Value.slice none 0 0] 32] [] tl ys (It.mk xd22 none 0 ([] : List Int)) hS30s3s4s5
    have hcq32 : (ys ++ [(It.mk xd22 none 0 ([] : List Int))]).map (con true) = (L ++ [(xd22, ([] : List Int))]) := by rw [List.map_append, hyL]; rfl
    have hcq32l : List.length (L ++ [(xd22, ([] : List Int))]) = ((List.length L) + 1) := by have h1_ : List.length L = (List.length L) := rfl; rw [List.length_append, List.length_singleton] <;> omega
    refine t_seg (S := (fun x_ => St w0 x_ (Res.box blk4 [Value.slice A2 (List.length L) c2] 32 :: Res.box blk2 [Value.slice none 0 0] 32 :: tl))) [(7, .no)] 1 #[true, true, true, true, true, true, true, true, false] [(27, Value.pointer (some ⟨blk4, 0 + 0, none⟩))] True (by kernel_rfl) (Qpanic.block (Qpanic.then (Qpanic.then (Qpanic.block (Qpanic.then Qpanic.bp))))) rfl (by kernel_rfl) trivial (hS30s3s4s5s6.sub (List.Sublist.cons _ (List.Sublist.cons _ (List.Sublist.cons_cons _ (List.Sublist.cons_cons _ (List.Sublist.trans (List.Sublist.refl _) (List.sublist_append_right _ _))))))) ?_
    refine a_op (i := 8) (fuel := 0) (listed' := #[true, true, true, true, true, true, true, true, true]) rfl rfl (by kernel_rfl) (by kernel_rfl) rfl (fun K hK => op_store (d := none) rfl rfl (i := 2) (b := blk4) (off := 0 + 0) (cs := [Value.slice A2 (List.length L) c2]) (bt := 32) (by kernel_rfl) (by kernel_rfl) [Value.slice Av31 ((List.length L) + 1) cv31] (by kernel_rfl) (by kernel_rfl) (Nat.le_of_ble_eq_true (by kernel_rfl)) (by kernel_rfl) (Res.box b [Value.slice A n c, Value.int .i64 ix23, Value.int .i64 hx24] 70 :: Res.row (Value.slice Av31 ((List.length L) + 1) cv31) 44 2 ((List.length L) + 1) (flat true (ys ++ [(It.mk xd22 none 0 ([] : List Int))])) :: Res.box blk4 [Value.slice Av31 ((List.length L) + 1) cv31] 32 :: Res.box blk2 [Value.slice none 0 0] 32 :: (((ys ++ [(It.mk xd22 none 0 ([] : List Int))]).map (It.row .i64 3)) ++ tl)) (by kernel_rfl) hS30s3s4s5s6 (fun w33 hS33 => hK _ _ (fun h => absurd h (by decide)) ?_))
    clear hK K
    refine a_done (by kernel_rfl) ?_
    refine blk_n ?_
    refine then_n ?_
    refine c_reg ?_
    refine q_seg (S := (fun x_ => St w0 x_ (Res.box b [Value.slice A n c, Value.int .i64 ix23, Value.int .i64 hx24] 70 :: Res.row (Value.slice Av31 ((List.length L) + 1) cv31) 44 2 ((List.length L) + 1) (flat true (ys ++ [(It.mk xd22 none 0 ([] : List Int))])) :: Res.box blk4 [Value.slice Av31 ((List.length L) + 1) cv31] 32 :: Res.box blk2 [Value.slice none 0 0] 32 :: (((ys ++ [(It.mk xd22 none 0 ([] : List Int))]).map (It.row .i64 3)) ++ tl)))) [(5, Value.int .i64 (((i : Nat) : Int) + (1 : Int))), (19, Value.int .i64 (((i : Nat) : Int) + (1 : Int))), (18, Value.int .i64 ((i : Nat) : Int))] [.no, .no, .no] ((InK .i64 (((i : Nat) : Int) + (1 : Int)))) (by kernel_rfl) (in64 (by omega) (by omega)) hS33 ?_
    refine l_nil rfl ?_
    refine then_n ?_
    have hS33s7 : St w0 w33 (Res.box blk2 [Value.slice none 0 0] 32 :: Res.box b [Value.slice A n c, Value.int .i64 ix23, Value.int .i64 hx24] 70 :: Res.row (Value.slice Av31 ((List.length L) + 1) cv31) 44 2 ((List.length L) + 1) (flat true (ys ++ [(It.mk xd22 none 0 ([] : List Int))])) :: Res.box blk4 [Value.slice Av31 ((List.length L) + 1) cv31] 32 :: (((ys ++ [(It.mk xd22 none 0 ([] : List Int))]).map (It.row .i64 3)) ++ tl)) := hS33.front 3 rfl
    have hS33s7s8 : St w0 w33 (Res.box blk4 [Value.slice Av31 ((List.length L) + 1) cv31] 32 :: Res.box blk2 [Value.slice none 0 0] 32 :: Res.box b [Value.slice A n c, Value.int .i64 ix23, Value.int .i64 hx24] 70 :: Res.row (Value.slice Av31 ((List.length L) + 1) cv31) 44 2 ((List.length L) + 1) (flat true (ys ++ [(It.mk xd22 none 0 ([] : List Int))])) :: (((ys ++ [(It.mk xd22 none 0 ([] : List Int))]).map (It.row .i64 3)) ++ tl)) := hS33s7.front 3 rfl
    have hS33s7s8s9 : St w0 w33 (Res.box b [Value.slice A n c, Value.int .i64 ix23, Value.int .i64 hx24] 70 :: Res.box blk4 [Value.slice Av31 ((List.length L) + 1) cv31] 32 :: Res.box blk2 [Value.slice none 0 0] 32 :: Res.row (Value.slice Av31 ((List.length L) + 1) cv31) 44 2 ((List.length L) + 1) (flat true (ys ++ [(It.mk xd22 none 0 ([] : List Int))])) :: (((ys ++ [(It.mk xd22 none 0 ([] : List Int))]).map (It.row .i64 3)) ++ tl)) := hS33s7s8.front 2 rfl
    have hS33s7s8s9s10 : St w0 w33 (Res.row (Value.slice Av31 ((List.length L) + 1) cv31) 44 2 ((List.length L) + 1) (flat true (ys ++ [(It.mk xd22 none 0 ([] : List Int))])) :: Res.box b [Value.slice A n c, Value.int .i64 ix23, Value.int .i64 hx24] 70 :: Res.box blk4 [Value.slice Av31 ((List.length L) + 1) cv31] 32 :: Res.box blk2 [Value.slice none 0 0] 32 :: (((ys ++ [(It.mk xd22 none 0 ([] : List Int))]).map (It.row .i64 3)) ++ tl)) := hS33s7s8s9.front 3 rfl
    refine round_end ((i + 1, (L ++ [(xd22, ([] : List Int))]), Av31, cv31, (ys ++ [(It.mk xd22 none 0 ([] : List Int))]), ix23, hx24)) ?_ ?_ ?_
    · exact (agree_cons (by kernel_rfl) (agree_cons (by kernel_rfl) (agree_cons (by kernel_rfl) (agree_cons (by kernel_rfl) (agree_cons (by kernel_rfl) agree_nil)))))
    · exact ⟨hC25, (by omega), (by rw [hcq32l]; omega), hcq32, (okL.append hoL (okL.one (i64 (by omega) (by omega)) (fun z h => by simp at h))), (by simp only [wt_append, wt_one, List.length_nil]; omega), (hS33s7s8s9s10.eqv (by rw [hcq32l]))⟩
    · exact (by first | omega | (dsimp only; omega))
  · skip
    have hb17p := of_decide_eq_false hb17
    refine c_false (b := (decide (((i : Nat) : Int) < ((2 : Int) + xd9)))) (by kernel_rfl) hb17 ?_
    refine wp_exit ?_
    refine then_x ?_
    refine then_x ?_
    refine blk_hit ?_
    refine then_n ?_
    refine wp_seq ?_
    refine wp_seq ?_
    refine c_reg ?_
    refine q_seg (S := (fun x_ => St w0 x_ (Res.row (Value.slice A2 (List.length L) c2) 44 2 (List.length L) (flat true ys) :: Res.box b [Value.slice A n c, Value.int .i64 ic, Value.int .i64 hc] 70 :: Res.box blk4 [Value.slice A2 (List.length L) c2] 32 :: Res.box blk2 [Value.slice none 0 0] 32 :: ((ys.map (It.row .i64 3)) ++ tl)))) [(6, Value.int .i64 1)] [.no] True (by kernel_rfl) trivial hS15 ?_
    refine l_nil rfl ?_
    refine then_n ?_
    refine wp_block ?_
    refine c_loop (X := Nat × List (Int × List Int) × List It × Int × Int) (fun (x_ : Nat × List (Int × List Int) × List It × Int × Int) => match x_ with | (j, L2, ys2, ic2, hc2) => [(0, Value.pointer (some ⟨b, 0, none⟩)), (2, Value.pointer (some ⟨blk2, 0, none⟩)), (3, Value.pointer (some ⟨blk4, 0, none⟩)), (4, Value.int .i64 ((2 : Int) + xd9)), (6, Value.int .i64 ((j : Nat) : Int))]) (fun (x_ : Nat × List (Int × List Int) × List It × Int × Int) (wr : World) => match x_ with | (j, L2, ys2, ic2, hc2) => (CurI w0 A n ic2) ∧ (1 ≤ j) ∧ (((j : Nat) : Int) ≤ ((2 : Int) + xd9)) ∧ (List.length L2 = (List.length L)) ∧ (ys2.map (con true) = L2) ∧ (okL .i64 L2) ∧ (wt L2 ≤ 5 + 10 * j) ∧ St w0 wr (Res.row (Value.slice A2 (List.length L) c2) 44 2 (List.length L) (flat true ys2) :: Res.box b [Value.slice A n c, Value.int .i64 ic2, Value.int .i64 hc2] 70 :: Res.box blk4 [Value.slice A2 (List.length L) c2] 32 :: Res.box blk2 [Value.slice none 0 0] 32 :: ((ys2.map (It.row .i64 3)) ++ tl))) (fun (x_ : Nat × List (Int × List Int) × List It × Int × Int) => match x_ with | (j, L2, ys2, ic2, hc2) => Int.toNat ((2 : Int) + xd9) - j) ((1, L, ys, ic, hc)) ?_ ?_ ?_
    · exact (agree_cons (by kernel_rfl) (agree_cons (by kernel_rfl) (agree_cons (by kernel_rfl) (agree_cons (by kernel_rfl) (agree_cons (by kernel_rfl) agree_nil)))))
    · exact ⟨hCl, (by omega), (by omega), rfl, hyL, hoL, (by omega), hS15⟩
    rintro ⟨j, L2, ys2, ic2, hc2⟩ g35 w34 ⟨hCl2, h1j, h2j, hlL2, hyL2, hoL2, hwt2, hS34⟩
    obtain ⟨hClo2, hChi2, hCn2, _⟩ := id hCl2
    refine wp_seq ?_
    refine wp_seq ?_
    refine c_reg ?_
    refine q_seg (S := (fun x_ => St w0 x_ (Res.row (Value.slice A2 (List.length L) c2) 44 2 (List.length L) (flat true ys2) :: Res.box b [Value.slice A n c, Value.int .i64 ic2, Value.int .i64 hc2] 70 :: Res.box blk4 [Value.slice A2 (List.length L) c2] 32 :: Res.box blk2 [Value.slice none 0 0] 32 :: ((ys2.map (It.row .i64 3)) ++ tl)))) [(30, Value.bool (decide (((j : Nat) : Int) < ((2 : Int) + xd9)))), (29, Value.int .i64 ((2 : Int) + xd9)), (28, Value.int .i64 ((j : Nat) : Int))] [.no, .no, .no] True (by kernel_rfl) trivial hS34 ?_
    refine l_nil rfl ?_
    refine then_n ?_
    rcases Bool.eq_false_or_eq_true (decide (((j : Nat) : Int) < ((2 : Int) + xd9))) with hb36 | hb36
    · skip
      have hb36p := of_decide_eq_true hb36
      refine c_true (b := (decide (((j : Nat) : Int) < ((2 : Int) + xd9)))) (by kernel_rfl) hb36 ?_
      refine wp_skip ?_
      refine then_n ?_
      refine wp_seq ?_
      refine wp_block ?_
      refine wp_seq ?_
      refine c_reg ?_
      refine q_seg (S := (fun x_ => St w0 x_ (Res.row (Value.slice A2 (List.length L) c2) 44 2 (List.length L) (flat true ys2) :: Res.box b [Value.slice A n c, Value.int .i64 ic2, Value.int .i64 hc2] 70 :: Res.box blk4 [Value.slice A2 (List.length L) c2] 32 :: Res.box blk2 [Value.slice none 0 0] 32 :: ((ys2.map (It.row .i64 3)) ++ tl)))) [(7, Value.int .i64 0)] [.no] True (by kernel_rfl) trivial hS34 ?_
      refine l_nil rfl ?_
      refine then_n ?_
      refine wp_block ?_
      refine c_loop (X := Nat × List (Int × List Int) × List It × Int × Int) (fun (x_ : Nat × List (Int × List Int) × List It × Int × Int) => match x_ with | (a, L3, ys3, ic3, hc3) => [(0, Value.pointer (some ⟨b, 0, none⟩)), (2, Value.pointer (some ⟨blk2, 0, none⟩)), (3, Value.pointer (some ⟨blk4, 0, none⟩)), (4, Value.int .i64 ((2 : Int) + xd9)), (6, Value.int .i64 ((j : Nat) : Int)), (7, Value.int .i64 ((a : Nat) : Int)), (28, Value.int .i64 ((j : Nat) : Int)), (29, Value.int .i64 ((2 : Int) + xd9)), (30, Value.bool (decide (((j : Nat) : Int) < ((2 : Int) + xd9))))]) (fun (x_ : Nat × List (Int × List Int) × List It × Int × Int) (wr : World) => match x_ with | (a, L3, ys3, ic3, hc3) => (CurI w0 A n ic3) ∧ (0 ≤ a) ∧ (a ≤ j) ∧ (List.length L3 = (List.length L)) ∧ (ys3.map (con true) = L3) ∧ (okL .i64 L3) ∧ (wt L3 ≤ 5 + 10 * j + 2 * a) ∧ St w0 wr (Res.row (Value.slice A2 (List.length L) c2) 44 2 (List.length L) (flat true ys3) :: Res.box b [Value.slice A n c, Value.int .i64 ic3, Value.int .i64 hc3] 70 :: Res.box blk4 [Value.slice A2 (List.length L) c2] 32 :: Res.box blk2 [Value.slice none 0 0] 32 :: ((ys3.map (It.row .i64 3)) ++ tl))) (fun (x_ : Nat × List (Int × List Int) × List It × Int × Int) => match x_ with | (a, L3, ys3, ic3, hc3) => j - a) ((0, L2, ys2, ic2, hc2)) ?_ ?_ ?_
      · exact (agree_cons (by kernel_rfl) (agree_cons (by kernel_rfl) (agree_cons (by kernel_rfl) (agree_cons (by kernel_rfl) (agree_cons (by kernel_rfl) (agree_cons (by kernel_rfl) (agree_cons (by kernel_rfl) (agree_cons (by kernel_rfl) (agree_cons (by kernel_rfl) agree_nil)))))))))
      · exact ⟨hCl2, (by omega), (by omega), hlL2, hyL2, hoL2, (by omega), hS34⟩
      rintro ⟨a, L3, ys3, ic3, hc3⟩ g38 w37 ⟨hCl3, h1a, h2a, hlL3, hyL3, hoL3, hwt3, hS37⟩
      obtain ⟨hClo3, hChi3, hCn3, _⟩ := id hCl3
      refine wp_seq ?_
      refine wp_seq ?_
      refine c_reg ?_
      refine q_seg (S := (fun x_ => St w0 x_ (Res.row (Value.slice A2 (List.length L) c2) 44 2 (List.length L) (flat true ys3) :: Res.box b [Value.slice A n c, Value.int .i64 ic3, Value.int .i64 hc3] 70 :: Res.box blk4 [Value.slice A2 (List.length L) c2] 32 :: Res.box blk2 [Value.slice none 0 0] 32 :: ((ys3.map (It.row .i64 3)) ++ tl)))) [(35, Value.bool (decide (((a : Nat) : Int) < ((j : Nat) : Int)))), (34, Value.int .i64 ((j : Nat) : Int)), (33, Value.int .i64 ((a : Nat) : Int))] [.no, .no, .no] True (by kernel_rfl) trivial hS37 ?_
      refine l_nil rfl ?_
      refine then_n ?_
      rcases Bool.eq_false_or_eq_true (decide (((a : Nat) : Int) < ((j : Nat) : Int))) with hb39 | hb39
      · skip
        have hb39p := of_decide_eq_true hb39
        refine c_true (b := (decide (((a : Nat) : Int) < ((j : Nat) : Int)))) (by kernel_rfl) hb39 ?_
        refine wp_skip ?_
        refine then_n ?_
        refine wp_seq ?_
        refine wp_block ?_
        refine wp_seq ?_
        refine c_reg ?_
        refine q_seg (S := (fun x_ => St w0 x_ (Res.row (Value.slice A2 (List.length L) c2) 44 2 (List.length L) (flat true ys3) :: Res.box b [Value.slice A n c, Value.int .i64 ic3, Value.int .i64 hc3] 70 :: Res.box blk4 [Value.slice A2 (List.length L) c2] 32 :: Res.box blk2 [Value.slice none 0 0] 32 :: ((ys3.map (It.row .i64 3)) ++ tl)))) [(42, Value.bool (decide (((a : Nat) : Int) = (((j : Nat) : Int) - (1 : Int))))), (41, Value.bool (decide (((a : Nat) : Int) = (((j : Nat) : Int) - (1 : Int))))), (40, Value.int .i64 (((j : Nat) : Int) - (1 : Int))), (39, Value.int .i64 ((j : Nat) : Int)), (38, Value.int .i64 ((a : Nat) : Int))] [.no, .no, .no, .no, .no] ((InK .i64 (((j : Nat) : Int) - (1 : Int)))) (by kernel_rfl) (in64 (by omega) (by omega)) hS37 ?_
        rcases Bool.eq_false_or_eq_true (decide (((a : Nat) : Int) = (((j : Nat) : Int) - (1 : Int)))) with hb40 | hb40
        · skip
          have hb40p := of_decide_eq_true hb40
          refine q_seg (S := (fun x_ => St w0 x_ (Res.row (Value.slice A2 (List.length L) c2) 44 2 (List.length L) (flat true ys3) :: Res.box b [Value.slice A n c, Value.int .i64 ic3, Value.int .i64 hc3] 70 :: Res.box blk4 [Value.slice A2 (List.length L) c2] 32 :: Res.box blk2 [Value.slice none 0 0] 32 :: ((ys3.map (It.row .i64 3)) ++ tl)))) [(43, Value.pointer (some ⟨b, 0, none⟩))] [.no] (((decide (((a : Nat) : Int) = (((j : Nat) : Int) - (1 : Int)))) = true)) (by kernel_rfl) hb40 hS37 ?_
          refine l_opg rfl (b := (decide (((a : Nat) : Int) = (((j : Nat) : Int) - (1 : Int))))) (want := true) (by kernel_rfl) hb40 (fun K hK => op_callm (d := some 44) rfl rfl ⟨_, Try.func52, by kernel_rfl, by kernel_rfl⟩ (vs := [Value.pointer (some ⟨b, 0, none⟩), Value.int .i64 5]) (by kernel_rfl) (l1Once_s_c b A n c ic3 hc3 (5 : Int) _ w0 w37 (hS37.front 1 rfl) hCl3 (by omega)) (fun v42 new43 w41 Rw41 hS41 => ?_))
          obtain ⟨ix45, hx46, ed44, rfl, rfl, hC47⟩ := Rw41
          refine hK _ _ ?_
          clear hK K
          refine q_seg (S := (fun x_ => St w0 x_ (Res.box b [Value.slice A n c, Value.int .i64 ix45, Value.int .i64 hx46] 70 :: Res.row (Value.slice A2 (List.length L) c2) 44 2 (List.length L) (flat true ys3) :: Res.box blk4 [Value.slice A2 (List.length L) c2] 32 :: Res.box blk2 [Value.slice none 0 0] 32 :: ((ys3.map (It.row .i64 3)) ++ tl)))) [(47, Value.bool (!(ed44))), (46, Value.bool (!(ed44))), (45, Value.bool (!(ed44)))] [.no, .v (.bool true), .no] (((decide (((a : Nat) : Int) = (((j : Nat) : Int) - (1 : Int)))) = true) ∧ ((decide (((a : Nat) : Int) = (((j : Nat) : Int) - (1 : Int)))) = true)) (by kernel_rfl) ⟨hb40, hb40⟩ hS41 ?_
          rcases Bool.eq_false_or_eq_true (ed44) with hb48 | hb48
          · skip
            refine q_seg (S := (fun x_ => St w0 x_ (Res.box b [Value.slice A n c, Value.int .i64 ix45, Value.int .i64 hx46] 70 :: Res.row (Value.slice A2 (List.length L) c2) 44 2 (List.length L) (flat true ys3) :: Res.box blk4 [Value.slice A2 (List.length L) c2] 32 :: Res.box blk2 [Value.slice none 0 0] 32 :: ((ys3.map (It.row .i64 3)) ++ tl)))) [(48, Value.pointer (some ⟨b, 0, none⟩))] [.no] (((!(ed44)) = false)) (by kernel_rfl) (nb (v := true) hb48) hS41 ?_
            refine l_opg rfl (b := (!(ed44))) (want := false) (by kernel_rfl) (nb (v := true) hb48) (fun K hK => op_callm (d := some 49) rfl rfl ⟨_, Try.func52, by kernel_rfl, by kernel_rfl⟩ (vs := [Value.pointer (some ⟨b, 0, none⟩), Value.int .i64 4]) (by kernel_rfl) (l1Once_s_c b A n c ix45 hx46 (4 : Int) _ w0 w41 hS41 hC47 (by omega)) (fun v50 new51 w49 Rw49 hS49 => ?_))
            obtain ⟨ix53, hx54, ed52, rfl, rfl, hC55⟩ := Rw49
            refine hK _ _ ?_
            clear hK K
            refine q_seg (S := (fun x_ => St w0 x_ (Res.box b [Value.slice A n c, Value.int .i64 ix53, Value.int .i64 hx54] 70 :: Res.row (Value.slice A2 (List.length L) c2) 44 2 (List.length L) (flat true ys3) :: Res.box blk4 [Value.slice A2 (List.length L) c2] 32 :: Res.box blk2 [Value.slice none 0 0] 32 :: ((ys3.map (It.row .i64 3)) ++ tl)))) [(50, Value.bool ed52)] [.v (.bool false)] (((!(ed44)) = false)) (by kernel_rfl) (nb (v := true) hb48) hS49 ?_
            refine l_nil rfl ?_
            refine then_n ?_
            rcases Bool.eq_false_or_eq_true (ed52) with hb56 | hb56
            · skip
              refine c_true (b := ed52) (by kernel_rfl) hb56 ?_
              refine c_reg ?_
              refine q_seg (S := (fun x_ => St w0 x_ (Res.box b [Value.slice A n c, Value.int .i64 ix53, Value.int .i64 hx54] 70 :: Res.row (Value.slice A2 (List.length L) c2) 44 2 (List.length L) (flat true ys3) :: Res.box blk4 [Value.slice A2 (List.length L) c2] 32 :: Res.box blk2 [Value.slice none 0 0] 32 :: ((ys3.map (It.row .i64 3)) ++ tl)))) [(53, Value.int .i64 ((j : Nat) : Int)), (52, Value.int .i64 ((a : Nat) : Int)), (51, Value.agg #[Value.slice A2 (List.length L) c2])] [.v (Value.agg #[Value.slice A2 (List.length L) c2]), .no, .no] ((LoadsAt Try.prog (fun x_ => St w0 x_ (Res.box b [Value.slice A n c, Value.int .i64 ix53, Value.int .i64 hx54] 70 :: Res.row (Value.slice A2 (List.length L) c2) 44 2 (List.length L) (flat true ys3) :: Res.box blk4 [Value.slice A2 (List.length L) c2] 32 :: Res.box blk2 [Value.slice none 0 0] 32 :: ((ys3.map (It.row .i64 3)) ++ tl))) 32 ⟨blk4, 0, none⟩ (Value.agg #[Value.slice A2 (List.length L) c2]))) (by kernel_rfl) (ld_boxN (i := 2) (k := 1) rfl rfl rfl (by kernel_rfl)) hS49 ?_
              refine l_op rfl rfl (fun K hK => op_callm (d := some 54) rfl rfl ⟨_, Try.func53, by kernel_rfl, by kernel_rfl⟩ (vs := [Value.agg #[Value.slice A2 (List.length L) c2], Value.int .i64 ((a : Nat) : Int), Value.int .i64 ((j : Nat) : Int)]) (by kernel_rfl) (l10Join_c A2 (List.length L) c2 a j (5 + 10 * j + 2 * a) ys3 _ w0 w49 ((St.frontB [Res.box b [Value.slice A n c, Value.int .i64 ix53, Value.int .i64 hx54] 70] (Res.row (Value.slice A2 (List.length L) c2) 44 2 (List.length L) (flat true ys3)) [Res.box blk4 [Value.slice A2 (List.length L) c2] 32, Res.box blk2 [Value.slice none 0 0] 32] [] (ys3.map (It.row .i64 3)) tl hS49)) ((con_len hyL3).trans hlL3) (by rw [hyL3]; exact hoL3) (by rw [hyL3]; omega) (by omega) (by omega) (by omega) (by omega)) (fun v58 new59 w57 Rw57 hS57 => hK _ _ ?_))
              clear hK K
              obtain ⟨Lj60, yj61, rfl, rfl, Lj60c, Lj60l, Lj60o, Lj60w⟩ := Rw57
              have hS57r : St w0 w57 (Res.row (Value.slice A2 (List.length L) c2) 44 2 (List.length L) (flat true yj61) :: Res.box b [Value.slice A n c, Value.int .i64 ix53, Value.int .i64 hx54] 70 :: Res.box blk4 [Value.slice A2 (List.length L) c2] 32 :: Res.box blk2 [Value.slice none 0 0] 32 :: ((yj61.map (It.row .i64 3)) ++ tl)) := St.backB (Res.row (Value.slice A2 (List.length L) c2) 44 2 (List.length L) (flat true yj61)) (yj61.map (It.row .i64 3)) [Res.box b [Value.slice A n c, Value.int .i64 ix53, Value.int .i64 hx54] 70, Res.box blk4 [Value.slice A2 (List.length L) c2] 32, Res.box blk2 [Value.slice none 0 0] 32] tl hS57
              refine l_nil rfl ?_
              refine blk_n ?_
              refine then_n ?_
              refine c_reg ?_
              refine q_seg (S := (fun x_ => St w0 x_ (Res.row (Value.slice A2 (List.length L) c2) 44 2 (List.length L) (flat true yj61) :: Res.box b [Value.slice A n c, Value.int .i64 ix53, Value.int .i64 hx54] 70 :: Res.box blk4 [Value.slice A2 (List.length L) c2] 32 :: Res.box blk2 [Value.slice none 0 0] 32 :: ((yj61.map (It.row .i64 3)) ++ tl)))) [(7, Value.int .i64 (((a : Nat) : Int) + (1 : Int))), (37, Value.int .i64 (((a : Nat) : Int) + (1 : Int))), (36, Value.int .i64 ((a : Nat) : Int))] [.no, .no, .no] ((InK .i64 (((a : Nat) : Int) + (1 : Int)))) (by kernel_rfl) (in64 (by omega) (by omega)) hS57r ?_
              refine l_nil rfl ?_
              refine then_n ?_
              refine round_end ((a + 1, Lj60, yj61, ix53, hx54)) ?_ ?_ ?_
              · exact (agree_cons (by kernel_rfl) (agree_cons (by kernel_rfl) (agree_cons (by kernel_rfl) (agree_cons (by kernel_rfl) (agree_cons (by kernel_rfl) (agree_cons (by kernel_rfl) (agree_cons (by kernel_rfl) (agree_cons (by kernel_rfl) (agree_cons (by kernel_rfl) agree_nil)))))))))
              · exact ⟨hC55, (by omega), (by omega), Lj60l, Lj60c, Lj60o, (by omega), hS57r⟩
              · exact (by first | omega | (dsimp only; omega))
            · skip
              refine c_false (b := ed52) (by kernel_rfl) hb56 ?_
              refine wp_skip ?_
              refine blk_n ?_
              refine then_n ?_
              refine c_reg ?_
              refine q_seg (S := (fun x_ => St w0 x_ (Res.box b [Value.slice A n c, Value.int .i64 ix53, Value.int .i64 hx54] 70 :: Res.row (Value.slice A2 (List.length L) c2) 44 2 (List.length L) (flat true ys3) :: Res.box blk4 [Value.slice A2 (List.length L) c2] 32 :: Res.box blk2 [Value.slice none 0 0] 32 :: ((ys3.map (It.row .i64 3)) ++ tl)))) [(7, Value.int .i64 (((a : Nat) : Int) + (1 : Int))), (37, Value.int .i64 (((a : Nat) : Int) + (1 : Int))), (36, Value.int .i64 ((a : Nat) : Int))] [.no, .no, .no] ((InK .i64 (((a : Nat) : Int) + (1 : Int)))) (by kernel_rfl) (in64 (by omega) (by omega)) hS49 ?_
              refine l_nil rfl ?_
              refine then_n ?_
              have hS49s11 : St w0 w49 (Res.box blk2 [Value.slice none 0 0] 32 :: Res.box b [Value.slice A n c, Value.int .i64 ix53, Value.int .i64 hx54] 70 :: Res.row (Value.slice A2 (List.length L) c2) 44 2 (List.length L) (flat true ys3) :: Res.box blk4 [Value.slice A2 (List.length L) c2] 32 :: ((ys3.map (It.row .i64 3)) ++ tl)) := hS49.front 3 rfl
              have hS49s11s12 : St w0 w49 (Res.box blk4 [Value.slice A2 (List.length L) c2] 32 :: Res.box blk2 [Value.slice none 0 0] 32 :: Res.box b [Value.slice A n c, Value.int .i64 ix53, Value.int .i64 hx54] 70 :: Res.row (Value.slice A2 (List.length L) c2) 44 2 (List.length L) (flat true ys3) :: ((ys3.map (It.row .i64 3)) ++ tl)) := hS49s11.front 3 rfl
              have hS49s11s12s13 : St w0 w49 (Res.box b [Value.slice A n c, Value.int .i64 ix53, Value.int .i64 hx54] 70 :: Res.box blk4 [Value.slice A2 (List.length L) c2] 32 :: Res.box blk2 [Value.slice none 0 0] 32 :: Res.row (Value.slice A2 (List.length L) c2) 44 2 (List.length L) (flat true ys3) :: ((ys3.map (It.row .i64 3)) ++ tl)) := hS49s11s12.front 2 rfl
              have hS49s11s12s13s14 : St w0 w49 (Res.row (Value.slice A2 (List.length L) c2) 44 2 (List.length L) (flat true ys3) :: Res.box b [Value.slice A n c, Value.int .i64 ix53, Value.int .i64 hx54] 70 :: Res.box blk4 [Value.slice A2 (List.length L) c2] 32 :: Res.box blk2 [Value.slice none 0 0] 32 :: ((ys3.map (It.row .i64 3)) ++ tl)) := hS49s11s12s13.front 3 rfl
              refine round_end ((a + 1, L3, ys3, ix53, hx54)) ?_ ?_ ?_
              · exact (agree_cons (by kernel_rfl) (agree_cons (by kernel_rfl) (agree_cons (by kernel_rfl) (agree_cons (by kernel_rfl) (agree_cons (by kernel_rfl) (agree_cons (by kernel_rfl) (agree_cons (by kernel_rfl) (agree_cons (by kernel_rfl) (agree_cons (by kernel_rfl) agree_nil)))))))))
              · exact ⟨hC55, (by omega), (by omega), hlL3, hyL3, hoL3, (by omega), hS49s11s12s13s14⟩
              · exact (by first | omega | (dsimp only; omega))
          · skip
            refine q_seg (S := (fun x_ => St w0 x_ (Res.box b [Value.slice A n c, Value.int .i64 ix45, Value.int .i64 hx46] 70 :: Res.row (Value.slice A2 (List.length L) c2) 44 2 (List.length L) (flat true ys3) :: Res.box blk4 [Value.slice A2 (List.length L) c2] 32 :: Res.box blk2 [Value.slice none 0 0] 32 :: ((ys3.map (It.row .i64 3)) ++ tl)))) [(50, Value.bool true), (49, undef), (48, undef)] [.skip, .skip, .v (.bool true)] (((!(ed44)) = !false) ∧ ((!(ed44)) = !false) ∧ ((!(ed44)) = true)) (by kernel_rfl) ⟨(nb (v := false) hb48), (nb (v := false) hb48), (nb (v := false) hb48)⟩ hS41 ?_
            refine l_nil rfl ?_
            refine then_n ?_
            refine c_true (b := true) (by kernel_rfl) rfl ?_
            refine c_reg ?_
            refine q_seg (S := (fun x_ => St w0 x_ (Res.box b [Value.slice A n c, Value.int .i64 ix45, Value.int .i64 hx46] 70 :: Res.row (Value.slice A2 (List.length L) c2) 44 2 (List.length L) (flat true ys3) :: Res.box blk4 [Value.slice A2 (List.length L) c2] 32 :: Res.box blk2 [Value.slice none 0 0] 32 :: ((ys3.map (It.row .i64 3)) ++ tl)))) [(53, Value.int .i64 ((j : Nat) : Int)), (52, Value.int .i64 ((a : Nat) : Int)), (51, Value.agg #[Value.slice A2 (List.length L) c2])] [.v (Value.agg #[Value.slice A2 (List.length L) c2]), .no, .no] ((LoadsAt Try.prog (fun x_ => St w0 x_ (Res.box b [Value.slice A n c, Value.int .i64 ix45, Value.int .i64 hx46] 70 :: Res.row (Value.slice A2 (List.length L) c2) 44 2 (List.length L) (flat true ys3) :: Res.box blk4 [Value.slice A2 (List.length L) c2] 32 :: Res.box blk2 [Value.slice none 0 0] 32 :: ((ys3.map (It.row .i64 3)) ++ tl))) 32 ⟨blk4, 0, none⟩ (Value.agg #[Value.slice A2 (List.length L) c2]))) (by kernel_rfl) (ld_boxN (i := 2) (k := 1) rfl rfl rfl (by kernel_rfl)) hS41 ?_
            refine l_op rfl rfl (fun K hK => op_callm (d := some 54) rfl rfl ⟨_, Try.func53, by kernel_rfl, by kernel_rfl⟩ (vs := [Value.agg #[Value.slice A2 (List.length L) c2], Value.int .i64 ((a : Nat) : Int), Value.int .i64 ((j : Nat) : Int)]) (by kernel_rfl) (l10Join_c A2 (List.length L) c2 a j (5 + 10 * j + 2 * a) ys3 _ w0 w41 ((St.frontB [Res.box b [Value.slice A n c, Value.int .i64 ix45, Value.int .i64 hx46] 70] (Res.row (Value.slice A2 (List.length L) c2) 44 2 (List.length L) (flat true ys3)) [Res.box blk4 [Value.slice A2 (List.length L) c2] 32, Res.box blk2 [Value.slice none 0 0] 32] [] (ys3.map (It.row .i64 3)) tl hS41)) ((con_len hyL3).trans hlL3) (by rw [hyL3]; exact hoL3) (by rw [hyL3]; omega) (by omega) (by omega) (by omega) (by omega)) (fun v63 new64 w62 Rw62 hS62 => hK _ _ ?_))
            clear hK K
            obtain ⟨Lj65, yj66, rfl, rfl, Lj65c, Lj65l, Lj65o, Lj65w⟩ := Rw62
            have hS62r : St w0 w62 (Res.row (Value.slice A2 (List.length L) c2) 44 2 (List.length L) (flat true yj66) :: Res.box b [Value.slice A n c, Value.int .i64 ix45, Value.int .i64 hx46] 70 :: Res.box blk4 [Value.slice A2 (List.length L) c2] 32 :: Res.box blk2 [Value.slice none 0 0] 32 :: ((yj66.map (It.row .i64 3)) ++ tl)) := St.backB (Res.row (Value.slice A2 (List.length L) c2) 44 2 (List.length L) (flat true yj66)) (yj66.map (It.row .i64 3)) [Res.box b [Value.slice A n c, Value.int .i64 ix45, Value.int .i64 hx46] 70, Res.box blk4 [Value.slice A2 (List.length L) c2] 32, Res.box blk2 [Value.slice none 0 0] 32] tl hS62
            refine l_nil rfl ?_
            refine blk_n ?_
            refine then_n ?_
            refine c_reg ?_
            refine q_seg (S := (fun x_ => St w0 x_ (Res.row (Value.slice A2 (List.length L) c2) 44 2 (List.length L) (flat true yj66) :: Res.box b [Value.slice A n c, Value.int .i64 ix45, Value.int .i64 hx46] 70 :: Res.box blk4 [Value.slice A2 (List.length L) c2] 32 :: Res.box blk2 [Value.slice none 0 0] 32 :: ((yj66.map (It.row .i64 3)) ++ tl)))) [(7, Value.int .i64 (((a : Nat) : Int) + (1 : Int))), (37, Value.int .i64 (((a : Nat) : Int) + (1 : Int))), (36, Value.int .i64 ((a : Nat) : Int))] [.no, .no, .no] ((InK .i64 (((a : Nat) : Int) + (1 : Int)))) (by kernel_rfl) (in64 (by omega) (by omega)) hS62r ?_
            refine l_nil rfl ?_
            refine then_n ?_
            refine round_end ((a + 1, Lj65, yj66, ix45, hx46)) ?_ ?_ ?_
            · exact (agree_cons (by kernel_rfl) (agree_cons (by kernel_rfl) (agree_cons (by kernel_rfl) (agree_cons (by kernel_rfl) (agree_cons (by kernel_rfl) (agree_cons (by kernel_rfl) (agree_cons (by kernel_rfl) (agree_cons (by kernel_rfl) (agree_cons (by kernel_rfl) agree_nil)))))))))
            · exact ⟨hC47, (by omega), (by omega), Lj65l, Lj65c, Lj65o, (by omega), hS62r⟩
            · exact (by first | omega | (dsimp only; omega))
        · skip
          have hb40p := of_decide_eq_false hb40
          refine q_seg (S := (fun x_ => St w0 x_ (Res.row (Value.slice A2 (List.length L) c2) 44 2 (List.length L) (flat true ys3) :: Res.box b [Value.slice A n c, Value.int .i64 ic3, Value.int .i64 hc3] 70 :: Res.box blk4 [Value.slice A2 (List.length L) c2] 32 :: Res.box blk2 [Value.slice none 0 0] 32 :: ((ys3.map (It.row .i64 3)) ++ tl)))) [(48, Value.pointer (some ⟨b, 0, none⟩)), (47, Value.bool false), (46, Value.bool false), (45, undef), (44, undef), (43, undef)] [.skip, .skip, .skip, .v (.bool false), .no, .no] (((decide (((a : Nat) : Int) = (((j : Nat) : Int) - (1 : Int)))) = !true) ∧ ((decide (((a : Nat) : Int) = (((j : Nat) : Int) - (1 : Int)))) = !true) ∧ ((decide (((a : Nat) : Int) = (((j : Nat) : Int) - (1 : Int)))) = !true) ∧ ((decide (((a : Nat) : Int) = (((j : Nat) : Int) - (1 : Int)))) = false) ∧ (false = false)) (by kernel_rfl) ⟨hb40, hb40, hb40, hb40, rfl⟩ hS37 ?_
          refine l_opg rfl (b := false) (want := false) (by kernel_rfl) rfl (fun K hK => op_callm (d := some 49) rfl rfl ⟨_, Try.func52, by kernel_rfl, by kernel_rfl⟩ (vs := [Value.pointer (some ⟨b, 0, none⟩), Value.int .i64 4]) (by kernel_rfl) (l1Once_s_c b A n c ic3 hc3 (4 : Int) _ w0 w37 (hS37.front 1 rfl) hCl3 (by omega)) (fun v68 new69 w67 Rw67 hS67 => ?_))
          obtain ⟨ix71, hx72, ed70, rfl, rfl, hC73⟩ := Rw67
          refine hK _ _ ?_
          clear hK K
          refine q_seg (S := (fun x_ => St w0 x_ (Res.box b [Value.slice A n c, Value.int .i64 ix71, Value.int .i64 hx72] 70 :: Res.row (Value.slice A2 (List.length L) c2) 44 2 (List.length L) (flat true ys3) :: Res.box blk4 [Value.slice A2 (List.length L) c2] 32 :: Res.box blk2 [Value.slice none 0 0] 32 :: ((ys3.map (It.row .i64 3)) ++ tl)))) [(50, Value.bool ed70)] [.v (.bool false)] ((false = false)) (by kernel_rfl) rfl hS67 ?_
          refine l_nil rfl ?_
          refine then_n ?_
          rcases Bool.eq_false_or_eq_true (ed70) with hb74 | hb74
          · skip
            refine c_true (b := ed70) (by kernel_rfl) hb74 ?_
            refine c_reg ?_
            refine q_seg (S := (fun x_ => St w0 x_ (Res.box b [Value.slice A n c, Value.int .i64 ix71, Value.int .i64 hx72] 70 :: Res.row (Value.slice A2 (List.length L) c2) 44 2 (List.length L) (flat true ys3) :: Res.box blk4 [Value.slice A2 (List.length L) c2] 32 :: Res.box blk2 [Value.slice none 0 0] 32 :: ((ys3.map (It.row .i64 3)) ++ tl)))) [(53, Value.int .i64 ((j : Nat) : Int)), (52, Value.int .i64 ((a : Nat) : Int)), (51, Value.agg #[Value.slice A2 (List.length L) c2])] [.v (Value.agg #[Value.slice A2 (List.length L) c2]), .no, .no] ((LoadsAt Try.prog (fun x_ => St w0 x_ (Res.box b [Value.slice A n c, Value.int .i64 ix71, Value.int .i64 hx72] 70 :: Res.row (Value.slice A2 (List.length L) c2) 44 2 (List.length L) (flat true ys3) :: Res.box blk4 [Value.slice A2 (List.length L) c2] 32 :: Res.box blk2 [Value.slice none 0 0] 32 :: ((ys3.map (It.row .i64 3)) ++ tl))) 32 ⟨blk4, 0, none⟩ (Value.agg #[Value.slice A2 (List.length L) c2]))) (by kernel_rfl) (ld_boxN (i := 2) (k := 1) rfl rfl rfl (by kernel_rfl)) hS67 ?_
            refine l_op rfl rfl (fun K hK => op_callm (d := some 54) rfl rfl ⟨_, Try.func53, by kernel_rfl, by kernel_rfl⟩ (vs := [Value.agg #[Value.slice A2 (List.length L) c2], Value.int .i64 ((a : Nat) : Int), Value.int .i64 ((j : Nat) : Int)]) (by kernel_rfl) (l10Join_c A2 (List.length L) c2 a j (5 + 10 * j + 2 * a) ys3 _ w0 w67 ((St.frontB [Res.box b [Value.slice A n c, Value.int .i64 ix71, Value.int .i64 hx72] 70] (Res.row (Value.slice A2 (List.length L) c2) 44 2 (List.length L) (flat true ys3)) [Res.box blk4 [Value.slice A2 (List.length L) c2] 32, Res.box blk2 [Value.slice none 0 0] 32] [] (ys3.map (It.row .i64 3)) tl hS67)) ((con_len hyL3).trans hlL3) (by rw [hyL3]; exact hoL3) (by rw [hyL3]; omega) (by omega) (by omega) (by omega) (by omega)) (fun v76 new77 w75 Rw75 hS75 => hK _ _ ?_))
            clear hK K
            obtain ⟨Lj78, yj79, rfl, rfl, Lj78c, Lj78l, Lj78o, Lj78w⟩ := Rw75
            have hS75r : St w0 w75 (Res.row (Value.slice A2 (List.length L) c2) 44 2 (List.length L) (flat true yj79) :: Res.box b [Value.slice A n c, Value.int .i64 ix71, Value.int .i64 hx72] 70 :: Res.box blk4 [Value.slice A2 (List.length L) c2] 32 :: Res.box blk2 [Value.slice none 0 0] 32 :: ((yj79.map (It.row .i64 3)) ++ tl)) := St.backB (Res.row (Value.slice A2 (List.length L) c2) 44 2 (List.length L) (flat true yj79)) (yj79.map (It.row .i64 3)) [Res.box b [Value.slice A n c, Value.int .i64 ix71, Value.int .i64 hx72] 70, Res.box blk4 [Value.slice A2 (List.length L) c2] 32, Res.box blk2 [Value.slice none 0 0] 32] tl hS75
            refine l_nil rfl ?_
            refine blk_n ?_
            refine then_n ?_
            refine c_reg ?_
            refine q_seg (S := (fun x_ => St w0 x_ (Res.row (Value.slice A2 (List.length L) c2) 44 2 (List.length L) (flat true yj79) :: Res.box b [Value.slice A n c, Value.int .i64 ix71, Value.int .i64 hx72] 70 :: Res.box blk4 [Value.slice A2 (List.length L) c2] 32 :: Res.box blk2 [Value.slice none 0 0] 32 :: ((yj79.map (It.row .i64 3)) ++ tl)))) [(7, Value.int .i64 (((a : Nat) : Int) + (1 : Int))), (37, Value.int .i64 (((a : Nat) : Int) + (1 : Int))), (36, Value.int .i64 ((a : Nat) : Int))] [.no, .no, .no] ((InK .i64 (((a : Nat) : Int) + (1 : Int)))) (by kernel_rfl) (in64 (by omega) (by omega)) hS75r ?_
            refine l_nil rfl ?_
            refine then_n ?_
            refine round_end ((a + 1, Lj78, yj79, ix71, hx72)) ?_ ?_ ?_
            · exact (agree_cons (by kernel_rfl) (agree_cons (by kernel_rfl) (agree_cons (by kernel_rfl) (agree_cons (by kernel_rfl) (agree_cons (by kernel_rfl) (agree_cons (by kernel_rfl) (agree_cons (by kernel_rfl) (agree_cons (by kernel_rfl) (agree_cons (by kernel_rfl) agree_nil)))))))))
            · exact ⟨hC73, (by omega), (by omega), Lj78l, Lj78c, Lj78o, (by omega), hS75r⟩
            · exact (by first | omega | (dsimp only; omega))
          · skip
            refine c_false (b := ed70) (by kernel_rfl) hb74 ?_
            refine wp_skip ?_
            refine blk_n ?_
            refine then_n ?_
            refine c_reg ?_
            refine q_seg (S := (fun x_ => St w0 x_ (Res.box b [Value.slice A n c, Value.int .i64 ix71, Value.int .i64 hx72] 70 :: Res.row (Value.slice A2 (List.length L) c2) 44 2 (List.length L) (flat true ys3) :: Res.box blk4 [Value.slice A2 (List.length L) c2] 32 :: Res.box blk2 [Value.slice none 0 0] 32 :: ((ys3.map (It.row .i64 3)) ++ tl)))) [(7, Value.int .i64 (((a : Nat) : Int) + (1 : Int))), (37, Value.int .i64 (((a : Nat) : Int) + (1 : Int))), (36, Value.int .i64 ((a : Nat) : Int))] [.no, .no, .no] ((InK .i64 (((a : Nat) : Int) + (1 : Int)))) (by kernel_rfl) (in64 (by omega) (by omega)) hS67 ?_
            refine l_nil rfl ?_
            refine then_n ?_
            have hS67s15 : St w0 w67 (Res.box blk2 [Value.slice none 0 0] 32 :: Res.box b [Value.slice A n c, Value.int .i64 ix71, Value.int .i64 hx72] 70 :: Res.row (Value.slice A2 (List.length L) c2) 44 2 (List.length L) (flat true ys3) :: Res.box blk4 [Value.slice A2 (List.length L) c2] 32 :: ((ys3.map (It.row .i64 3)) ++ tl)) := hS67.front 3 rfl
            have hS67s15s16 : St w0 w67 (Res.box blk4 [Value.slice A2 (List.length L) c2] 32 :: Res.box blk2 [Value.slice none 0 0] 32 :: Res.box b [Value.slice A n c, Value.int .i64 ix71, Value.int .i64 hx72] 70 :: Res.row (Value.slice A2 (List.length L) c2) 44 2 (List.length L) (flat true ys3) :: ((ys3.map (It.row .i64 3)) ++ tl)) := hS67s15.front 3 rfl
            have hS67s15s16s17 : St w0 w67 (Res.box b [Value.slice A n c, Value.int .i64 ix71, Value.int .i64 hx72] 70 :: Res.box blk4 [Value.slice A2 (List.length L) c2] 32 :: Res.box blk2 [Value.slice none 0 0] 32 :: Res.row (Value.slice A2 (List.length L) c2) 44 2 (List.length L) (flat true ys3) :: ((ys3.map (It.row .i64 3)) ++ tl)) := hS67s15s16.front 2 rfl
            have hS67s15s16s17s18 : St w0 w67 (Res.row (Value.slice A2 (List.length L) c2) 44 2 (List.length L) (flat true ys3) :: Res.box b [Value.slice A n c, Value.int .i64 ix71, Value.int .i64 hx72] 70 :: Res.box blk4 [Value.slice A2 (List.length L) c2] 32 :: Res.box blk2 [Value.slice none 0 0] 32 :: ((ys3.map (It.row .i64 3)) ++ tl)) := hS67s15s16s17.front 3 rfl
            refine round_end ((a + 1, L3, ys3, ix71, hx72)) ?_ ?_ ?_
            · exact (agree_cons (by kernel_rfl) (agree_cons (by kernel_rfl) (agree_cons (by kernel_rfl) (agree_cons (by kernel_rfl) (agree_cons (by kernel_rfl) (agree_cons (by kernel_rfl) (agree_cons (by kernel_rfl) (agree_cons (by kernel_rfl) (agree_cons (by kernel_rfl) agree_nil)))))))))
            · exact ⟨hC73, (by omega), (by omega), hlL3, hyL3, hoL3, (by omega), hS67s15s16s17s18⟩
            · exact (by first | omega | (dsimp only; omega))
      · skip
        have hb39p := of_decide_eq_false hb39
        refine c_false (b := (decide (((a : Nat) : Int) < ((j : Nat) : Int)))) (by kernel_rfl) hb39 ?_
        refine wp_exit ?_
        refine then_x ?_
        refine then_x ?_
        refine blk_hit ?_
        refine blk_n ?_
        refine then_n ?_
        refine c_reg ?_
        refine q_seg (S := (fun x_ => St w0 x_ (Res.row (Value.slice A2 (List.length L) c2) 44 2 (List.length L) (flat true ys3) :: Res.box b [Value.slice A n c, Value.int .i64 ic3, Value.int .i64 hc3] 70 :: Res.box blk4 [Value.slice A2 (List.length L) c2] 32 :: Res.box blk2 [Value.slice none 0 0] 32 :: ((ys3.map (It.row .i64 3)) ++ tl)))) [(6, Value.int .i64 (((j : Nat) : Int) + (1 : Int))), (32, Value.int .i64 (((j : Nat) : Int) + (1 : Int))), (31, Value.int .i64 ((j : Nat) : Int))] [.no, .no, .no] ((InK .i64 (((j : Nat) : Int) + (1 : Int)))) (by kernel_rfl) (in64 (by omega) (by omega)) hS37 ?_
        refine l_nil rfl ?_
        refine then_n ?_
        refine round_end ((j + 1, L3, ys3, ic3, hc3)) ?_ ?_ ?_
        · exact (agree_cons (by kernel_rfl) (agree_cons (by kernel_rfl) (agree_cons (by kernel_rfl) (agree_cons (by kernel_rfl) (agree_cons (by kernel_rfl) agree_nil)))))
        · exact ⟨hCl3, (by omega), (by omega), hlL3, hyL3, hoL3, (by omega), hS37⟩
        · exact (by first | omega | (dsimp only; omega))
    · skip
      have hb36p := of_decide_eq_false hb36
      refine c_false (b := (decide (((j : Nat) : Int) < ((2 : Int) + xd9)))) (by kernel_rfl) hb36 ?_
      refine wp_exit ?_
      refine then_x ?_
      refine then_x ?_
      refine blk_hit ?_
      refine then_n ?_
      refine wp_seq ?_
      refine wp_seq ?_
      refine c_reg ?_
      refine q_seg (S := (fun x_ => St w0 x_ (Res.row (Value.slice A2 (List.length L) c2) 44 2 (List.length L) (flat true ys2) :: Res.box b [Value.slice A n c, Value.int .i64 ic2, Value.int .i64 hc2] 70 :: Res.box blk4 [Value.slice A2 (List.length L) c2] 32 :: Res.box blk2 [Value.slice none 0 0] 32 :: ((ys2.map (It.row .i64 3)) ++ tl)))) [(8, Value.int .i64 0)] [.no] True (by kernel_rfl) trivial hS34 ?_
      refine l_nil rfl ?_
      refine then_n ?_
      refine wp_block ?_
      obtain ⟨blk80, rfl⟩ := hS34.row_at (List.mem_of_getElem? (i := 0) rfl) (by omega)
      refine c_loop (X := Nat × List (Int × List Int) × List It) (fun (x_ : Nat × List (Int × List Int) × List It) => match x_ with | (i4, L4, ys4) => [(2, Value.pointer (some ⟨blk2, 0, none⟩)), (3, Value.pointer (some ⟨blk4, 0, none⟩)), (4, Value.int .i64 ((2 : Int) + xd9)), (8, Value.int .i64 ((i4 : Nat) : Int))]) (fun (x_ : Nat × List (Int × List Int) × List It) (wr : World) => match x_ with | (i4, L4, ys4) => (((i4 : Nat) : Int) ≤ ((2 : Int) + xd9)) ∧ (List.length L4 = (List.length L)) ∧ (ys4.map (con true) = L4) ∧ (okL .i64 L4) ∧ (wt L4 ≤ 100 + 10 * i4) ∧ St w0 wr (Res.row (Value.slice (some ⟨blk80, 0, none⟩) (List.length L) c2) 44 2 (List.length L) (flat true ys4) :: Res.box b [Value.slice A n c, Value.int .i64 ic2, Value.int .i64 hc2] 70 :: Res.box blk4 [Value.slice (some ⟨blk80, 0, none⟩) (List.length L) c2] 32 :: Res.box blk2 [Value.slice none 0 0] 32 :: ((ys4.map (It.row .i64 3)) ++ tl))) (fun (x_ : Nat × List (Int × List Int) × List It) => match x_ with | (i4, L4, ys4) => Int.toNat ((2 : Int) + xd9) - i4) ((0, L2, ys2)) ?_ ?_ ?_
      · exact (agree_cons (by kernel_rfl) (agree_cons (by kernel_rfl) (agree_cons (by kernel_rfl) (agree_cons (by kernel_rfl) agree_nil))))
      · exact ⟨(by omega), hlL2, hyL2, hoL2, (by omega), hS34⟩
      rintro ⟨i4, L4, ys4⟩ g82 w81 ⟨hi4, hlL4, hyL4, hoL4, hwt4, hS81⟩
      refine wp_seq ?_
      refine wp_seq ?_
      refine c_reg ?_
      refine q_seg (S := (fun x_ => St w0 x_ (Res.row (Value.slice (some ⟨blk80, 0, none⟩) (List.length L) c2) 44 2 (List.length L) (flat true ys4) :: Res.box b [Value.slice A n c, Value.int .i64 ic2, Value.int .i64 hc2] 70 :: Res.box blk4 [Value.slice (some ⟨blk80, 0, none⟩) (List.length L) c2] 32 :: Res.box blk2 [Value.slice none 0 0] 32 :: ((ys4.map (It.row .i64 3)) ++ tl)))) [(57, Value.bool (decide (((i4 : Nat) : Int) < ((2 : Int) + xd9)))), (56, Value.int .i64 ((2 : Int) + xd9)), (55, Value.int .i64 ((i4 : Nat) : Int))] [.no, .no, .no] True (by kernel_rfl) trivial hS81 ?_
      refine l_nil rfl ?_
      refine then_n ?_
      rcases Bool.eq_false_or_eq_true (decide (((i4 : Nat) : Int) < ((2 : Int) + xd9))) with hb83 | hb83
      · skip
        have hb83p := of_decide_eq_true hb83
        have hly4 := con_len hyL4
        obtain ⟨y4, hy4, _⟩ := get_of_lt (l := ys4) (k := i4) (by omega)
        obtain ⟨hy4a, hy4b, hy4c⟩ := el_facts hy4 (by rw [hyL4]; exact hoL4) (show wt (List.map (con true) ys4) ≤ 100 + 10 * i4 by rw [hyL4]; exact hwt4)
        refine c_true (b := (decide (((i4 : Nat) : Int) < ((2 : Int) + xd9)))) (by kernel_rfl) hb83 ?_
        refine wp_skip ?_
        refine then_n ?_
        refine wp_seq ?_
        refine wp_block ?_
        refine wp_seq ?_
        refine c_reg ?_
        refine l_op rfl rfl (fun K hK => op_buildSlice (d := some 60) rfl rfl (e := 3) (by kernel_rfl) 1 (by kernel_rfl) (by decide) (by decide) [] (by kernel_rfl) rfl hS81 (fun blk85 w84 hS84 => hK _ _ ?_))
        clear hK K
        refine q_seg (S := (fun x_ => St w0 x_ (Res.row (Value.slice (some ⟨blk85, 0, none⟩) 0 0) 3 1 0 ([]) :: Res.row (Value.slice (some ⟨blk80, 0, none⟩) (List.length L) c2) 44 2 (List.length L) (flat true ys4) :: Res.box b [Value.slice A n c, Value.int .i64 ic2, Value.int .i64 hc2] 70 :: Res.box blk4 [Value.slice (some ⟨blk80, 0, none⟩) (List.length L) c2] 32 :: Res.box blk2 [Value.slice none 0 0] 32 :: ((ys4.map (It.row .i64 3)) ++ tl)))) [(9, Value.slice (some ⟨blk85, 0, none⟩) 0 0)] [.no] True (by kernel_rfl) trivial hS84 ?_
        refine l_nil rfl ?_
        refine then_n ?_
        refine wp_seq ?_
        refine wp_seq ?_
        refine c_reg ?_
        refine q_seg (S := (fun x_ => St w0 x_ (Res.row (Value.slice (some ⟨blk85, 0, none⟩) 0 0) 3 1 0 ([]) :: Res.row (Value.slice (some ⟨blk80, 0, none⟩) (List.length L) c2) 44 2 (List.length L) (flat true ys4) :: Res.box b [Value.slice A n c, Value.int .i64 ic2, Value.int .i64 hc2] 70 :: Res.box blk4 [Value.slice (some ⟨blk80, 0, none⟩) (List.length L) c2] 32 :: Res.box blk2 [Value.slice none 0 0] 32 :: ((ys4.map (It.row .i64 3)) ++ tl)))) [(10, Value.int .i64 0)] [.no] True (by kernel_rfl) trivial hS84 ?_
        refine l_nil rfl ?_
        refine then_n ?_
        refine wp_block ?_
        refine c_loop (X := Nat × List Int × Option Addr × Nat) (fun (x_ : Nat × List Int × Option Addr × Nat) => match x_ with | (k, zs5, A5, c5) => [(2, Value.pointer (some ⟨blk2, 0, none⟩)), (3, Value.pointer (some ⟨blk4, 0, none⟩)), (4, Value.int .i64 ((2 : Int) + xd9)), (8, Value.int .i64 ((i4 : Nat) : Int)), (9, Value.slice A5 (List.length zs5) c5), (10, Value.int .i64 ((k : Nat) : Int)), (55, Value.int .i64 ((i4 : Nat) : Int)), (56, Value.int .i64 ((2 : Int) + xd9)), (57, Value.bool (decide (((i4 : Nat) : Int) < ((2 : Int) + xd9)))), (60, Value.slice (some ⟨blk85, 0, none⟩) 0 0)]) (fun (x_ : Nat × List Int × Option Addr × Nat) (wr : World) => match x_ with | (k, zs5, A5, c5) => (((k : Nat) : Int) ≤ ((2 : Int) + xd9)) ∧ (okz .i64 zs5) ∧ (List.length zs5 ≤ k) ∧ St w0 wr (Res.row (Value.slice A5 (List.length zs5) c5) 3 1 (List.length zs5) (zs5.map (Value.int .i64)) :: Res.row (Value.slice (some ⟨blk80, 0, none⟩) (List.length L) c2) 44 2 (List.length L) (flat true ys4) :: Res.box b [Value.slice A n c, Value.int .i64 ic2, Value.int .i64 hc2] 70 :: Res.box blk4 [Value.slice (some ⟨blk80, 0, none⟩) (List.length L) c2] 32 :: Res.box blk2 [Value.slice none 0 0] 32 :: ((ys4.map (It.row .i64 3)) ++ tl))) (fun (x_ : Nat × List Int × Option Addr × Nat) => match x_ with | (k, zs5, A5, c5) => Int.toNat ((2 : Int) + xd9) - k) ((0, [], (some ⟨blk85, 0, none⟩), 0)) ?_ ?_ ?_
        · exact (agree_cons (by kernel_rfl) (agree_cons (by kernel_rfl) (agree_cons (by kernel_rfl) (agree_cons (by kernel_rfl) (agree_cons (by kernel_rfl) (agree_cons (by kernel_rfl) (agree_cons (by kernel_rfl) (agree_cons (by kernel_rfl) (agree_cons (by kernel_rfl) (agree_cons (by kernel_rfl) agree_nil))))))))))
        · exact ⟨(by omega), (okz_nil _), (Nat.le_refl _), hS84⟩
        rintro ⟨k, zs5, A5, c5⟩ g87 w86 ⟨hk5, hoz5, hlz5, hS86⟩
        refine wp_seq ?_
        refine wp_seq ?_
        refine c_reg ?_
        refine q_seg (S := (fun x_ => St w0 x_ (Res.row (Value.slice A5 (List.length zs5) c5) 3 1 (List.length zs5) (zs5.map (Value.int .i64)) :: Res.row (Value.slice (some ⟨blk80, 0, none⟩) (List.length L) c2) 44 2 (List.length L) (flat true ys4) :: Res.box b [Value.slice A n c, Value.int .i64 ic2, Value.int .i64 hc2] 70 :: Res.box blk4 [Value.slice (some ⟨blk80, 0, none⟩) (List.length L) c2] 32 :: Res.box blk2 [Value.slice none 0 0] 32 :: ((ys4.map (It.row .i64 3)) ++ tl)))) [(63, Value.bool (decide (((k : Nat) : Int) < ((2 : Int) + xd9)))), (62, Value.int .i64 ((2 : Int) + xd9)), (61, Value.int .i64 ((k : Nat) : Int))] [.no, .no, .no] True (by kernel_rfl) trivial hS86 ?_
        refine l_nil rfl ?_
        refine then_n ?_
        rcases Bool.eq_false_or_eq_true (decide (((k : Nat) : Int) < ((2 : Int) + xd9))) with hb88 | hb88
        · skip
          have hb88p := of_decide_eq_true hb88
          refine c_true (b := (decide (((k : Nat) : Int) < ((2 : Int) + xd9)))) (by kernel_rfl) hb88 ?_
          refine wp_skip ?_
          refine then_n ?_
          refine wp_seq ?_
          refine wp_block ?_
          refine wp_seq ?_
          refine c_reg ?_
          refine q_seg (S := (fun x_ => St w0 x_ (Res.row (Value.slice A5 (List.length zs5) c5) 3 1 (List.length zs5) (zs5.map (Value.int .i64)) :: Res.row (Value.slice (some ⟨blk80, 0, none⟩) (List.length L) c2) 44 2 (List.length L) (flat true ys4) :: Res.box b [Value.slice A n c, Value.int .i64 ic2, Value.int .i64 hc2] 70 :: Res.box blk4 [Value.slice (some ⟨blk80, 0, none⟩) (List.length L) c2] 32 :: Res.box blk2 [Value.slice none 0 0] 32 :: ((ys4.map (It.row .i64 3)) ++ tl)))) [(72, Value.int .i64 ((k : Nat) : Int)), (71, Value.slice y4.A y4.zs.length y4.c), (70, Value.pointer (some ⟨blk80, 0 + Int.toNat ((i4 : Nat) : Int) * 2 + 1, none⟩)), (69, Value.pointer (some ⟨blk80, 0 + Int.toNat ((i4 : Nat) : Int) * 2, none⟩)), (68, Value.int .i64 ((i4 : Nat) : Int)), (67, Value.slice (some ⟨blk80, 0, none⟩) (List.length L) c2), (66, Value.pointer (some ⟨blk4, 0 + 0, none⟩))] [.no, .v (Value.slice (some ⟨blk80, 0, none⟩) (List.length L) c2), .no, .no, .no, .v (Value.slice y4.A y4.zs.length y4.c), .no] ((LoadsAt Try.prog (fun x_ => St w0 x_ (Res.row (Value.slice A5 (List.length zs5) c5) 3 1 (List.length zs5) (zs5.map (Value.int .i64)) :: Res.row (Value.slice (some ⟨blk80, 0, none⟩) (List.length L) c2) 44 2 (List.length L) (flat true ys4) :: Res.box b [Value.slice A n c, Value.int .i64 ic2, Value.int .i64 hc2] 70 :: Res.box blk4 [Value.slice (some ⟨blk80, 0, none⟩) (List.length L) c2] 32 :: Res.box blk2 [Value.slice none 0 0] 32 :: ((ys4.map (It.row .i64 3)) ++ tl))) 30 ⟨blk4, 0 + 0, none⟩ (Value.slice (some ⟨blk80, 0, none⟩) (List.length L) c2)) ∧ ((0 : Int) ≤ ((i4 : Nat) : Int)) ∧ (((i4 : Nat) : Int) < (((List.length L) : Nat) : Int)) ∧ (LoadsAt Try.prog (fun x_ => St w0 x_ (Res.row (Value.slice A5 (List.length zs5) c5) 3 1 (List.length zs5) (zs5.map (Value.int .i64)) :: Res.row (Value.slice (some ⟨blk80, 0, none⟩) (List.length L) c2) 44 2 (List.length L) (flat true ys4) :: Res.box b [Value.slice A n c, Value.int .i64 ic2, Value.int .i64 hc2] 70 :: Res.box blk4 [Value.slice (some ⟨blk80, 0, none⟩) (List.length L) c2] 32 :: Res.box blk2 [Value.slice none 0 0] 32 :: ((ys4.map (It.row .i64 3)) ++ tl))) 35 ⟨blk80, 0 + Int.toNat ((i4 : Nat) : Int) * 2 + 1, none⟩ (Value.slice y4.A y4.zs.length y4.c))) (by kernel_rfl) ⟨(ld_box (i := 3) rfl rfl (by kernel_rfl)), (by omega), (by omega), (ld_row (i := 1) rfl (flat_at1 (p := true) (r := 1) hy4 rfl (by simp only [csz, Int.toNat_natCast]; omega)) (by kernel_rfl))⟩ hS86 ?_
          refine l_op rfl rfl (fun K hK => op_callv (d := some 73) rfl rfl ⟨_, Try.func44, by kernel_rfl, by kernel_rfl⟩ (vs := [Value.slice y4.A y4.zs.length y4.c, Value.int .i64 ((k : Nat) : Int)]) (by kernel_rfl) (v := Value.bool (decide (((k : Nat) : Int) ∈ y4.zs))) (l10Has_c y4.A y4.zs.length y4.c y4.zs ((k : Nat) : Int) w86 (by omega) ((hS86.rd (show Res.row (Value.slice y4.A y4.zs.length y4.c) 3 1 y4.zs.length (y4.zs.map (Value.int .i64)) ∈ _ from (List.mem_cons_of_mem _ (List.mem_cons_of_mem _ (List.mem_cons_of_mem _ (List.mem_cons_of_mem _ (List.mem_cons_of_mem _ (List.mem_append_left _ (List.mem_map_of_mem (f := (It.row .i64 3)) (List.mem_of_getElem? hy4)))))))))).u1)) hS86 (fun w89 hS89 => hK _ _ ?_))
          clear hK K
          refine l_nil rfl ?_
          refine then_n ?_
          rcases Bool.eq_false_or_eq_true (decide (((k : Nat) : Int) ∈ y4.zs)) with hb90 | hb90
          · skip
            have hb90p := of_decide_eq_true hb90
            refine c_true (b := (decide (((k : Nat) : Int) ∈ y4.zs))) (by kernel_rfl) hb90 ?_
            refine c_reg ?_
            refine q_seg (S := (fun x_ => St w0 x_ (Res.row (Value.slice A5 (List.length zs5) c5) 3 1 (List.length zs5) (zs5.map (Value.int .i64)) :: Res.row (Value.slice (some ⟨blk80, 0, none⟩) (List.length L) c2) 44 2 (List.length L) (flat true ys4) :: Res.box b [Value.slice A n c, Value.int .i64 ic2, Value.int .i64 hc2] 70 :: Res.box blk4 [Value.slice (some ⟨blk80, 0, none⟩) (List.length L) c2] 32 :: Res.box blk2 [Value.slice none 0 0] 32 :: ((ys4.map (It.row .i64 3)) ++ tl)))) [(75, Value.int .i64 ((k : Nat) : Int)), (74, Value.slice A5 (List.length zs5) c5)] [.no, .no] True (by kernel_rfl) trivial hS89 ?_
            refine l_op rfl rfl (fun K hK => op_buildSlice (d := some 76) rfl rfl (e := 3) (by kernel_rfl) 1 (by kernel_rfl) (by decide) (by decide) [Value.int .i64 ((k : Nat) : Int)] (by kernel_rfl) rfl hS89 (fun blk92 w91 hS91 => hK _ _ ?_))
            clear hK K
            refine l_op rfl rfl (fun K hK => op_append (d := some 77) rfl rfl elInt hS91 (i := 1) rfl rfl rfl (news := [Value.int .i64 ((k : Nat) : Int)]) (hS91.rd (List.mem_of_getElem? (i := 0) rfl)) (all_one (by rfl)) (by omega) (by omega) (fun v94 w93 hS93 => hK _ _ ?_))
            clear hK K
            obtain ⟨hlv94, Av94, cv94, hvv94, hnv94, hmv94⟩ := hS93.row_slice (List.mem_of_getElem? (i := 1) rfl)
            subst hvv94
            refine q_seg (S := (fun x_ => St w0 x_ (Res.row (Value.slice (some ⟨blk92, 0, none⟩) 1 1) 3 1 1 ([Value.int .i64 ((k : Nat) : Int)]) :: Res.row (Value.slice Av94 ((List.length zs5) + 1) cv94) 3 1 ((List.length zs5) + 1) ((zs5.map (Value.int .i64)) ++ [Value.int .i64 ((k : Nat) : Int)]) :: Res.row (Value.slice (some ⟨blk80, 0, none⟩) (List.length L) c2) 44 2 (List.length L) (flat true ys4) :: Res.box b [Value.slice A n c, Value.int .i64 ic2, Value.int .i64 hc2] 70 :: Res.box blk4 [Value.slice (some ⟨blk80, 0, none⟩) (List.length L) c2] 32 :: Res.box blk2 [Value.slice none 0 0] 32 :: ((ys4.map (It.row .i64 3)) ++ tl)))) [(9, Value.slice Av94 ((List.length zs5) + 1) cv94)] [.no] True (by kernel_rfl) trivial hS93 ?_
            refine l_nil rfl ?_
            refine blk_n ?_
            refine then_n ?_
            refine c_reg ?_
            refine q_seg (S := (fun x_ => St w0 x_ (Res.row (Value.slice (some ⟨blk92, 0, none⟩) 1 1) 3 1 1 ([Value.int .i64 ((k : Nat) : Int)]) :: Res.row (Value.slice Av94 ((List.length zs5) + 1) cv94) 3 1 ((List.length zs5) + 1) ((zs5.map (Value.int .i64)) ++ [Value.int .i64 ((k : Nat) : Int)]) :: Res.row (Value.slice (some ⟨blk80, 0, none⟩) (List.length L) c2) 44 2 (List.length L) (flat true ys4) :: Res.box b [Value.slice A n c, Value.int .i64 ic2, Value.int .i64 hc2] 70 :: Res.box blk4 [Value.slice (some ⟨blk80, 0, none⟩) (List.length L) c2] 32 :: Res.box blk2 [Value.slice none 0 0] 32 :: ((ys4.map (It.row .i64 3)) ++ tl)))) [(10, Value.int .i64 (((k : Nat) : Int) + (1 : Int))), (65, Value.int .i64 (((k : Nat) : Int) + (1 : Int))), (64, Value.int .i64 ((k : Nat) : Int))] [.no, .no, .no] ((InK .i64 (((k : Nat) : Int) + (1 : Int)))) (by kernel_rfl) (in64 (by omega) (by omega)) hS93 ?_
            refine l_nil rfl ?_
            refine then_n ?_
            have hS93s19 : St w0 w93 (Res.row (Value.slice Av94 ((List.length zs5) + 1) cv94) 3 1 ((List.length zs5) + 1) ((zs5.map (Value.int .i64)) ++ [Value.int .i64 ((k : Nat) : Int)]) :: Res.row (Value.slice (some ⟨blk80, 0, none⟩) (List.length L) c2) 44 2 (List.length L) (flat true ys4) :: Res.box b [Value.slice A n c, Value.int .i64 ic2, Value.int .i64 hc2] 70 :: Res.box blk4 [Value.slice (some ⟨blk80, 0, none⟩) (List.length L) c2] 32 :: Res.box blk2 [Value.slice none 0 0] 32 :: ((ys4.map (It.row .i64 3)) ++ tl)) := (hS93.sub (List.Sublist.cons _ (List.Sublist.cons_cons _ (List.Sublist.cons_cons _ (List.Sublist.cons_cons _ (List.Sublist.cons_cons _ (List.Sublist.cons_cons _ (List.Sublist.append (List.Sublist.refl _) (List.Sublist.refl _)))))))))
            refine round_end ((k + 1, (zs5 ++ [((k : Nat) : Int)]), Av94, cv94)) ?_ ?_ ?_
            · exact (agree_cons (by kernel_rfl) (agree_cons (by kernel_rfl) (agree_cons (by kernel_rfl) (agree_cons (by kernel_rfl) (agree_eq (v0 := Value.slice Av94 ((List.length zs5) + 1) cv94) (by kernel_rfl) (congrArg (fun m => Value.slice Av94 m cv94) (by simp)) (agree_cons (by kernel_rfl) (agree_cons (by kernel_rfl) (agree_cons (by kernel_rfl) (agree_cons (by kernel_rfl) (agree_cons (by kernel_rfl) agree_nil))))))))))
            · exact ⟨(by omega), (okz_snoc64 hoz5 (by omega) (by omega)), (by rw [List.length_append, List.length_singleton]; omega), (hS93s19.eqv (by simp))⟩
            · exact (by first | omega | (dsimp only; omega))
          · skip
            have hb90p := of_decide_eq_false hb90
            refine c_false (b := (decide (((k : Nat) : Int) ∈ y4.zs))) (by kernel_rfl) hb90 ?_
            refine wp_skip ?_
            refine blk_n ?_
            refine then_n ?_
            refine c_reg ?_
            refine q_seg (S := (fun x_ => St w0 x_ (Res.row (Value.slice A5 (List.length zs5) c5) 3 1 (List.length zs5) (zs5.map (Value.int .i64)) :: Res.row (Value.slice (some ⟨blk80, 0, none⟩) (List.length L) c2) 44 2 (List.length L) (flat true ys4) :: Res.box b [Value.slice A n c, Value.int .i64 ic2, Value.int .i64 hc2] 70 :: Res.box blk4 [Value.slice (some ⟨blk80, 0, none⟩) (List.length L) c2] 32 :: Res.box blk2 [Value.slice none 0 0] 32 :: ((ys4.map (It.row .i64 3)) ++ tl)))) [(10, Value.int .i64 (((k : Nat) : Int) + (1 : Int))), (65, Value.int .i64 (((k : Nat) : Int) + (1 : Int))), (64, Value.int .i64 ((k : Nat) : Int))] [.no, .no, .no] ((InK .i64 (((k : Nat) : Int) + (1 : Int)))) (by kernel_rfl) (in64 (by omega) (by omega)) hS89 ?_
            refine l_nil rfl ?_
            refine then_n ?_
            refine round_end ((k + 1, zs5, A5, c5)) ?_ ?_ ?_
            · exact (agree_cons (by kernel_rfl) (agree_cons (by kernel_rfl) (agree_cons (by kernel_rfl) (agree_cons (by kernel_rfl) (agree_cons (by kernel_rfl) (agree_cons (by kernel_rfl) (agree_cons (by kernel_rfl) (agree_cons (by kernel_rfl) (agree_cons (by kernel_rfl) (agree_cons (by kernel_rfl) agree_nil))))))))))
            · exact ⟨(by omega), hoz5, (by omega), hS89⟩
            · exact (by first | omega | (dsimp only; omega))
        · skip
          have hb88p := of_decide_eq_false hb88
          refine c_false (b := (decide (((k : Nat) : Int) < ((2 : Int) + xd9)))) (by kernel_rfl) hb88 ?_
          refine wp_exit ?_
          refine then_x ?_
          refine then_x ?_
          refine blk_hit ?_
          refine then_n ?_
          refine c_reg ?_
          refine q_seg (S := (fun x_ => St w0 x_ (Res.row (Value.slice A5 (List.length zs5) c5) 3 1 (List.length zs5) (zs5.map (Value.int .i64)) :: Res.row (Value.slice (some ⟨blk80, 0, none⟩) (List.length L) c2) 44 2 (List.length L) (flat true ys4) :: Res.box b [Value.slice A n c, Value.int .i64 ic2, Value.int .i64 hc2] 70 :: Res.box blk4 [Value.slice (some ⟨blk80, 0, none⟩) (List.length L) c2] 32 :: Res.box blk2 [Value.slice none 0 0] 32 :: ((ys4.map (It.row .i64 3)) ++ tl)))) [(83, Value.pointer (some ⟨blk80, 0 + Int.toNat ((i4 : Nat) : Int) * 2 + 1, none⟩)), (82, Value.pointer (some ⟨blk80, 0 + Int.toNat ((i4 : Nat) : Int) * 2, none⟩)), (81, Value.slice A5 (List.length zs5) c5), (80, Value.int .i64 ((i4 : Nat) : Int)), (79, Value.slice (some ⟨blk80, 0, none⟩) (List.length L) c2), (78, Value.pointer (some ⟨blk4, 0 + 0, none⟩))] [.no, .v (Value.slice (some ⟨blk80, 0, none⟩) (List.length L) c2), .no, .no, .no, .no] ((LoadsAt Try.prog (fun x_ => St w0 x_ (Res.row (Value.slice A5 (List.length zs5) c5) 3 1 (List.length zs5) (zs5.map (Value.int .i64)) :: Res.row (Value.slice (some ⟨blk80, 0, none⟩) (List.length L) c2) 44 2 (List.length L) (flat true ys4) :: Res.box b [Value.slice A n c, Value.int .i64 ic2, Value.int .i64 hc2] 70 :: Res.box blk4 [Value.slice (some ⟨blk80, 0, none⟩) (List.length L) c2] 32 :: Res.box blk2 [Value.slice none 0 0] 32 :: ((ys4.map (It.row .i64 3)) ++ tl))) 30 ⟨blk4, 0 + 0, none⟩ (Value.slice (some ⟨blk80, 0, none⟩) (List.length L) c2)) ∧ ((0 : Int) ≤ ((i4 : Nat) : Int)) ∧ (((i4 : Nat) : Int) < (((List.length L) : Nat) : Int))) (by kernel_rfl) ⟨(ld_box (i := 3) rfl rfl (by kernel_rfl)), (by omega), (by omega)⟩ hS86 ?_
          have hlnw95 := hS86.row_len (List.mem_of_getElem? (i := 1) rfl)
          refine l_op rfl rfl (fun K hK => op_storeRow (d := none) rfl rfl (i := 1) (b := blk80) (off := 0 + Int.toNat ((i4 : Nat) : Int) * 2 + 1) (m := (List.length L)) (cap := c2) (e := 44) (sz := 2) (xs := (flat true ys4)) (by kernel_rfl) (by kernel_rfl) [Value.slice A5 (List.length zs5) c5] (by kernel_rfl) (by kernel_rfl) (by rw [hlnw95]; simp only [List.length_cons, List.length_nil]; omega) (by rfl) (Res.row (Value.slice A5 (List.length zs5) c5) 3 1 (List.length zs5) (zs5.map (Value.int .i64)) :: Res.row (Value.slice (some ⟨blk80, 0, none⟩) (List.length L) c2) 44 2 (List.length L) (List.take (0 + Int.toNat ((i4 : Nat) : Int) * 2 + 1) (flat true ys4) ++ [Value.slice A5 (List.length zs5) c5] ++ List.drop (0 + Int.toNat ((i4 : Nat) : Int) * 2 + 1 + List.length [Value.slice A5 (List.length zs5) c5]) (flat true ys4)) :: Res.box b [Value.slice A n c, Value.int .i64 ic2, Value.int .i64 hc2] 70 :: Res.box blk4 [Value.slice (some ⟨blk80, 0, none⟩) (List.length L) c2] 32 :: Res.box blk2 [Value.slice none 0 0] 32 :: ((ys4.map (It.row .i64 3)) ++ tl)) (by kernel_rfl) hS86 (fun w95 hS95 => hK _ _ ?_))
          clear hK K
          replace hS95 := hS95.eqv (own' := (Res.row (Value.slice A5 (List.length zs5) c5) 3 1 (List.length zs5) (zs5.map (Value.int .i64)) :: Res.row (Value.slice (some ⟨blk80, 0, none⟩) (List.length L) c2) 44 2 (List.length L) (flat true (List.set ys4 i4 (It.mk y4.s A5 c5 zs5))) :: Res.box b [Value.slice A n c, Value.int .i64 ic2, Value.int .i64 hc2] 70 :: Res.box blk4 [Value.slice (some ⟨blk80, 0, none⟩) (List.length L) c2] 32 :: Res.box blk2 [Value.slice none 0 0] 32 :: ((ys4.map (It.row .i64 3)) ++ tl))) (by rw [flat_set_v hy4 (It.mk y4.s A5 c5 zs5) rfl _ (by omega) [Value.slice A5 (List.length zs5) c5] (by simp [It.val])])
          have hS95s20 : St w0 w95 (Res.row (Value.slice A5 (List.length zs5) c5) 3 1 (List.length zs5) (zs5.map (Value.int .i64)) :: Res.row (Value.slice (some ⟨blk80, 0, none⟩) (List.length L) c2) 44 2 (List.length L) (flat true (List.set ys4 i4 (It.mk y4.s A5 c5 zs5))) :: Res.box b [Value.slice A n c, Value.int .i64 ic2, Value.int .i64 hc2] 70 :: Res.box blk4 [Value.slice (some ⟨blk80, 0, none⟩) (List.length L) c2] 32 :: Res.box blk2 [Value.slice none 0 0] 32 :: ((ys4.map (It.row .i64 3)) ++ tl)) := hS95.eqv (by simp)
          have hS95s20s21 : St w0 w95 (Res.row (Value.slice (some ⟨blk80, 0, none⟩) (List.length L) c2) 44 2 (List.length L) (flat true (List.set ys4 i4 (It.mk y4.s A5 c5 zs5))) :: Res.box b [Value.slice A n c, Value.int .i64 ic2, Value.int .i64 hc2] 70 :: Res.box blk4 [Value.slice (some ⟨blk80, 0, none⟩) (List.length L) c2] 32 :: Res.box blk2 [Value.slice none 0 0] 32 :: (((List.set ys4 i4 (It.mk y4.s A5 c5 zs5)).map (It.row .i64 3)) ++ tl)) := St.swapE (κ := .i64) (tb := 3) (ys := ys4) (y' := (It.mk y4.s A5 c5 zs5)) (k := i4) [Res.row (Value.slice (some ⟨blk80, 0, none⟩) (List.length L) c2) 44 2 (List.length L) (flat true (List.set ys4 i4 (It.mk y4.s A5 c5 zs5))), Res.box b [Value.slice A n c, Value.int .i64 ic2, Value.int .i64 hc2] 70, Res.box blk4 [Value.slice (some ⟨blk80, 0, none⟩) (List.length L) c2] 32, Res.box blk2 [Value.slice none 0 0] 32] hS95s20 (by omega)
          obtain ⟨hl6, ho6, hw6, _⟩ := set_facts (y' := (It.mk y4.s A5 c5 zs5)) hy4 (hly4.trans hlL4) (by rw [hyL4]; exact hoL4) (show wt (List.map (con true) ys4) ≤ 100 + 10 * i4 by rw [hyL4]; exact hwt4) hy4a hoz5
          dsimp only at hw6
          have hw7 := hw6
          refine l_nil rfl ?_
          refine blk_n ?_
          refine then_n ?_
          refine c_reg ?_
          refine q_seg (S := (fun x_ => St w0 x_ (Res.row (Value.slice (some ⟨blk80, 0, none⟩) (List.length L) c2) 44 2 (List.length L) (flat true (List.set ys4 i4 (It.mk y4.s A5 c5 zs5))) :: Res.box b [Value.slice A n c, Value.int .i64 ic2, Value.int .i64 hc2] 70 :: Res.box blk4 [Value.slice (some ⟨blk80, 0, none⟩) (List.length L) c2] 32 :: Res.box blk2 [Value.slice none 0 0] 32 :: (((List.set ys4 i4 (It.mk y4.s A5 c5 zs5)).map (It.row .i64 3)) ++ tl)))) [(8, Value.int .i64 (((i4 : Nat) : Int) + (1 : Int))), (59, Value.int .i64 (((i4 : Nat) : Int) + (1 : Int))), (58, Value.int .i64 ((i4 : Nat) : Int))] [.no, .no, .no] ((InK .i64 (((i4 : Nat) : Int) + (1 : Int)))) (by kernel_rfl) (in64 (by omega) (by omega)) hS95s20s21 ?_
          refine l_nil rfl ?_
          refine then_n ?_
          refine round_end ((i4 + 1, (List.map (con true) (List.set ys4 i4 (It.mk y4.s A5 c5 zs5))), (List.set ys4 i4 (It.mk y4.s A5 c5 zs5)))) ?_ ?_ ?_
          · exact (agree_cons (by kernel_rfl) (agree_cons (by kernel_rfl) (agree_cons (by kernel_rfl) (agree_cons (by kernel_rfl) agree_nil))))
          · exact ⟨(by omega), ((List.length_map _).trans hl6), rfl, ho6, (by omega), hS95s20s21⟩
          · exact (by first | omega | (dsimp only; omega))
      · skip
        have hb83p := of_decide_eq_false hb83
        refine c_false (b := (decide (((i4 : Nat) : Int) < ((2 : Int) + xd9)))) (by kernel_rfl) hb83 ?_
        refine wp_exit ?_
        refine then_x ?_
        refine then_x ?_
        refine blk_hit ?_
        refine then_n ?_
        refine wp_seq ?_
        refine c_reg ?_
        refine q_seg (S := (fun x_ => St w0 x_ (Res.row (Value.slice (some ⟨blk80, 0, none⟩) (List.length L) c2) 44 2 (List.length L) (flat true ys4) :: Res.box b [Value.slice A n c, Value.int .i64 ic2, Value.int .i64 hc2] 70 :: Res.box blk4 [Value.slice (some ⟨blk80, 0, none⟩) (List.length L) c2] 32 :: Res.box blk2 [Value.slice none 0 0] 32 :: ((ys4.map (It.row .i64 3)) ++ tl)))) [(84, Value.agg #[Value.slice (some ⟨blk80, 0, none⟩) (List.length L) c2])] [.v (Value.agg #[Value.slice (some ⟨blk80, 0, none⟩) (List.length L) c2])] ((LoadsAt Try.prog (fun x_ => St w0 x_ (Res.row (Value.slice (some ⟨blk80, 0, none⟩) (List.length L) c2) 44 2 (List.length L) (flat true ys4) :: Res.box b [Value.slice A n c, Value.int .i64 ic2, Value.int .i64 hc2] 70 :: Res.box blk4 [Value.slice (some ⟨blk80, 0, none⟩) (List.length L) c2] 32 :: Res.box blk2 [Value.slice none 0 0] 32 :: ((ys4.map (It.row .i64 3)) ++ tl))) 32 ⟨blk4, 0, none⟩ (Value.agg #[Value.slice (some ⟨blk80, 0, none⟩) (List.length L) c2]))) (by kernel_rfl) (ld_boxN (i := 2) (k := 1) rfl rfl rfl (by kernel_rfl)) hS81 ?_
        refine l_op rfl rfl (fun K hK => op_store (d := none) rfl rfl (i := 3) (b := blk2) (off := 0) (cs := [Value.slice none 0 0]) (bt := 32) (by kernel_rfl) (by kernel_rfl) [Value.slice (some ⟨blk80, 0, none⟩) (List.length L) c2] (by kernel_rfl) (by kernel_rfl) (Nat.le_of_ble_eq_true (by kernel_rfl)) (by kernel_rfl) (Res.row (Value.slice (some ⟨blk80, 0, none⟩) (List.length L) c2) 44 2 (List.length L) (flat true ys4) :: Res.box b [Value.slice A n c, Value.int .i64 ic2, Value.int .i64 hc2] 70 :: Res.box blk4 [Value.slice (some ⟨blk80, 0, none⟩) (List.length L) c2] 32 :: Res.box blk2 [Value.slice (some ⟨blk80, 0, none⟩) (List.length L) c2] 32 :: ((ys4.map (It.row .i64 3)) ++ tl)) (by kernel_rfl) hS81 (fun w96 hS96 => hK _ _ ?_))
        clear hK K
        refine l_nil rfl ?_
        refine then_n ?_
        refine wp_ret ?_
        have hS96s22 : St w0 w96 (Res.row (Value.slice (some ⟨blk80, 0, none⟩) (List.length L) c2) 44 2 (List.length L) (flat true ys4) :: Res.box b [Value.slice A n c, Value.int .i64 ic2, Value.int .i64 hc2] 70 :: ((ys4.map (It.row .i64 3)) ++ tl)) := (hS96.sub (List.Sublist.cons_cons _ (List.Sublist.cons_cons _ (List.Sublist.cons _ (List.Sublist.cons _ (List.Sublist.append (List.Sublist.refl _) (List.Sublist.refl _)))))))
        have hSo := St.inB [Res.row (Value.slice (some ⟨blk80, 0, none⟩) (List.length L) c2) 44 2 (List.length L) (flat true ys4), Res.box b [Value.slice A n c, Value.int .i64 ic2, Value.int .i64 hc2] 70] [] [(ys4.map (It.row .i64 3))] tl hS96s22
        exact c_end (S := (fun x_ => St w0 x_ (Res.row (Value.slice (some ⟨blk80, 0, none⟩) (List.length L) c2) 44 2 (List.length L) (flat true ys4) :: Res.box b [Value.slice A n c, Value.int .i64 ic2, Value.int .i64 hc2] 70 :: Res.box blk4 [Value.slice (some ⟨blk80, 0, none⟩) (List.length L) c2] 32 :: Res.box blk2 [Value.slice (some ⟨blk80, 0, none⟩) (List.length L) c2] 32 :: ((ys4.map (It.row .i64 3)) ++ tl)))) (rs := [.cell 2 32]) rfl [Value.agg #[Value.slice (some ⟨blk80, 0, none⟩) (List.length L) c2]] (v := Value.agg #[Value.slice (some ⟨blk80, 0, none⟩) (List.length L) c2]) (C := ((LoadsAt Try.prog (fun x_ => St w0 x_ (Res.row (Value.slice (some ⟨blk80, 0, none⟩) (List.length L) c2) 44 2 (List.length L) (flat true ys4) :: Res.box b [Value.slice A n c, Value.int .i64 ic2, Value.int .i64 hc2] 70 :: Res.box blk4 [Value.slice (some ⟨blk80, 0, none⟩) (List.length L) c2] 32 :: Res.box blk2 [Value.slice (some ⟨blk80, 0, none⟩) (List.length L) c2] 32 :: ((ys4.map (It.row .i64 3)) ++ tl))) 32 ⟨blk2, 0, none⟩ (Value.agg #[Value.slice (some ⟨blk80, 0, none⟩) (List.length L) c2])))) (by kernel_rfl) (ld_boxN (i := 3) (k := 1) rfl rfl rfl (by kernel_rfl)) hS96 (⟨_, _, rfl, hSo, ic2, hc2, L4, (some ⟨blk80, 0, none⟩), c2, ys4, (by first | (rw [hlL4]; done) | (rw [hlL4]; rfl)), (by first | (rw [hlL4]; done) | (rw [hlL4]; rfl)), hCl2, hyL4, hoL4, (by omega), (by omega), (by omega)⟩)
theorem l10Any_s_c (b : Nat) (A : Option Addr) (n c : Nat) (i h : Int)  (tl : List Res) (w0 w : World) (hS : St w0 w (Res.box b [Value.slice A n c, Value.int .i64 i, Value.int .i64 h] 70 :: tl)) (hC : CurI w0 A n i)  : Calls Try.prog 36 #[.pointer (some ⟨b, 0, none⟩)] w (fun e w' => ∃ v own', e = .returned v ∧ St w0 w' own' ∧ (∃ (i' h' : Int) (l_ : List (Int × List Int)) (l_A : Option Addr) (l_c : Nat) (l_y : List It), v = Value.agg #[Value.slice l_A (List.length l_) l_c] ∧ own' = (Res.row (Value.slice l_A (List.length l_) l_c) 44 2 (List.length l_) (flat true l_y) :: Res.box b [Value.slice A n c, Value.int .i64 i', Value.int .i64 h'] 70 :: (((l_y.map (It.row .i64 3)) ++ tl))) ∧ CurI w0 A n i' ∧ (l_y.map (con true) = l_) ∧ (okL .i64 l_) ∧ (List.length l_ ≤ 5) ∧ (wt l_ ≤ 300))) := by
  obtain ⟨hClo, hChi, hCn, _⟩ := id hC
  refine calls_FA Try.func36 rfl (n := 53) rfl (l := [(0, Value.pointer (some ⟨b, 0, none⟩))]) rfl (by simp) (fun g => ?_)
  refine wp_seq ?_
  refine c_reg ?_
  refine l_op rfl rfl (fun K hK => op_alloc (d := some 2) rfl rfl [Value.slice none 0 0] (by kernel_rfl) hS (fun blk2 w1 hS1 => hK _ _ ?_))
  clear hK K
  refine l_nil rfl ?_
  refine then_n ?_
  refine wp_seq ?_
  refine c_reg ?_
  refine q_seg (S := (fun x_ => St w0 x_ (Res.box blk2 [Value.slice none 0 0] 32 :: Res.box b [Value.slice A n c, Value.int .i64 i, Value.int .i64 h] 70 :: tl))) [(5, Value.pointer (some ⟨b, 0, none⟩))] [.no] True (by kernel_rfl) trivial hS1 ?_
  refine l_op rfl rfl (fun K hK => op_callm (d := some 6) rfl rfl ⟨_, Try.func47, by kernel_rfl, by kernel_rfl⟩ (vs := [Value.pointer (some ⟨b, 0, none⟩)]) (by kernel_rfl) (l10Draw_s_c b A n c i h  _ w0 w1 (hS1.front 1 rfl) hC ) (fun v4 new5 w3 Rw3 hS3 => ?_))
  obtain ⟨ix7, hx8, ld6, ld6A, ld6c, ld6y, rfl, rfl, hC9, ld6q, ld6o, hf10, hf11, hf12⟩ := Rw3
  have hS3r : St w0 w3 (Res.row (Value.slice ld6A (List.length ld6) ld6c) 44 2 (List.length ld6) (flat true ld6y) :: Res.box b [Value.slice A n c, Value.int .i64 ix7, Value.int .i64 hx8] 70 :: Res.box blk2 [Value.slice none 0 0] 32 :: ((ld6y.map (It.row .i64 3)) ++ tl)) := St.outB [Res.row (Value.slice ld6A (List.length ld6) ld6c) 44 2 (List.length ld6) (flat true ld6y), Res.box b [Value.slice A n c, Value.int .i64 ix7, Value.int .i64 hx8] 70] [Res.box blk2 [Value.slice none 0 0] 32] [(ld6y.map (It.row .i64 3))] tl hS3
  refine hK _ _ ?_
  clear hK K
  refine l_op rfl rfl (fun K hK => op_alloc (d := some 3) rfl rfl [Value.slice none 0 0] (by kernel_rfl) hS3r (fun blk14 w13 hS13 => hK _ _ ?_))
  clear hK K
  refine l_op rfl rfl (fun K hK => op_store (d := none) rfl rfl (i := 0) (b := blk14) (off := 0) (cs := [Value.slice none 0 0]) (bt := 32) (by kernel_rfl) (by kernel_rfl) [Value.slice ld6A (List.length ld6) ld6c] (by kernel_rfl) (by kernel_rfl) (Nat.le_of_ble_eq_true (by kernel_rfl)) (by kernel_rfl) (Res.box blk14 [Value.slice ld6A (List.length ld6) ld6c] 32 :: Res.row (Value.slice ld6A (List.length ld6) ld6c) 44 2 (List.length ld6) (flat true ld6y) :: Res.box b [Value.slice A n c, Value.int .i64 ix7, Value.int .i64 hx8] 70 :: Res.box blk2 [Value.slice none 0 0] 32 :: ((ld6y.map (It.row .i64 3)) ++ tl)) (by kernel_rfl) hS13 (fun w15 hS15 => hK _ _ ?_))
  clear hK K
  refine l_nil rfl ?_
  refine then_n ?_
  refine wp_seq ?_
  refine c_reg ?_
  refine q_seg (S := (fun x_ => St w0 x_ (Res.box blk14 [Value.slice ld6A (List.length ld6) ld6c] 32 :: Res.row (Value.slice ld6A (List.length ld6) ld6c) 44 2 (List.length ld6) (flat true ld6y) :: Res.box b [Value.slice A n c, Value.int .i64 ix7, Value.int .i64 hx8] 70 :: Res.box blk2 [Value.slice none 0 0] 32 :: ((ld6y.map (It.row .i64 3)) ++ tl)))) [(10, Value.int .i64 (((List.length ld6) : Nat) : Int)), (9, Value.slice ld6A (List.length ld6) ld6c), (8, Value.pointer (some ⟨blk14, 0 + 0, none⟩)), (7, Value.pointer (some ⟨b, 0, none⟩))] [.no, .no, .v (Value.slice ld6A (List.length ld6) ld6c), .no] ((LoadsAt Try.prog (fun x_ => St w0 x_ (Res.box blk14 [Value.slice ld6A (List.length ld6) ld6c] 32 :: Res.row (Value.slice ld6A (List.length ld6) ld6c) 44 2 (List.length ld6) (flat true ld6y) :: Res.box b [Value.slice A n c, Value.int .i64 ix7, Value.int .i64 hx8] 70 :: Res.box blk2 [Value.slice none 0 0] 32 :: ((ld6y.map (It.row .i64 3)) ++ tl))) 30 ⟨blk14, 0 + 0, none⟩ (Value.slice ld6A (List.length ld6) ld6c))) (by kernel_rfl) (ld_box (i := 0) rfl rfl (by kernel_rfl)) hS15 ?_
  refine l_op rfl rfl (fun K hK => op_callm (d := some 11) rfl rfl ⟨_, Try.func38, by kernel_rfl, by kernel_rfl⟩ (vs := [Value.pointer (some ⟨b, 0, none⟩), Value.int .i64 (((List.length ld6) : Nat) : Int)]) (by kernel_rfl) (l1Below_s_c b A n c ix7 hx8 (((List.length ld6) : Nat) : Int) _ w0 w15 (hS15.front 2 rfl) hC9 (by omega)) (fun v17 new18 w16 Rw16 hS16 => ?_))
  obtain ⟨ix20, hx21, xd19, rfl, rfl, hC22, hf23, hf24⟩ := Rw16
  refine hK _ _ ?_
  clear hK K
  refine q_seg (S := (fun x_ => St w0 x_ (Res.box b [Value.slice A n c, Value.int .i64 ix20, Value.int .i64 hx21] 70 :: Res.box blk14 [Value.slice ld6A (List.length ld6) ld6c] 32 :: Res.row (Value.slice ld6A (List.length ld6) ld6c) 44 2 (List.length ld6) (flat true ld6y) :: Res.box blk2 [Value.slice none 0 0] 32 :: ((ld6y.map (It.row .i64 3)) ++ tl)))) [(4, Value.int .i64 xd19)] [.no] True (by kernel_rfl) trivial hS16 ?_
  refine l_nil rfl ?_
  refine then_n ?_
  refine wp_seq ?_
  refine wp_seq ?_
  refine c_reg ?_
  refine q_seg (S := (fun x_ => St w0 x_ (Res.box b [Value.slice A n c, Value.int .i64 ix20, Value.int .i64 hx21] 70 :: Res.box blk14 [Value.slice ld6A (List.length ld6) ld6c] 32 :: Res.row (Value.slice ld6A (List.length ld6) ld6c) 44 2 (List.length ld6) (flat true ld6y) :: Res.box blk2 [Value.slice none 0 0] 32 :: ((ld6y.map (It.row .i64 3)) ++ tl)))) [(12, Value.pointer (some ⟨b, 0, none⟩))] [.no] True (by kernel_rfl) trivial hS16 ?_
  refine l_op rfl rfl (fun K hK => op_callm (d := some 13) rfl rfl ⟨_, Try.func38, by kernel_rfl, by kernel_rfl⟩ (vs := [Value.pointer (some ⟨b, 0, none⟩), Value.int .i64 10]) (by kernel_rfl) (l1Below_s_c b A n c ix20 hx21 (10 : Int) _ w0 w16 hS16 hC22 (by omega)) (fun v26 new27 w25 Rw25 hS25 => ?_))
  obtain ⟨ix29, hx30, xd28, rfl, rfl, hC31, hf32, hf33⟩ := Rw25
  refine hK _ _ ?_
  clear hK K
  refine l_nil rfl ?_
  refine then_n ?_
  refine wp_block ?_
  refine wp_seq ?_
  refine c_reg ?_
  refine q_seg (S := (fun x_ => St w0 x_ (Res.box b [Value.slice A n c, Value.int .i64 ix29, Value.int .i64 hx30] 70 :: Res.box blk14 [Value.slice ld6A (List.length ld6) ld6c] 32 :: Res.row (Value.slice ld6A (List.length ld6) ld6c) 44 2 (List.length ld6) (flat true ld6y) :: Res.box blk2 [Value.slice none 0 0] 32 :: ((ld6y.map (It.row .i64 3)) ++ tl)))) [(14, Value.bool (decide (xd28 = (0 : Int)))), (15, Value.bool (decide (xd28 = (0 : Int))))] [.no, .no] True (by kernel_rfl) trivial hS25 ?_
  refine l_nil rfl ?_
  refine then_n ?_
  rcases Bool.eq_false_or_eq_true (decide (xd28 = (0 : Int))) with hb34 | hb34
  · skip
    have hb34p := of_decide_eq_true hb34
    obtain ⟨blk35, rfl⟩ := hS25.row_at (List.mem_of_getElem? (i := 2) rfl) (by omega)
    have hlny := (con_len ld6q).trans rfl
    obtain ⟨y1, hy1, _⟩ := get_of_lt (l := ld6y) (k := Int.toNat xd19) (by omega)
    obtain ⟨hy1a, hy1b, hy1c⟩ := el_facts hy1 (by rw [ld6q]; exact ld6o) (show wt (List.map (con true) ld6y) ≤ 200 by rw [ld6q]; omega)
    refine c_true (b := (decide (xd28 = (0 : Int)))) (by kernel_rfl) hb34 ?_
    refine c_drawnS (S := (fun x_ => St w0 x_ (Res.box blk14 [Value.slice (some ⟨blk35, 0, none⟩) (List.length ld6) ld6c] 32 :: Res.row (Value.slice (some ⟨blk35, 0, none⟩) (List.length ld6) ld6c) 44 2 (List.length ld6) (flat true ld6y) :: Res.box blk2 [Value.slice none 0 0] 32 :: ((ld6y.map (It.row .i64 3)) ++ tl)))) [8] (by kernel_rfl) hS25 (fun w36 hS36 => ?_)
    refine t_seg (S := (fun x_ => St w0 x_ (Res.box blk14 [Value.slice (some ⟨blk35, 0, none⟩) (List.length ld6) ld6c] 32 :: Res.row (Value.slice (some ⟨blk35, 0, none⟩) (List.length ld6) ld6c) 44 2 (List.length ld6) (flat true ld6y) :: Res.box blk2 [Value.slice none 0 0] 32 :: ((ld6y.map (It.row .i64 3)) ++ tl)))) [(0, .no), (2, .no), (3, .no), (1, .v (Value.slice (some ⟨blk35, 0, none⟩) (List.length ld6) ld6c))] 5 #[true, true, true, true, false, false, false, false, false] [(17, Value.slice (some ⟨blk35, 0, none⟩) (List.length ld6) ld6c), (19, Value.pointer (some ⟨b, 0, none⟩)), (18, Value.int .i64 xd19), (16, Value.pointer (some ⟨blk14, 0 + 0, none⟩))] ((LoadsAt Try.prog (fun x_ => St w0 x_ (Res.box blk14 [Value.slice (some ⟨blk35, 0, none⟩) (List.length ld6) ld6c] 32 :: Res.row (Value.slice (some ⟨blk35, 0, none⟩) (List.length ld6) ld6c) 44 2 (List.length ld6) (flat true ld6y) :: Res.box blk2 [Value.slice none 0 0] 32 :: ((ld6y.map (It.row .i64 3)) ++ tl))) 30 ⟨blk14, 0 + 0, none⟩ (Value.slice (some ⟨blk35, 0, none⟩) (List.length ld6) ld6c))) (by kernel_rfl) (Qpanic.block (Qpanic.then Qpanic.bp)) rfl (by kernel_rfl) (ld_box (i := 0) rfl rfl (by kernel_rfl)) (hS36.drop) ?_
    refine a_op (i := 4) (fuel := 4) (listed' := #[true, true, true, true, true, false, false, false, false]) rfl rfl (by kernel_rfl) (by kernel_rfl) rfl (fun K hK => op_buildSlice (d := some 20) rfl rfl (e := 3) (by kernel_rfl) 1 (by kernel_rfl) (by decide) (by decide) [Value.int .i64 (-1), Value.int .i64 2, Value.int .i64 3] (by kernel_rfl) rfl hS36 (fun blk38 w37 hS37 => hK _ _ (fun _ => hS37.drop.drop) ?_))
    clear hK K
    refine a_op (i := 5) (fuel := 3) (listed' := #[true, true, true, true, true, true, false, false, false]) rfl rfl (by kernel_rfl) (by kernel_rfl) rfl (fun K hK => op_callm (d := some 21) rfl rfl ⟨_, Try.func46, by kernel_rfl, by kernel_rfl⟩ (vs := [Value.pointer (some ⟨b, 0, none⟩), Value.slice (some ⟨blk38, 0, none⟩) 3 3]) (by kernel_rfl) (l1Int_s_c b A n c ix29 hx30 (some ⟨blk38, 0, none⟩) 3 ([(-1), 2, 3]) _ w0 w37 (hS37.front 1 rfl) hC31 (by first | omega | decide | simp)) (fun v40 new41 w39 Rw39 hS39 => ?_))
    obtain ⟨ix43, hx44, xd42, rfl, rfl, hC45, hf46⟩ := Rw39
    simp only [List.mem_cons, List.mem_nil_iff, or_false, List.not_mem_nil] at hf46
    have hf46b : -1 ≤ xd42 ∧ xd42 ≤ 3 := by omega
    refine hK _ _ (fun _ => (hS39.sub (List.Sublist.cons _ (List.Sublist.cons _ (List.Sublist.cons_cons _ (List.Sublist.cons_cons _ (List.Sublist.cons_cons _ (List.Sublist.append (List.Sublist.refl _) (List.Sublist.refl _))))))))) ?_
    clear hK K
    refine t_seg (S := (fun x_ => St w0 x_ (Res.box blk14 [Value.slice (some ⟨blk35, 0, none⟩) (List.length ld6) ld6c] 32 :: Res.row (Value.slice (some ⟨blk35, 0, none⟩) (List.length ld6) ld6c) 44 2 (List.length ld6) (flat true ld6y) :: Res.box blk2 [Value.slice none 0 0] 32 :: ((ld6y.map (It.row .i64 3)) ++ tl)))) [(6, .no), (7, .no)] 1 #[true, true, true, true, true, true, true, true, false] [(23, Value.pointer (some ⟨blk35, 0 + Int.toNat xd19 * 2 + 0, none⟩)), (22, Value.pointer (some ⟨blk35, 0 + Int.toNat xd19 * 2, none⟩))] (((0 : Int) ≤ xd19) ∧ (xd19 < (((List.length ld6) : Nat) : Int))) (by kernel_rfl) (Qpanic.block (Qpanic.then Qpanic.bp)) rfl (by kernel_rfl) ⟨(by omega), (by omega)⟩ (hS39.drop.drop) ?_
    have hlnw47 := hS39.row_len (List.mem_of_getElem? (i := 3) rfl)
    refine a_op (i := 8) (fuel := 0) (listed' := #[true, true, true, true, true, true, true, true, true]) rfl rfl (by kernel_rfl) (by kernel_rfl) rfl (fun K hK => op_storeRow (d := none) rfl rfl (i := 3) (b := blk35) (off := 0 + Int.toNat xd19 * 2 + 0) (m := (List.length ld6)) (cap := ld6c) (e := 44) (sz := 2) (xs := (flat true ld6y)) (by kernel_rfl) (by kernel_rfl) [Value.int .i64 xd42] (by kernel_rfl) (by kernel_rfl) (by rw [hlnw47]; simp only [List.length_cons, List.length_nil]; omega) (by rfl) (Res.box b [Value.slice A n c, Value.int .i64 ix43, Value.int .i64 hx44] 70 :: Res.row (Value.slice (some ⟨blk38, 0, none⟩) 3 3) 3 1 3 ([Value.int .i64 (-1), Value.int .i64 2, Value.int .i64 3]) :: Res.box blk14 [Value.slice (some ⟨blk35, 0, none⟩) (List.length ld6) ld6c] 32 :: Res.row (Value.slice (some ⟨blk35, 0, none⟩) (List.length ld6) ld6c) 44 2 (List.length ld6) (List.take (0 + Int.toNat xd19 * 2 + 0) (flat true ld6y) ++ [Value.int .i64 xd42] ++ List.drop (0 + Int.toNat xd19 * 2 + 0 + List.length [Value.int .i64 xd42]) (flat true ld6y)) :: Res.box blk2 [Value.slice none 0 0] 32 :: ((ld6y.map (It.row .i64 3)) ++ tl)) (by kernel_rfl) hS39 (fun w47 hS47 => hK _ _ (fun h => absurd h (by decide)) ?_))
    clear hK K
    replace hS47 := hS47.eqv (own' := (Res.box b [Value.slice A n c, Value.int .i64 ix43, Value.int .i64 hx44] 70 :: Res.row (Value.slice (some ⟨blk38, 0, none⟩) 3 3) 3 1 3 ([Value.int .i64 (-1), Value.int .i64 2, Value.int .i64 3]) :: Res.box blk14 [Value.slice (some ⟨blk35, 0, none⟩) (List.length ld6) ld6c] 32 :: Res.row (Value.slice (some ⟨blk35, 0, none⟩) (List.length ld6) ld6c) 44 2 (List.length ld6) (flat true (List.set ld6y (Int.toNat xd19) (It.mk xd42 y1.A y1.c y1.zs))) :: Res.box blk2 [Value.slice none 0 0] 32 :: ((ld6y.map (It.row .i64 3)) ++ tl))) (by rw [flat_set_s hy1 xd42 _ (by omega) [Value.int .i64 xd42] rfl])
    have hS47s1 : St w0 w47 (Res.box b [Value.slice A n c, Value.int .i64 ix43, Value.int .i64 hx44] 70 :: Res.row (Value.slice (some ⟨blk38, 0, none⟩) 3 3) 3 1 3 ([Value.int .i64 (-1), Value.int .i64 2, Value.int .i64 3]) :: Res.box blk14 [Value.slice (some ⟨blk35, 0, none⟩) (List.length ld6) ld6c] 32 :: Res.row (Value.slice (some ⟨blk35, 0, none⟩) (List.length ld6) ld6c) 44 2 (List.length ld6) (flat true (List.set ld6y (Int.toNat xd19) (It.mk xd42 y1.A y1.c y1.zs))) :: Res.box blk2 [Value.slice none 0 0] 32 :: (((List.set ld6y (Int.toNat xd19) (It.mk xd42 y1.A y1.c y1.zs)).map (It.row .i64 3)) ++ tl)) := hS47.eqv (by rw [row_set_s hy1])
    obtain ⟨hl6, ho6, hw6, _⟩ := set_facts (y' := (It.mk xd42 y1.A y1.c y1.zs)) hy1 hlny (by rw [ld6q]; exact ld6o) (show wt (List.map (con true) ld6y) ≤ 200 by rw [ld6q]; omega) (show I64 xd42 from i64 (by omega) (by omega)) hy1b
    simp only [List.length_append, List.length_singleton, List.length_nil] at hw6
    have hl7 : List.length (List.map (con true) (List.set ld6y (Int.toNat xd19) (It.mk xd42 y1.A y1.c y1.zs))) = (List.length ld6) := (List.length_map _).trans hl6
    refine a_done (by kernel_rfl) ?_
    refine blk_n ?_
    refine then_n ?_
    refine wp_seq ?_
    refine c_reg ?_
    refine q_seg (S := (fun x_ => St w0 x_ (Res.box b [Value.slice A n c, Value.int .i64 ix43, Value.int .i64 hx44] 70 :: Res.row (Value.slice (some ⟨blk38, 0, none⟩) 3 3) 3 1 3 ([Value.int .i64 (-1), Value.int .i64 2, Value.int .i64 3]) :: Res.box blk14 [Value.slice (some ⟨blk35, 0, none⟩) (List.length ld6) ld6c] 32 :: Res.row (Value.slice (some ⟨blk35, 0, none⟩) (List.length ld6) ld6c) 44 2 (List.length ld6) (flat true (List.set ld6y (Int.toNat xd19) (It.mk xd42 y1.A y1.c y1.zs))) :: Res.box blk2 [Value.slice none 0 0] 32 :: (((List.set ld6y (Int.toNat xd19) (It.mk xd42 y1.A y1.c y1.zs)).map (It.row .i64 3)) ++ tl)))) [(52, Value.agg #[Value.slice (some ⟨blk35, 0, none⟩) (List.length ld6) ld6c])] [.v (Value.agg #[Value.slice (some ⟨blk35, 0, none⟩) (List.length ld6) ld6c])] ((LoadsAt Try.prog (fun x_ => St w0 x_ (Res.box b [Value.slice A n c, Value.int .i64 ix43, Value.int .i64 hx44] 70 :: Res.row (Value.slice (some ⟨blk38, 0, none⟩) 3 3) 3 1 3 ([Value.int .i64 (-1), Value.int .i64 2, Value.int .i64 3]) :: Res.box blk14 [Value.slice (some ⟨blk35, 0, none⟩) (List.length ld6) ld6c] 32 :: Res.row (Value.slice (some ⟨blk35, 0, none⟩) (List.length ld6) ld6c) 44 2 (List.length ld6) (flat true (List.set ld6y (Int.toNat xd19) (It.mk xd42 y1.A y1.c y1.zs))) :: Res.box blk2 [Value.slice none 0 0] 32 :: (((List.set ld6y (Int.toNat xd19) (It.mk xd42 y1.A y1.c y1.zs)).map (It.row .i64 3)) ++ tl))) 32 ⟨blk14, 0, none⟩ (Value.agg #[Value.slice (some ⟨blk35, 0, none⟩) (List.length ld6) ld6c]))) (by kernel_rfl) (ld_boxN (i := 2) (k := 1) rfl rfl rfl (by kernel_rfl)) hS47s1 ?_
    refine l_op rfl rfl (fun K hK => op_store (d := none) rfl rfl (i := 4) (b := blk2) (off := 0) (cs := [Value.slice none 0 0]) (bt := 32) (by kernel_rfl) (by kernel_rfl) [Value.slice (some ⟨blk35, 0, none⟩) (List.length ld6) ld6c] (by kernel_rfl) (by kernel_rfl) (Nat.le_of_ble_eq_true (by kernel_rfl)) (by kernel_rfl) (Res.box b [Value.slice A n c, Value.int .i64 ix43, Value.int .i64 hx44] 70 :: Res.row (Value.slice (some ⟨blk38, 0, none⟩) 3 3) 3 1 3 ([Value.int .i64 (-1), Value.int .i64 2, Value.int .i64 3]) :: Res.box blk14 [Value.slice (some ⟨blk35, 0, none⟩) (List.length ld6) ld6c] 32 :: Res.row (Value.slice (some ⟨blk35, 0, none⟩) (List.length ld6) ld6c) 44 2 (List.length ld6) (flat true (List.set ld6y (Int.toNat xd19) (It.mk xd42 y1.A y1.c y1.zs))) :: Res.box blk2 [Value.slice (some ⟨blk35, 0, none⟩) (List.length ld6) ld6c] 32 :: (((List.set ld6y (Int.toNat xd19) (It.mk xd42 y1.A y1.c y1.zs)).map (It.row .i64 3)) ++ tl)) (by kernel_rfl) hS47s1 (fun w48 hS48 => hK _ _ ?_))
    clear hK K
    refine l_nil rfl ?_
    refine then_n ?_
    refine wp_ret ?_
    have hS48s2 : St w0 w48 (Res.box b [Value.slice A n c, Value.int .i64 ix43, Value.int .i64 hx44] 70 :: Res.row (Value.slice (some ⟨blk35, 0, none⟩) (List.length ld6) ld6c) 44 2 (List.length ld6) (flat true (List.set ld6y (Int.toNat xd19) (It.mk xd42 y1.A y1.c y1.zs))) :: (((List.set ld6y (Int.toNat xd19) (It.mk xd42 y1.A y1.c y1.zs)).map (It.row .i64 3)) ++ tl)) := (hS48.sub (List.Sublist.cons_cons _ (List.Sublist.cons _ (List.Sublist.cons _ (List.Sublist.cons_cons _ (List.Sublist.cons _ (List.Sublist.append (List.Sublist.refl _) (List.Sublist.refl _))))))))
    have hS48s2s3 : St w0 w48 (Res.box b [Value.slice A n c, Value.int .i64 ix43, Value.int .i64 hx44] 70 :: Res.row (Value.slice (some ⟨blk35, 0, none⟩) (List.length ld6) ld6c) 44 2 (List.length ld6) (flat true (List.set ld6y (Int.toNat xd19) (It.mk xd42 y1.A y1.c y1.zs))) :: (((List.set ld6y (Int.toNat xd19) (It.mk xd42 y1.A y1.c y1.zs)).map (It.row .i64 3)) ++ tl)) := hS48s2.front 0 rfl
    have hS48s2s3s4 : St w0 w48 (Res.row (Value.slice (some ⟨blk35, 0, none⟩) (List.length ld6) ld6c) 44 2 (List.length ld6) (flat true (List.set ld6y (Int.toNat xd19) (It.mk xd42 y1.A y1.c y1.zs))) :: Res.box b [Value.slice A n c, Value.int .i64 ix43, Value.int .i64 hx44] 70 :: (((List.set ld6y (Int.toNat xd19) (It.mk xd42 y1.A y1.c y1.zs)).map (It.row .i64 3)) ++ tl)) := hS48s2s3.front 1 rfl
    have hSo := St.inB [Res.row (Value.slice (some ⟨blk35, 0, none⟩) (List.length ld6) ld6c) 44 2 (List.length ld6) (flat true (List.set ld6y (Int.toNat xd19) (It.mk xd42 y1.A y1.c y1.zs))), Res.box b [Value.slice A n c, Value.int .i64 ix43, Value.int .i64 hx44] 70] [] [((List.set ld6y (Int.toNat xd19) (It.mk xd42 y1.A y1.c y1.zs)).map (It.row .i64 3))] tl hS48s2s3s4
    exact c_end (S := (fun x_ => St w0 x_ (Res.box b [Value.slice A n c, Value.int .i64 ix43, Value.int .i64 hx44] 70 :: Res.row (Value.slice (some ⟨blk38, 0, none⟩) 3 3) 3 1 3 ([Value.int .i64 (-1), Value.int .i64 2, Value.int .i64 3]) :: Res.box blk14 [Value.slice (some ⟨blk35, 0, none⟩) (List.length ld6) ld6c] 32 :: Res.row (Value.slice (some ⟨blk35, 0, none⟩) (List.length ld6) ld6c) 44 2 (List.length ld6) (flat true (List.set ld6y (Int.toNat xd19) (It.mk xd42 y1.A y1.c y1.zs))) :: Res.box blk2 [Value.slice (some ⟨blk35, 0, none⟩) (List.length ld6) ld6c] 32 :: (((List.set ld6y (Int.toNat xd19) (It.mk xd42 y1.A y1.c y1.zs)).map (It.row .i64 3)) ++ tl)))) (rs := [.cell 2 32]) rfl [Value.agg #[Value.slice (some ⟨blk35, 0, none⟩) (List.length ld6) ld6c]] (v := Value.agg #[Value.slice (some ⟨blk35, 0, none⟩) (List.length ld6) ld6c]) (C := ((LoadsAt Try.prog (fun x_ => St w0 x_ (Res.box b [Value.slice A n c, Value.int .i64 ix43, Value.int .i64 hx44] 70 :: Res.row (Value.slice (some ⟨blk38, 0, none⟩) 3 3) 3 1 3 ([Value.int .i64 (-1), Value.int .i64 2, Value.int .i64 3]) :: Res.box blk14 [Value.slice (some ⟨blk35, 0, none⟩) (List.length ld6) ld6c] 32 :: Res.row (Value.slice (some ⟨blk35, 0, none⟩) (List.length ld6) ld6c) 44 2 (List.length ld6) (flat true (List.set ld6y (Int.toNat xd19) (It.mk xd42 y1.A y1.c y1.zs))) :: Res.box blk2 [Value.slice (some ⟨blk35, 0, none⟩) (List.length ld6) ld6c] 32 :: (((List.set ld6y (Int.toNat xd19) (It.mk xd42 y1.A y1.c y1.zs)).map (It.row .i64 3)) ++ tl))) 32 ⟨blk2, 0, none⟩ (Value.agg #[Value.slice (some ⟨blk35, 0, none⟩) (List.length ld6) ld6c])))) (by kernel_rfl) (ld_boxN (i := 4) (k := 1) rfl rfl rfl (by kernel_rfl)) hS48 (⟨_, _, rfl, hSo, ix43, hx44, (List.map (con true) (List.set ld6y (Int.toNat xd19) (It.mk xd42 y1.A y1.c y1.zs))), (some ⟨blk35, 0, none⟩), ld6c, (List.set ld6y (Int.toNat xd19) (It.mk xd42 y1.A y1.c y1.zs)), (by first | (rw [hl7]; done) | (rw [hl7]; rfl)), (by first | (rw [hl7]; done) | (rw [hl7]; rfl)), hC45, rfl, ho6, (by first | omega | decide), (by first | omega | decide)⟩)
  · skip
    have hb34p := of_decide_eq_false hb34
    refine c_false (b := (decide (xd28 = (0 : Int)))) (by kernel_rfl) hb34 ?_
    refine wp_seq ?_
    refine c_reg ?_
    refine q_seg (S := (fun x_ => St w0 x_ (Res.box b [Value.slice A n c, Value.int .i64 ix29, Value.int .i64 hx30] 70 :: Res.box blk14 [Value.slice ld6A (List.length ld6) ld6c] 32 :: Res.row (Value.slice ld6A (List.length ld6) ld6c) 44 2 (List.length ld6) (flat true ld6y) :: Res.box blk2 [Value.slice none 0 0] 32 :: ((ld6y.map (It.row .i64 3)) ++ tl)))) [(24, Value.bool (decide (xd28 = (1 : Int)))), (25, Value.bool (decide (xd28 = (1 : Int))))] [.no, .no] True (by kernel_rfl) trivial hS25 ?_
    refine l_nil rfl ?_
    refine then_n ?_
    rcases Bool.eq_false_or_eq_true (decide (xd28 = (1 : Int))) with hb49 | hb49
    · skip
      have hb49p := of_decide_eq_true hb49
      obtain ⟨blk50, rfl⟩ := hS25.row_at (List.mem_of_getElem? (i := 2) rfl) (by omega)
      have hlny := (con_len ld6q).trans rfl
      obtain ⟨y1, hy1, _⟩ := get_of_lt (l := ld6y) (k := Int.toNat xd19) (by omega)
      obtain ⟨hy1a, hy1b, hy1c⟩ := el_facts hy1 (by rw [ld6q]; exact ld6o) (show wt (List.map (con true) ld6y) ≤ 200 by rw [ld6q]; omega)
      have hS25s5 : St w0 w25 (Res.row (Value.slice y1.A y1.zs.length y1.c) 3 1 y1.zs.length (y1.zs.map (Value.int .i64)) :: Res.box b [Value.slice A n c, Value.int .i64 ix29, Value.int .i64 hx30] 70 :: Res.box blk14 [Value.slice (some ⟨blk50, 0, none⟩) (List.length ld6) ld6c] 32 :: Res.row (Value.slice (some ⟨blk50, 0, none⟩) (List.length ld6) ld6c) 44 2 (List.length ld6) (flat true ld6y) :: Res.box blk2 [Value.slice none 0 0] 32 :: (((List.eraseIdx ld6y (Int.toNat xd19)).map (It.row .i64 3)) ++ tl)) := St.borE (κ := .i64) (tb := 3) (ys := ld6y) (k := (Int.toNat xd19)) [Res.box b [Value.slice A n c, Value.int .i64 ix29, Value.int .i64 hx30] 70, Res.box blk14 [Value.slice (some ⟨blk50, 0, none⟩) (List.length ld6) ld6c] 32, Res.row (Value.slice (some ⟨blk50, 0, none⟩) (List.length ld6) ld6c) 44 2 (List.length ld6) (flat true ld6y), Res.box blk2 [Value.slice none 0 0] 32] hS25 hy1
      refine c_true (b := (decide (xd28 = (1 : Int)))) (by kernel_rfl) hb49 ?_
      refine c_drawnS (S := (fun x_ => St w0 x_ (Res.box blk14 [Value.slice (some ⟨blk50, 0, none⟩) (List.length ld6) ld6c] 32 :: Res.row (Value.slice (some ⟨blk50, 0, none⟩) (List.length ld6) ld6c) 44 2 (List.length ld6) (flat true ld6y) :: Res.box blk2 [Value.slice none 0 0] 32 :: tl))) [16] (by kernel_rfl) hS25s5 (fun w51 hS51 => ?_)
      refine t_seg (S := (fun x_ => St w0 x_ (Res.box blk14 [Value.slice (some ⟨blk50, 0, none⟩) (List.length ld6) ld6c] 32 :: Res.row (Value.slice (some ⟨blk50, 0, none⟩) (List.length ld6) ld6c) 44 2 (List.length ld6) (flat true ld6y) :: Res.box blk2 [Value.slice none 0 0] 32 :: tl))) [(0, .no), (2, .no), (3, .no), (5, .no), (9, .no), (1, .v (Value.slice (some ⟨blk50, 0, none⟩) (List.length ld6) ld6c)), (4, .v (Value.slice (some ⟨blk50, 0, none⟩) (List.length ld6) ld6c)), (6, .no), (7, .no), (8, .v (Value.slice y1.A y1.zs.length y1.c))] 7 #[true, true, true, true, true, true, true, true, true, true, false, false, false, false, false, false, false] [(34, Value.slice y1.A y1.zs.length y1.c), (33, Value.pointer (some ⟨blk50, 0 + Int.toNat xd19 * 2 + 1, none⟩)), (32, Value.pointer (some ⟨blk50, 0 + Int.toNat xd19 * 2, none⟩)), (30, Value.slice (some ⟨blk50, 0, none⟩) (List.length ld6) ld6c), (27, Value.slice (some ⟨blk50, 0, none⟩) (List.length ld6) ld6c), (35, Value.pointer (some ⟨b, 0, none⟩)), (31, Value.int .i64 xd19), (29, Value.pointer (some ⟨blk14, 0 + 0, none⟩)), (28, Value.int .i64 xd19), (26, Value.pointer (some ⟨blk14, 0 + 0, none⟩))] ((LoadsAt Try.prog (fun x_ => St w0 x_ (Res.box blk14 [Value.slice (some ⟨blk50, 0, none⟩) (List.length ld6) ld6c] 32 :: Res.row (Value.slice (some ⟨blk50, 0, none⟩) (List.length ld6) ld6c) 44 2 (List.length ld6) (flat true ld6y) :: Res.box blk2 [Value.slice none 0 0] 32 :: tl)) 30 ⟨blk14, 0 + 0, none⟩ (Value.slice (some ⟨blk50, 0, none⟩) (List.length ld6) ld6c)) ∧ (LoadsAt Try.prog (fun x_ => St w0 x_ (Res.box blk14 [Value.slice (some ⟨blk50, 0, none⟩) (List.length ld6) ld6c] 32 :: Res.row (Value.slice (some ⟨blk50, 0, none⟩) (List.length ld6) ld6c) 44 2 (List.length ld6) (flat true ld6y) :: Res.box blk2 [Value.slice none 0 0] 32 :: tl)) 30 ⟨blk14, 0 + 0, none⟩ (Value.slice (some ⟨blk50, 0, none⟩) (List.length ld6) ld6c)) ∧ ((0 : Int) ≤ xd19) ∧ (xd19 < (((List.length ld6) : Nat) : Int)) ∧ (LoadsAt Try.prog (fun x_ => St w0 x_ (Res.box blk14 [Value.slice (some ⟨blk50, 0, none⟩) (List.length ld6) ld6c] 32 :: Res.row (Value.slice (some ⟨blk50, 0, none⟩) (List.length ld6) ld6c) 44 2 (List.length ld6) (flat true ld6y) :: Res.box blk2 [Value.slice none 0 0] 32 :: tl)) 35 ⟨blk50, 0 + Int.toNat xd19 * 2 + 1, none⟩ (Value.slice y1.A y1.zs.length y1.c))) (by kernel_rfl) (Qpanic.block (Qpanic.then Qpanic.bp)) rfl (by kernel_rfl) ⟨(ld_box (i := 0) rfl rfl (by kernel_rfl)), (ld_box (i := 0) rfl rfl (by kernel_rfl)), (by omega), (by omega), (ld_row (i := 1) rfl (flat_at1 (p := true) (r := 1) hy1 rfl (by simp only [csz, Int.toNat_natCast]; omega)) (by kernel_rfl))⟩ (hS51.sub (List.Sublist.cons _ (List.Sublist.cons _ (List.Sublist.cons_cons _ (List.Sublist.cons_cons _ (List.Sublist.cons_cons _ (List.Sublist.trans (List.Sublist.refl _) (List.sublist_append_right _ _)))))))) ?_
      refine a_op (i := 10) (fuel := 6) (listed' := #[true, true, true, true, true, true, true, true, true, true, true, false, false, false, false, false, false]) rfl rfl (by kernel_rfl) (by kernel_rfl) rfl (fun K hK => op_callm (d := some 36) rfl rfl ⟨_, Try.func38, by kernel_rfl, by kernel_rfl⟩ (vs := [Value.pointer (some ⟨b, 0, none⟩), Value.int .i64 8]) (by kernel_rfl) (l1Below_s_c b A n c ix29 hx30 (8 : Int) _ w0 w51 (hS51.front 1 rfl) hC31 (by omega)) (fun v53 new54 w52 Rw52 hS52 => ?_))
      obtain ⟨ix56, hx57, xd55, rfl, rfl, hC58, hf59, hf60⟩ := Rw52
      refine hK _ _ (fun _ => (hS52.sub (List.Sublist.cons _ (List.Sublist.cons _ (List.Sublist.cons_cons _ (List.Sublist.cons_cons _ (List.Sublist.cons_cons _ (List.Sublist.trans (List.Sublist.refl _) (List.sublist_append_right _ _))))))))) ?_
      clear hK K
      refine t_seg (S := (fun x_ => St w0 x_ (Res.box blk14 [Value.slice (some ⟨blk50, 0, none⟩) (List.length ld6) ld6c] 32 :: Res.row (Value.slice (some ⟨blk50, 0, none⟩) (List.length ld6) ld6c) 44 2 (List.length ld6) (flat true ld6y) :: Res.box blk2 [Value.slice none 0 0] 32 :: tl))) [(11, .no)] 5 #[true, true, true, true, true, true, true, true, true, true, true, true, false, false, false, false, false] [(37, Value.int .i64 (xd55 - (1 : Int)))] ((InK .i64 (xd55 - (1 : Int)))) (by kernel_rfl) (Qpanic.block (Qpanic.then Qpanic.bp)) rfl (by kernel_rfl) (in64 (by omega) (by omega)) (hS52.sub (List.Sublist.cons _ (List.Sublist.cons _ (List.Sublist.cons_cons _ (List.Sublist.cons_cons _ (List.Sublist.cons_cons _ (List.Sublist.trans (List.Sublist.refl _) (List.sublist_append_right _ _)))))))) ?_
      refine a_op (i := 12) (fuel := 4) (listed' := #[true, true, true, true, true, true, true, true, true, true, true, true, true, false, false, false, false]) rfl rfl (by kernel_rfl) (by kernel_rfl) rfl (fun K hK => op_buildSlice (d := some 38) rfl rfl (e := 3) (by kernel_rfl) 1 (by kernel_rfl) (by decide) (by decide) [Value.int .i64 (xd55 - (1 : Int))] (by kernel_rfl) rfl hS52 (fun blk62 w61 hS61 => hK _ _ (fun _ => (hS61.sub (List.Sublist.cons _ (List.Sublist.cons _ (List.Sublist.cons _ (List.Sublist.cons_cons _ (List.Sublist.cons_cons _ (List.Sublist.cons_cons _ (List.Sublist.trans (List.Sublist.refl _) (List.sublist_append_right _ _)))))))))) ?_))
      clear hK K
      refine a_op (i := 13) (fuel := 3) (listed' := #[true, true, true, true, true, true, true, true, true, true, true, true, true, true, false, false, false]) rfl rfl (by kernel_rfl) (by kernel_rfl) rfl (fun K hK => op_append (d := some 39) rfl rfl elInt hS61 (i := 2) rfl rfl rfl (news := [Value.int .i64 (xd55 - (1 : Int))]) (hS61.rd (List.mem_of_getElem? (i := 0) rfl)) (all_one (by rfl)) (by omega) (by omega) (fun v64 w63 hS63 => hK _ _ (fun _ => (hS63.sub (List.Sublist.cons _ (List.Sublist.cons _ (List.Sublist.cons _ (List.Sublist.cons_cons _ (List.Sublist.cons_cons _ (List.Sublist.cons_cons _ (List.Sublist.trans (List.Sublist.refl _) (List.sublist_append_right _ _)))))))))) ?_))
      clear hK K
      obtain ⟨hlv64, Av64, cv64, hvv64, hnv64, hmv64⟩ := hS63.row_slice (List.mem_of_getElem? (i := 2) rfl)
      subst hvv64
      refine t_seg (S := (fun x_ => St w0 x_ (Res.box blk14 [Value.slice (some ⟨blk50, 0, none⟩) (List.length ld6) ld6c] 32 :: Res.row (Value.slice (some ⟨blk50, 0, none⟩) (List.length ld6) ld6c) 44 2 (List.length ld6) (flat true ld6y) :: Res.box blk2 [Value.slice none 0 0] 32 :: tl))) [(14, .no), (15, .no)] 1 #[true, true, true, true, true, true, true, true, true, true, true, true, true, true, true, true, false] [(41, Value.pointer (some ⟨blk50, 0 + Int.toNat xd19 * 2 + 1, none⟩)), (40, Value.pointer (some ⟨blk50, 0 + Int.toNat xd19 * 2, none⟩))] (((0 : Int) ≤ xd19) ∧ (xd19 < (((List.length ld6) : Nat) : Int))) (by kernel_rfl) (Qpanic.block (Qpanic.then Qpanic.bp)) rfl (by kernel_rfl) ⟨(by omega), (by omega)⟩ (hS63.sub (List.Sublist.cons _ (List.Sublist.cons _ (List.Sublist.cons _ (List.Sublist.cons_cons _ (List.Sublist.cons_cons _ (List.Sublist.cons_cons _ (List.Sublist.trans (List.Sublist.refl _) (List.sublist_append_right _ _))))))))) ?_
      have hlnw65 := hS63.row_len (List.mem_of_getElem? (i := 4) rfl)
      refine a_op (i := 16) (fuel := 0) (listed' := #[true, true, true, true, true, true, true, true, true, true, true, true, true, true, true, true, true]) rfl rfl (by kernel_rfl) (by kernel_rfl) rfl (fun K hK => op_storeRow (d := none) rfl rfl (i := 4) (b := blk50) (off := 0 + Int.toNat xd19 * 2 + 1) (m := (List.length ld6)) (cap := ld6c) (e := 44) (sz := 2) (xs := (flat true ld6y)) (by kernel_rfl) (by kernel_rfl) [Value.slice Av64 (y1.zs.length + 1) cv64] (by kernel_rfl) (by kernel_rfl) (by rw [hlnw65]; simp only [List.length_cons, List.length_nil]; omega) (by rfl) (Res.row (Value.slice (some ⟨blk62, 0, none⟩) 1 1) 3 1 1 ([Value.int .i64 (xd55 - (1 : Int))]) :: Res.box b [Value.slice A n c, Value.int .i64 ix56, Value.int .i64 hx57] 70 :: Res.row (Value.slice Av64 (y1.zs.length + 1) cv64) 3 1 (y1.zs.length + 1) ((y1.zs.map (Value.int .i64)) ++ [Value.int .i64 (xd55 - (1 : Int))]) :: Res.box blk14 [Value.slice (some ⟨blk50, 0, none⟩) (List.length ld6) ld6c] 32 :: Res.row (Value.slice (some ⟨blk50, 0, none⟩) (List.length ld6) ld6c) 44 2 (List.length ld6) (List.take (0 + Int.toNat xd19 * 2 + 1) (flat true ld6y) ++ [Value.slice Av64 (y1.zs.length + 1) cv64] ++ List.drop (0 + Int.toNat xd19 * 2 + 1 + List.length [Value.slice Av64 (y1.zs.length + 1) cv64]) (flat true ld6y)) :: Res.box blk2 [Value.slice none 0 0] 32 :: (((List.eraseIdx ld6y (Int.toNat xd19)).map (It.row .i64 3)) ++ tl)) (by kernel_rfl) hS63 (fun w65 hS65 => hK _ _ (fun h => absurd h (by decide)) ?_))
      clear hK K
      replace hS65 := hS65.eqv (own' := (Res.row (Value.slice (some ⟨blk62, 0, none⟩) 1 1) 3 1 1 ([Value.int .i64 (xd55 - (1 : Int))]) :: Res.box b [Value.slice A n c, Value.int .i64 ix56, Value.int .i64 hx57] 70 :: Res.row (Value.slice Av64 (y1.zs.length + 1) cv64) 3 1 (y1.zs.length + 1) ((y1.zs.map (Value.int .i64)) ++ [Value.int .i64 (xd55 - (1 : Int))]) :: Res.box blk14 [Value.slice (some ⟨blk50, 0, none⟩) (List.length ld6) ld6c] 32 :: Res.row (Value.slice (some ⟨blk50, 0, none⟩) (List.length ld6) ld6c) 44 2 (List.length ld6) (flat true (List.set ld6y (Int.toNat xd19) (It.mk y1.s Av64 cv64 (y1.zs ++ [(xd55 - (1 : Int))])))) :: Res.box blk2 [Value.slice none 0 0] 32 :: (((List.eraseIdx ld6y (Int.toNat xd19)).map (It.row .i64 3)) ++ tl))) (by rw [flat_set_v hy1 (It.mk y1.s Av64 cv64 (y1.zs ++ [(xd55 - (1 : Int))])) rfl _ (by omega) [Value.slice Av64 (y1.zs.length + 1) cv64] (by simp [It.val])])
      have hS65s6 : St w0 w65 (Res.row (Value.slice (some ⟨blk62, 0, none⟩) 1 1) 3 1 1 ([Value.int .i64 (xd55 - (1 : Int))]) :: Res.box b [Value.slice A n c, Value.int .i64 ix56, Value.int .i64 hx57] 70 :: Res.row (Value.slice Av64 (List.length (y1.zs ++ [(xd55 - (1 : Int))])) cv64) 3 1 (List.length (y1.zs ++ [(xd55 - (1 : Int))])) ((y1.zs ++ [(xd55 - (1 : Int))]).map (Value.int .i64)) :: Res.box blk14 [Value.slice (some ⟨blk50, 0, none⟩) (List.length ld6) ld6c] 32 :: Res.row (Value.slice (some ⟨blk50, 0, none⟩) (List.length ld6) ld6c) 44 2 (List.length ld6) (flat true (List.set ld6y (Int.toNat xd19) (It.mk y1.s Av64 cv64 (y1.zs ++ [(xd55 - (1 : Int))])))) :: Res.box blk2 [Value.slice none 0 0] 32 :: (((List.eraseIdx ld6y (Int.toNat xd19)).map (It.row .i64 3)) ++ tl)) := hS65.eqv (by simp)
      have hS65s6s7 : St w0 w65 (Res.row (Value.slice (some ⟨blk62, 0, none⟩) 1 1) 3 1 1 ([Value.int .i64 (xd55 - (1 : Int))]) :: Res.box b [Value.slice A n c, Value.int .i64 ix56, Value.int .i64 hx57] 70 :: Res.box blk14 [Value.slice (some ⟨blk50, 0, none⟩) (List.length ld6) ld6c] 32 :: Res.row (Value.slice (some ⟨blk50, 0, none⟩) (List.length ld6) ld6c) 44 2 (List.length ld6) (flat true (List.set ld6y (Int.toNat xd19) (It.mk y1.s Av64 cv64 (y1.zs ++ [(xd55 - (1 : Int))])))) :: Res.box blk2 [Value.slice none 0 0] 32 :: (((List.set ld6y (Int.toNat xd19) (It.mk y1.s Av64 cv64 (y1.zs ++ [(xd55 - (1 : Int))]))).map (It.row .i64 3)) ++ tl)) := St.unborE (κ := .i64) (tb := 3) (ys := ld6y) (y' := (It.mk y1.s Av64 cv64 (y1.zs ++ [(xd55 - (1 : Int))]))) (k := (Int.toNat xd19)) [Res.row (Value.slice (some ⟨blk62, 0, none⟩) 1 1) 3 1 1 ([Value.int .i64 (xd55 - (1 : Int))]), Res.box b [Value.slice A n c, Value.int .i64 ix56, Value.int .i64 hx57] 70, Res.box blk14 [Value.slice (some ⟨blk50, 0, none⟩) (List.length ld6) ld6c] 32, Res.row (Value.slice (some ⟨blk50, 0, none⟩) (List.length ld6) ld6c) 44 2 (List.length ld6) (flat true (List.set ld6y (Int.toNat xd19) (It.mk y1.s Av64 cv64 (y1.zs ++ [(xd55 - (1 : Int))])))), Res.box blk2 [Value.slice none 0 0] 32] (hS65s6.front 2 rfl) (by omega)
      obtain ⟨hl6, ho6, hw6, _⟩ := set_facts (y' := (It.mk y1.s Av64 cv64 (y1.zs ++ [(xd55 - (1 : Int))]))) hy1 hlny (by rw [ld6q]; exact ld6o) (show wt (List.map (con true) ld6y) ≤ 200 by rw [ld6q]; omega) hy1a (okz_snoc64 hy1b (by omega) (by omega))
      simp only [List.length_append, List.length_singleton, List.length_nil] at hw6
      have hl7 : List.length (List.map (con true) (List.set ld6y (Int.toNat xd19) (It.mk y1.s Av64 cv64 (y1.zs ++ [(xd55 - (1 : Int))])))) = (List.length ld6) := (List.length_map _).trans hl6
      refine a_done (by kernel_rfl) ?_
      refine blk_n ?_
      refine then_n ?_
      refine wp_seq ?_
      refine c_reg ?_
      refine q_seg (S := (fun x_ => St w0 x_ (Res.row (Value.slice (some ⟨blk62, 0, none⟩) 1 1) 3 1 1 ([Value.int .i64 (xd55 - (1 : Int))]) :: Res.box b [Value.slice A n c, Value.int .i64 ix56, Value.int .i64 hx57] 70 :: Res.box blk14 [Value.slice (some ⟨blk50, 0, none⟩) (List.length ld6) ld6c] 32 :: Res.row (Value.slice (some ⟨blk50, 0, none⟩) (List.length ld6) ld6c) 44 2 (List.length ld6) (flat true (List.set ld6y (Int.toNat xd19) (It.mk y1.s Av64 cv64 (y1.zs ++ [(xd55 - (1 : Int))])))) :: Res.box blk2 [Value.slice none 0 0] 32 :: (((List.set ld6y (Int.toNat xd19) (It.mk y1.s Av64 cv64 (y1.zs ++ [(xd55 - (1 : Int))]))).map (It.row .i64 3)) ++ tl)))) [(52, Value.agg #[Value.slice (some ⟨blk50, 0, none⟩) (List.length ld6) ld6c])] [.v (Value.agg #[Value.slice (some ⟨blk50, 0, none⟩) (List.length ld6) ld6c])] ((LoadsAt Try.prog (fun x_ => St w0 x_ (Res.row (Value.slice (some ⟨blk62, 0, none⟩) 1 1) 3 1 1 ([Value.int .i64 (xd55 - (1 : Int))]) :: Res.box b [Value.slice A n c, Value.int .i64 ix56, Value.int .i64 hx57] 70 :: Res.box blk14 [Value.slice (some ⟨blk50, 0, none⟩) (List.length ld6) ld6c] 32 :: Res.row (Value.slice (some ⟨blk50, 0, none⟩) (List.length ld6) ld6c) 44 2 (List.length ld6) (flat true (List.set ld6y (Int.toNat xd19) (It.mk y1.s Av64 cv64 (y1.zs ++ [(xd55 - (1 : Int))])))) :: Res.box blk2 [Value.slice none 0 0] 32 :: (((List.set ld6y (Int.toNat xd19) (It.mk y1.s Av64 cv64 (y1.zs ++ [(xd55 - (1 : Int))]))).map (It.row .i64 3)) ++ tl))) 32 ⟨blk14, 0, none⟩ (Value.agg #[Value.slice (some ⟨blk50, 0, none⟩) (List.length ld6) ld6c]))) (by kernel_rfl) (ld_boxN (i := 2) (k := 1) rfl rfl rfl (by kernel_rfl)) hS65s6s7 ?_
      refine l_op rfl rfl (fun K hK => op_store (d := none) rfl rfl (i := 4) (b := blk2) (off := 0) (cs := [Value.slice none 0 0]) (bt := 32) (by kernel_rfl) (by kernel_rfl) [Value.slice (some ⟨blk50, 0, none⟩) (List.length ld6) ld6c] (by kernel_rfl) (by kernel_rfl) (Nat.le_of_ble_eq_true (by kernel_rfl)) (by kernel_rfl) (Res.row (Value.slice (some ⟨blk62, 0, none⟩) 1 1) 3 1 1 ([Value.int .i64 (xd55 - (1 : Int))]) :: Res.box b [Value.slice A n c, Value.int .i64 ix56, Value.int .i64 hx57] 70 :: Res.box blk14 [Value.slice (some ⟨blk50, 0, none⟩) (List.length ld6) ld6c] 32 :: Res.row (Value.slice (some ⟨blk50, 0, none⟩) (List.length ld6) ld6c) 44 2 (List.length ld6) (flat true (List.set ld6y (Int.toNat xd19) (It.mk y1.s Av64 cv64 (y1.zs ++ [(xd55 - (1 : Int))])))) :: Res.box blk2 [Value.slice (some ⟨blk50, 0, none⟩) (List.length ld6) ld6c] 32 :: (((List.set ld6y (Int.toNat xd19) (It.mk y1.s Av64 cv64 (y1.zs ++ [(xd55 - (1 : Int))]))).map (It.row .i64 3)) ++ tl)) (by kernel_rfl) hS65s6s7 (fun w66 hS66 => hK _ _ ?_))
      clear hK K
      refine l_nil rfl ?_
      refine then_n ?_
      refine wp_ret ?_
      have hS66s8 : St w0 w66 (Res.box b [Value.slice A n c, Value.int .i64 ix56, Value.int .i64 hx57] 70 :: Res.row (Value.slice (some ⟨blk50, 0, none⟩) (List.length ld6) ld6c) 44 2 (List.length ld6) (flat true (List.set ld6y (Int.toNat xd19) (It.mk y1.s Av64 cv64 (y1.zs ++ [(xd55 - (1 : Int))])))) :: (((List.set ld6y (Int.toNat xd19) (It.mk y1.s Av64 cv64 (y1.zs ++ [(xd55 - (1 : Int))]))).map (It.row .i64 3)) ++ tl)) := (hS66.sub (List.Sublist.cons _ (List.Sublist.cons_cons _ (List.Sublist.cons _ (List.Sublist.cons_cons _ (List.Sublist.cons _ (List.Sublist.append (List.Sublist.refl _) (List.Sublist.refl _))))))))
      have hS66s8s9 : St w0 w66 (Res.box b [Value.slice A n c, Value.int .i64 ix56, Value.int .i64 hx57] 70 :: Res.row (Value.slice (some ⟨blk50, 0, none⟩) (List.length ld6) ld6c) 44 2 (List.length ld6) (flat true (List.set ld6y (Int.toNat xd19) (It.mk y1.s Av64 cv64 (y1.zs ++ [(xd55 - (1 : Int))])))) :: (((List.set ld6y (Int.toNat xd19) (It.mk y1.s Av64 cv64 (y1.zs ++ [(xd55 - (1 : Int))]))).map (It.row .i64 3)) ++ tl)) := hS66s8.front 0 rfl
      have hS66s8s9s10 : St w0 w66 (Res.row (Value.slice (some ⟨blk50, 0, none⟩) (List.length ld6) ld6c) 44 2 (List.length ld6) (flat true (List.set ld6y (Int.toNat xd19) (It.mk y1.s Av64 cv64 (y1.zs ++ [(xd55 - (1 : Int))])))) :: Res.box b [Value.slice A n c, Value.int .i64 ix56, Value.int .i64 hx57] 70 :: (((List.set ld6y (Int.toNat xd19) (It.mk y1.s Av64 cv64 (y1.zs ++ [(xd55 - (1 : Int))]))).map (It.row .i64 3)) ++ tl)) := hS66s8s9.front 1 rfl
      have hSo := St.inB [Res.row (Value.slice (some ⟨blk50, 0, none⟩) (List.length ld6) ld6c) 44 2 (List.length ld6) (flat true (List.set ld6y (Int.toNat xd19) (It.mk y1.s Av64 cv64 (y1.zs ++ [(xd55 - (1 : Int))])))), Res.box b [Value.slice A n c, Value.int .i64 ix56, Value.int .i64 hx57] 70] [] [((List.set ld6y (Int.toNat xd19) (It.mk y1.s Av64 cv64 (y1.zs ++ [(xd55 - (1 : Int))]))).map (It.row .i64 3))] tl hS66s8s9s10
      exact c_end (S := (fun x_ => St w0 x_ (Res.row (Value.slice (some ⟨blk62, 0, none⟩) 1 1) 3 1 1 ([Value.int .i64 (xd55 - (1 : Int))]) :: Res.box b [Value.slice A n c, Value.int .i64 ix56, Value.int .i64 hx57] 70 :: Res.box blk14 [Value.slice (some ⟨blk50, 0, none⟩) (List.length ld6) ld6c] 32 :: Res.row (Value.slice (some ⟨blk50, 0, none⟩) (List.length ld6) ld6c) 44 2 (List.length ld6) (flat true (List.set ld6y (Int.toNat xd19) (It.mk y1.s Av64 cv64 (y1.zs ++ [(xd55 - (1 : Int))])))) :: Res.box blk2 [Value.slice (some ⟨blk50, 0, none⟩) (List.length ld6) ld6c] 32 :: (((List.set ld6y (Int.toNat xd19) (It.mk y1.s Av64 cv64 (y1.zs ++ [(xd55 - (1 : Int))]))).map (It.row .i64 3)) ++ tl)))) (rs := [.cell 2 32]) rfl [Value.agg #[Value.slice (some ⟨blk50, 0, none⟩) (List.length ld6) ld6c]] (v := Value.agg #[Value.slice (some ⟨blk50, 0, none⟩) (List.length ld6) ld6c]) (C := ((LoadsAt Try.prog (fun x_ => St w0 x_ (Res.row (Value.slice (some ⟨blk62, 0, none⟩) 1 1) 3 1 1 ([Value.int .i64 (xd55 - (1 : Int))]) :: Res.box b [Value.slice A n c, Value.int .i64 ix56, Value.int .i64 hx57] 70 :: Res.box blk14 [Value.slice (some ⟨blk50, 0, none⟩) (List.length ld6) ld6c] 32 :: Res.row (Value.slice (some ⟨blk50, 0, none⟩) (List.length ld6) ld6c) 44 2 (List.length ld6) (flat true (List.set ld6y (Int.toNat xd19) (It.mk y1.s Av64 cv64 (y1.zs ++ [(xd55 - (1 : Int))])))) :: Res.box blk2 [Value.slice (some ⟨blk50, 0, none⟩) (List.length ld6) ld6c] 32 :: (((List.set ld6y (Int.toNat xd19) (It.mk y1.s Av64 cv64 (y1.zs ++ [(xd55 - (1 : Int))]))).map (It.row .i64 3)) ++ tl))) 32 ⟨blk2, 0, none⟩ (Value.agg #[Value.slice (some ⟨blk50, 0, none⟩) (List.length ld6) ld6c])))) (by kernel_rfl) (ld_boxN (i := 4) (k := 1) rfl rfl rfl (by kernel_rfl)) hS66 (⟨_, _, rfl, hSo, ix56, hx57, (List.map (con true) (List.set ld6y (Int.toNat xd19) (It.mk y1.s Av64 cv64 (y1.zs ++ [(xd55 - (1 : Int))])))), (some ⟨blk50, 0, none⟩), ld6c, (List.set ld6y (Int.toNat xd19) (It.mk y1.s Av64 cv64 (y1.zs ++ [(xd55 - (1 : Int))]))), (by first | (rw [hl7]; done) | (rw [hl7]; rfl)), (by first | (rw [hl7]; done) | (rw [hl7]; rfl)), hC58, rfl, ho6, (by first | omega | decide), (by first | omega | decide)⟩)
    · skip
      have hb49p := of_decide_eq_false hb49
      refine c_false (b := (decide (xd28 = (1 : Int)))) (by kernel_rfl) hb49 ?_
      refine wp_seq ?_
      refine c_reg ?_
      refine q_seg (S := (fun x_ => St w0 x_ (Res.box b [Value.slice A n c, Value.int .i64 ix29, Value.int .i64 hx30] 70 :: Res.box blk14 [Value.slice ld6A (List.length ld6) ld6c] 32 :: Res.row (Value.slice ld6A (List.length ld6) ld6c) 44 2 (List.length ld6) (flat true ld6y) :: Res.box blk2 [Value.slice none 0 0] 32 :: ((ld6y.map (It.row .i64 3)) ++ tl)))) [(42, Value.bool (decide (xd28 = (2 : Int)))), (43, Value.bool (decide (xd28 = (2 : Int))))] [.no, .no] True (by kernel_rfl) trivial hS25 ?_
      refine l_nil rfl ?_
      refine then_n ?_
      rcases Bool.eq_false_or_eq_true (decide (xd28 = (2 : Int))) with hb67 | hb67
      · skip
        have hb67p := of_decide_eq_true hb67
        obtain ⟨blk68, rfl⟩ := hS25.row_at (List.mem_of_getElem? (i := 2) rfl) (by omega)
        have hlny := (con_len ld6q).trans rfl
        obtain ⟨y1, hy1, _⟩ := get_of_lt (l := ld6y) (k := Int.toNat xd19) (by omega)
        obtain ⟨hy1a, hy1b, hy1c⟩ := el_facts hy1 (by rw [ld6q]; exact ld6o) (show wt (List.map (con true) ld6y) ≤ 200 by rw [ld6q]; omega)
        refine c_true (b := (decide (xd28 = (2 : Int)))) (by kernel_rfl) hb67 ?_
        refine c_reg ?_
        refine q_seg (S := (fun x_ => St w0 x_ (Res.box b [Value.slice A n c, Value.int .i64 ix29, Value.int .i64 hx30] 70 :: Res.box blk14 [Value.slice (some ⟨blk68, 0, none⟩) (List.length ld6) ld6c] 32 :: Res.row (Value.slice (some ⟨blk68, 0, none⟩) (List.length ld6) ld6c) 44 2 (List.length ld6) (flat true ld6y) :: Res.box blk2 [Value.slice none 0 0] 32 :: ((ld6y.map (It.row .i64 3)) ++ tl)))) [(48, Value.pointer (some ⟨blk68, 0 + Int.toNat xd19 * 2 + 1, none⟩)), (47, Value.pointer (some ⟨blk68, 0 + Int.toNat xd19 * 2, none⟩)), (46, Value.int .i64 xd19), (45, Value.slice (some ⟨blk68, 0, none⟩) (List.length ld6) ld6c), (44, Value.pointer (some ⟨blk14, 0 + 0, none⟩))] [.no, .v (Value.slice (some ⟨blk68, 0, none⟩) (List.length ld6) ld6c), .no, .no, .no] ((LoadsAt Try.prog (fun x_ => St w0 x_ (Res.box b [Value.slice A n c, Value.int .i64 ix29, Value.int .i64 hx30] 70 :: Res.box blk14 [Value.slice (some ⟨blk68, 0, none⟩) (List.length ld6) ld6c] 32 :: Res.row (Value.slice (some ⟨blk68, 0, none⟩) (List.length ld6) ld6c) 44 2 (List.length ld6) (flat true ld6y) :: Res.box blk2 [Value.slice none 0 0] 32 :: ((ld6y.map (It.row .i64 3)) ++ tl))) 30 ⟨blk14, 0 + 0, none⟩ (Value.slice (some ⟨blk68, 0, none⟩) (List.length ld6) ld6c)) ∧ ((0 : Int) ≤ xd19) ∧ (xd19 < (((List.length ld6) : Nat) : Int))) (by kernel_rfl) ⟨(ld_box (i := 1) rfl rfl (by kernel_rfl)), (by omega), (by omega)⟩ hS25 ?_
        have hlnw69 := hS25.row_len (List.mem_of_getElem? (i := 2) rfl)
        refine l_op rfl rfl (fun K hK => op_storeRow (d := none) rfl rfl (i := 2) (b := blk68) (off := 0 + Int.toNat xd19 * 2 + 1) (m := (List.length ld6)) (cap := ld6c) (e := 44) (sz := 2) (xs := (flat true ld6y)) (by kernel_rfl) (by kernel_rfl) [Value.slice none 0 0] (by kernel_rfl) (by kernel_rfl) (by rw [hlnw69]; simp only [List.length_cons, List.length_nil]; omega) (by rfl) (Res.box b [Value.slice A n c, Value.int .i64 ix29, Value.int .i64 hx30] 70 :: Res.box blk14 [Value.slice (some ⟨blk68, 0, none⟩) (List.length ld6) ld6c] 32 :: Res.row (Value.slice (some ⟨blk68, 0, none⟩) (List.length ld6) ld6c) 44 2 (List.length ld6) (List.take (0 + Int.toNat xd19 * 2 + 1) (flat true ld6y) ++ [Value.slice none 0 0] ++ List.drop (0 + Int.toNat xd19 * 2 + 1 + List.length [Value.slice none 0 0]) (flat true ld6y)) :: Res.box blk2 [Value.slice none 0 0] 32 :: ((ld6y.map (It.row .i64 3)) ++ tl)) (by kernel_rfl) hS25 (fun w69 hS69 => hK _ _ ?_))
        clear hK K
        replace hS69 := hS69.eqv (own' := (Res.box b [Value.slice A n c, Value.int .i64 ix29, Value.int .i64 hx30] 70 :: Res.box blk14 [Value.slice (some ⟨blk68, 0, none⟩) (List.length ld6) ld6c] 32 :: Res.row (Value.slice (some ⟨blk68, 0, none⟩) (List.length ld6) ld6c) 44 2 (List.length ld6) (flat true (List.set ld6y (Int.toNat xd19) (It.mk y1.s none 0 ([] : List Int)))) :: Res.box blk2 [Value.slice none 0 0] 32 :: ((ld6y.map (It.row .i64 3)) ++ tl))) (by rw [flat_set_v hy1 (It.mk y1.s none 0 ([] : List Int)) rfl _ (by omega) [Value.slice none 0 0] (by simp [It.val])])
        have hS69s11 : St w0 w69 (Res.row (Value.slice none 0 0) 3 1 0 (([] : List Int).map (Value.int .i64)) :: Res.box b [Value.slice A n c, Value.int .i64 ix29, Value.int .i64 hx30] 70 :: Res.box blk14 [Value.slice (some ⟨blk68, 0, none⟩) (List.length ld6) ld6c] 32 :: Res.row (Value.slice (some ⟨blk68, 0, none⟩) (List.length ld6) ld6c) 44 2 (List.length ld6) (flat true (List.set ld6y (Int.toNat xd19) (It.mk y1.s none 0 ([] : List Int)))) :: Res.box blk2 [Value.slice none 0 0] 32 :: ((ld6y.map (It.row .i64 3)) ++ tl)) := hS69.nilrow 3 1
        have hS69s11s12 : St w0 w69 (Res.row (Value.slice none (List.length ([] : List Int)) 0) 3 1 (List.length ([] : List Int)) (([] : List Int).map (Value.int .i64)) :: Res.box b [Value.slice A n c, Value.int .i64 ix29, Value.int .i64 hx30] 70 :: Res.box blk14 [Value.slice (some ⟨blk68, 0, none⟩) (List.length ld6) ld6c] 32 :: Res.row (Value.slice (some ⟨blk68, 0, none⟩) (List.length ld6) ld6c) 44 2 (List.length ld6) (flat true (List.set ld6y (Int.toNat xd19) (It.mk y1.s none 0 ([] : List Int)))) :: Res.box blk2 [Value.slice none 0 0] 32 :: ((ld6y.map (It.row .i64 3)) ++ tl)) := hS69s11.eqv (by simp)
        have hS69s11s12s13 : St w0 w69 (Res.box b [Value.slice A n c, Value.int .i64 ix29, Value.int .i64 hx30] 70 :: Res.box blk14 [Value.slice (some ⟨blk68, 0, none⟩) (List.length ld6) ld6c] 32 :: Res.row (Value.slice (some ⟨blk68, 0, none⟩) (List.length ld6) ld6c) 44 2 (List.length ld6) (flat true (List.set ld6y (Int.toNat xd19) (It.mk y1.s none 0 ([] : List Int)))) :: Res.box blk2 [Value.slice none 0 0] 32 :: (((List.set ld6y (Int.toNat xd19) (It.mk y1.s none 0 ([] : List Int))).map (It.row .i64 3)) ++ tl)) := St.swapE (κ := .i64) (tb := 3) (ys := ld6y) (y' := (It.mk y1.s none 0 ([] : List Int))) (k := (Int.toNat xd19)) [Res.box b [Value.slice A n c, Value.int .i64 ix29, Value.int .i64 hx30] 70, Res.box blk14 [Value.slice (some ⟨blk68, 0, none⟩) (List.length ld6) ld6c] 32, Res.row (Value.slice (some ⟨blk68, 0, none⟩) (List.length ld6) ld6c) 44 2 (List.length ld6) (flat true (List.set ld6y (Int.toNat xd19) (It.mk y1.s none 0 ([] : List Int)))), Res.box blk2 [Value.slice none 0 0] 32] hS69s11s12 (by omega)
        obtain ⟨hl6, ho6, hw6, _⟩ := set_facts (y' := (It.mk y1.s none 0 ([] : List Int))) hy1 hlny (by rw [ld6q]; exact ld6o) (show wt (List.map (con true) ld6y) ≤ 200 by rw [ld6q]; omega) hy1a (okz_nil _)
        simp only [List.length_append, List.length_singleton, List.length_nil] at hw6
        have hl7 : List.length (List.map (con true) (List.set ld6y (Int.toNat xd19) (It.mk y1.s none 0 ([] : List Int)))) = (List.length ld6) := (List.length_map _).trans hl6
        refine l_nil rfl ?_
        refine blk_n ?_
        refine then_n ?_
        refine wp_seq ?_
        refine c_reg ?_
        refine q_seg (S := (fun x_ => St w0 x_ (Res.box b [Value.slice A n c, Value.int .i64 ix29, Value.int .i64 hx30] 70 :: Res.box blk14 [Value.slice (some ⟨blk68, 0, none⟩) (List.length ld6) ld6c] 32 :: Res.row (Value.slice (some ⟨blk68, 0, none⟩) (List.length ld6) ld6c) 44 2 (List.length ld6) (flat true (List.set ld6y (Int.toNat xd19) (It.mk y1.s none 0 ([] : List Int)))) :: Res.box blk2 [Value.slice none 0 0] 32 :: (((List.set ld6y (Int.toNat xd19) (It.mk y1.s none 0 ([] : List Int))).map (It.row .i64 3)) ++ tl)))) [(52, Value.agg #[Value.slice (some ⟨blk68, 0, none⟩) (List.length ld6) ld6c])] [.v (Value.agg #[Value.slice (some ⟨blk68, 0, none⟩) (List.length ld6) ld6c])] ((LoadsAt Try.prog (fun x_ => St w0 x_ (Res.box b [Value.slice A n c, Value.int .i64 ix29, Value.int .i64 hx30] 70 :: Res.box blk14 [Value.slice (some ⟨blk68, 0, none⟩) (List.length ld6) ld6c] 32 :: Res.row (Value.slice (some ⟨blk68, 0, none⟩) (List.length ld6) ld6c) 44 2 (List.length ld6) (flat true (List.set ld6y (Int.toNat xd19) (It.mk y1.s none 0 ([] : List Int)))) :: Res.box blk2 [Value.slice none 0 0] 32 :: (((List.set ld6y (Int.toNat xd19) (It.mk y1.s none 0 ([] : List Int))).map (It.row .i64 3)) ++ tl))) 32 ⟨blk14, 0, none⟩ (Value.agg #[Value.slice (some ⟨blk68, 0, none⟩) (List.length ld6) ld6c]))) (by kernel_rfl) (ld_boxN (i := 1) (k := 1) rfl rfl rfl (by kernel_rfl)) hS69s11s12s13 ?_
        refine l_op rfl rfl (fun K hK => op_store (d := none) rfl rfl (i := 3) (b := blk2) (off := 0) (cs := [Value.slice none 0 0]) (bt := 32) (by kernel_rfl) (by kernel_rfl) [Value.slice (some ⟨blk68, 0, none⟩) (List.length ld6) ld6c] (by kernel_rfl) (by kernel_rfl) (Nat.le_of_ble_eq_true (by kernel_rfl)) (by kernel_rfl) (Res.box b [Value.slice A n c, Value.int .i64 ix29, Value.int .i64 hx30] 70 :: Res.box blk14 [Value.slice (some ⟨blk68, 0, none⟩) (List.length ld6) ld6c] 32 :: Res.row (Value.slice (some ⟨blk68, 0, none⟩) (List.length ld6) ld6c) 44 2 (List.length ld6) (flat true (List.set ld6y (Int.toNat xd19) (It.mk y1.s none 0 ([] : List Int)))) :: Res.box blk2 [Value.slice (some ⟨blk68, 0, none⟩) (List.length ld6) ld6c] 32 :: (((List.set ld6y (Int.toNat xd19) (It.mk y1.s none 0 ([] : List Int))).map (It.row .i64 3)) ++ tl)) (by kernel_rfl) hS69s11s12s13 (fun w70 hS70 => hK _ _ ?_))
        clear hK K
        refine l_nil rfl ?_
        refine then_n ?_
        refine wp_ret ?_
        have hS70s14 : St w0 w70 (Res.box b [Value.slice A n c, Value.int .i64 ix29, Value.int .i64 hx30] 70 :: Res.row (Value.slice (some ⟨blk68, 0, none⟩) (List.length ld6) ld6c) 44 2 (List.length ld6) (flat true (List.set ld6y (Int.toNat xd19) (It.mk y1.s none 0 ([] : List Int)))) :: (((List.set ld6y (Int.toNat xd19) (It.mk y1.s none 0 ([] : List Int))).map (It.row .i64 3)) ++ tl)) := (hS70.sub (List.Sublist.cons_cons _ (List.Sublist.cons _ (List.Sublist.cons_cons _ (List.Sublist.cons _ (List.Sublist.append (List.Sublist.refl _) (List.Sublist.refl _)))))))
        have hS70s14s15 : St w0 w70 (Res.box b [Value.slice A n c, Value.int .i64 ix29, Value.int .i64 hx30] 70 :: Res.row (Value.slice (some ⟨blk68, 0, none⟩) (List.length ld6) ld6c) 44 2 (List.length ld6) (flat true (List.set ld6y (Int.toNat xd19) (It.mk y1.s none 0 ([] : List Int)))) :: (((List.set ld6y (Int.toNat xd19) (It.mk y1.s none 0 ([] : List Int))).map (It.row .i64 3)) ++ tl)) := hS70s14.front 0 rfl
        have hS70s14s15s16 : St w0 w70 (Res.row (Value.slice (some ⟨blk68, 0, none⟩) (List.length ld6) ld6c) 44 2 (List.length ld6) (flat true (List.set ld6y (Int.toNat xd19) (It.mk y1.s none 0 ([] : List Int)))) :: Res.box b [Value.slice A n c, Value.int .i64 ix29, Value.int .i64 hx30] 70 :: (((List.set ld6y (Int.toNat xd19) (It.mk y1.s none 0 ([] : List Int))).map (It.row .i64 3)) ++ tl)) := hS70s14s15.front 1 rfl
        have hSo := St.inB [Res.row (Value.slice (some ⟨blk68, 0, none⟩) (List.length ld6) ld6c) 44 2 (List.length ld6) (flat true (List.set ld6y (Int.toNat xd19) (It.mk y1.s none 0 ([] : List Int)))), Res.box b [Value.slice A n c, Value.int .i64 ix29, Value.int .i64 hx30] 70] [] [((List.set ld6y (Int.toNat xd19) (It.mk y1.s none 0 ([] : List Int))).map (It.row .i64 3))] tl hS70s14s15s16
        exact c_end (S := (fun x_ => St w0 x_ (Res.box b [Value.slice A n c, Value.int .i64 ix29, Value.int .i64 hx30] 70 :: Res.box blk14 [Value.slice (some ⟨blk68, 0, none⟩) (List.length ld6) ld6c] 32 :: Res.row (Value.slice (some ⟨blk68, 0, none⟩) (List.length ld6) ld6c) 44 2 (List.length ld6) (flat true (List.set ld6y (Int.toNat xd19) (It.mk y1.s none 0 ([] : List Int)))) :: Res.box blk2 [Value.slice (some ⟨blk68, 0, none⟩) (List.length ld6) ld6c] 32 :: (((List.set ld6y (Int.toNat xd19) (It.mk y1.s none 0 ([] : List Int))).map (It.row .i64 3)) ++ tl)))) (rs := [.cell 2 32]) rfl [Value.agg #[Value.slice (some ⟨blk68, 0, none⟩) (List.length ld6) ld6c]] (v := Value.agg #[Value.slice (some ⟨blk68, 0, none⟩) (List.length ld6) ld6c]) (C := ((LoadsAt Try.prog (fun x_ => St w0 x_ (Res.box b [Value.slice A n c, Value.int .i64 ix29, Value.int .i64 hx30] 70 :: Res.box blk14 [Value.slice (some ⟨blk68, 0, none⟩) (List.length ld6) ld6c] 32 :: Res.row (Value.slice (some ⟨blk68, 0, none⟩) (List.length ld6) ld6c) 44 2 (List.length ld6) (flat true (List.set ld6y (Int.toNat xd19) (It.mk y1.s none 0 ([] : List Int)))) :: Res.box blk2 [Value.slice (some ⟨blk68, 0, none⟩) (List.length ld6) ld6c] 32 :: (((List.set ld6y (Int.toNat xd19) (It.mk y1.s none 0 ([] : List Int))).map (It.row .i64 3)) ++ tl))) 32 ⟨blk2, 0, none⟩ (Value.agg #[Value.slice (some ⟨blk68, 0, none⟩) (List.length ld6) ld6c])))) (by kernel_rfl) (ld_boxN (i := 3) (k := 1) rfl rfl rfl (by kernel_rfl)) hS70 (⟨_, _, rfl, hSo, ix29, hx30, (List.map (con true) (List.set ld6y (Int.toNat xd19) (It.mk y1.s none 0 ([] : List Int)))), (some ⟨blk68, 0, none⟩), ld6c, (List.set ld6y (Int.toNat xd19) (It.mk y1.s none 0 ([] : List Int))), (by first | (rw [hl7]; done) | (rw [hl7]; rfl)), (by first | (rw [hl7]; done) | (rw [hl7]; rfl)), hC31, rfl, ho6, (by first | omega | decide), (by first | omega | decide)⟩)
      · skip
        have hb67p := of_decide_eq_false hb67
        refine c_false (b := (decide (xd28 = (2 : Int)))) (by kernel_rfl) hb67 ?_
        refine wp_seq ?_
        refine c_reg ?_
        refine q_seg (S := (fun x_ => St w0 x_ (Res.box b [Value.slice A n c, Value.int .i64 ix29, Value.int .i64 hx30] 70 :: Res.box blk14 [Value.slice ld6A (List.length ld6) ld6c] 32 :: Res.row (Value.slice ld6A (List.length ld6) ld6c) 44 2 (List.length ld6) (flat true ld6y) :: Res.box blk2 [Value.slice none 0 0] 32 :: ((ld6y.map (It.row .i64 3)) ++ tl)))) [(49, Value.bool (decide (xd28 = (3 : Int)))), (50, Value.bool (decide (xd28 = (3 : Int))))] [.no, .no] True (by kernel_rfl) trivial hS25 ?_
        refine l_nil rfl ?_
        refine then_n ?_
        rcases Bool.eq_false_or_eq_true (decide (xd28 = (3 : Int))) with hb71 | hb71
        · skip
          have hb71p := of_decide_eq_true hb71
          refine c_true (b := (decide (xd28 = (3 : Int)))) (by kernel_rfl) hb71 ?_
          refine c_reg ?_
          refine q_seg (S := (fun x_ => St w0 x_ (Res.box b [Value.slice A n c, Value.int .i64 ix29, Value.int .i64 hx30] 70 :: Res.box blk14 [Value.slice ld6A (List.length ld6) ld6c] 32 :: Res.row (Value.slice ld6A (List.length ld6) ld6c) 44 2 (List.length ld6) (flat true ld6y) :: Res.box blk2 [Value.slice none 0 0] 32 :: ((ld6y.map (It.row .i64 3)) ++ tl)))) [(51, Value.pointer (some ⟨blk14, 0 + 0, none⟩))] [.no] True (by kernel_rfl) trivial hS25 ?_
          refine l_op rfl rfl (fun K hK => op_store (d := none) rfl rfl (i := 1) (b := blk14) (off := 0 + 0) (cs := [Value.slice ld6A (List.length ld6) ld6c]) (bt := 32) (by kernel_rfl) (by kernel_rfl) [Value.slice none 0 0] (by kernel_rfl) (by kernel_rfl) (Nat.le_of_ble_eq_true (by kernel_rfl)) (by kernel_rfl) (Res.box b [Value.slice A n c, Value.int .i64 ix29, Value.int .i64 hx30] 70 :: Res.box blk14 [Value.slice none 0 0] 32 :: Res.row (Value.slice ld6A (List.length ld6) ld6c) 44 2 (List.length ld6) (flat true ld6y) :: Res.box blk2 [Value.slice none 0 0] 32 :: ((ld6y.map (It.row .i64 3)) ++ tl)) (by kernel_rfl) hS25 (fun w72 hS72 => hK _ _ ?_))
          clear hK K
          refine l_nil rfl ?_
          refine blk_n ?_
          refine then_n ?_
          refine wp_seq ?_
          refine c_reg ?_
          refine q_seg (S := (fun x_ => St w0 x_ (Res.box b [Value.slice A n c, Value.int .i64 ix29, Value.int .i64 hx30] 70 :: Res.box blk14 [Value.slice none 0 0] 32 :: Res.row (Value.slice ld6A (List.length ld6) ld6c) 44 2 (List.length ld6) (flat true ld6y) :: Res.box blk2 [Value.slice none 0 0] 32 :: ((ld6y.map (It.row .i64 3)) ++ tl)))) [(52, Value.agg #[Value.slice none 0 0])] [.v (Value.agg #[Value.slice none 0 0])] ((LoadsAt Try.prog (fun x_ => St w0 x_ (Res.box b [Value.slice A n c, Value.int .i64 ix29, Value.int .i64 hx30] 70 :: Res.box blk14 [Value.slice none 0 0] 32 :: Res.row (Value.slice ld6A (List.length ld6) ld6c) 44 2 (List.length ld6) (flat true ld6y) :: Res.box blk2 [Value.slice none 0 0] 32 :: ((ld6y.map (It.row .i64 3)) ++ tl))) 32 ⟨blk14, 0, none⟩ (Value.agg #[Value.slice none 0 0]))) (by kernel_rfl) (ld_boxN (i := 1) (k := 1) rfl rfl rfl (by kernel_rfl)) hS72 ?_
          refine l_op rfl rfl (fun K hK => op_store (d := none) rfl rfl (i := 3) (b := blk2) (off := 0) (cs := [Value.slice none 0 0]) (bt := 32) (by kernel_rfl) (by kernel_rfl) [Value.slice none 0 0] (by kernel_rfl) (by kernel_rfl) (Nat.le_of_ble_eq_true (by kernel_rfl)) (by kernel_rfl) (Res.box b [Value.slice A n c, Value.int .i64 ix29, Value.int .i64 hx30] 70 :: Res.box blk14 [Value.slice none 0 0] 32 :: Res.row (Value.slice ld6A (List.length ld6) ld6c) 44 2 (List.length ld6) (flat true ld6y) :: Res.box blk2 [Value.slice none 0 0] 32 :: ((ld6y.map (It.row .i64 3)) ++ tl)) (by kernel_rfl) hS72 (fun w73 hS73 => hK _ _ ?_))
          clear hK K
          refine l_nil rfl ?_
          refine then_n ?_
          refine wp_ret ?_
          have hS73s17 : St w0 w73 (Res.row (Value.slice none 0 0) 44 2 0 ([]) :: Res.box b [Value.slice A n c, Value.int .i64 ix29, Value.int .i64 hx30] 70 :: Res.box blk14 [Value.slice none 0 0] 32 :: Res.row (Value.slice ld6A (List.length ld6) ld6c) 44 2 (List.length ld6) (flat true ld6y) :: Res.box blk2 [Value.slice none 0 0] 32 :: ((ld6y.map (It.row .i64 3)) ++ tl)) := hS73.nilrow 44 2
          have hS73s17s18 : St w0 w73 (Res.row (Value.slice none 0 0) 44 2 0 (flat true ([] : List It)) :: Res.box b [Value.slice A n c, Value.int .i64 ix29, Value.int .i64 hx30] 70 :: Res.box blk14 [Value.slice none 0 0] 32 :: Res.row (Value.slice ld6A (List.length ld6) ld6c) 44 2 (List.length ld6) (flat true ld6y) :: Res.box blk2 [Value.slice none 0 0] 32 :: ((([] : List It).map (It.row .i64 3)) ++ ((ld6y.map (It.row .i64 3)) ++ tl))) := hS73s17
          have hS73s17s18s19 : St w0 w73 (Res.row (Value.slice none 0 0) 44 2 0 (flat true ([] : List It)) :: Res.box b [Value.slice A n c, Value.int .i64 ix29, Value.int .i64 hx30] 70 :: ((([] : List It).map (It.row .i64 3)) ++ tl)) := (hS73s17s18.sub (List.Sublist.cons_cons _ (List.Sublist.cons_cons _ (List.Sublist.cons _ (List.Sublist.cons _ (List.Sublist.cons _ (List.Sublist.append (List.Sublist.refl _) (List.Sublist.trans (List.Sublist.refl _) (List.sublist_append_right _ _)))))))))
          have hSo := St.inB [Res.row (Value.slice none 0 0) 44 2 0 (flat true ([] : List It)), Res.box b [Value.slice A n c, Value.int .i64 ix29, Value.int .i64 hx30] 70] [] [(([] : List It).map (It.row .i64 3))] tl hS73s17s18s19
          exact c_end (S := (fun x_ => St w0 x_ (Res.row (Value.slice none 0 0) 44 2 0 (flat true ([] : List It)) :: Res.box b [Value.slice A n c, Value.int .i64 ix29, Value.int .i64 hx30] 70 :: Res.box blk14 [Value.slice none 0 0] 32 :: Res.row (Value.slice ld6A (List.length ld6) ld6c) 44 2 (List.length ld6) (flat true ld6y) :: Res.box blk2 [Value.slice none 0 0] 32 :: ((([] : List It).map (It.row .i64 3)) ++ ((ld6y.map (It.row .i64 3)) ++ tl))))) (rs := [.cell 2 32]) rfl [Value.agg #[Value.slice none 0 0]] (v := Value.agg #[Value.slice none 0 0]) (C := ((LoadsAt Try.prog (fun x_ => St w0 x_ (Res.row (Value.slice none 0 0) 44 2 0 (flat true ([] : List It)) :: Res.box b [Value.slice A n c, Value.int .i64 ix29, Value.int .i64 hx30] 70 :: Res.box blk14 [Value.slice none 0 0] 32 :: Res.row (Value.slice ld6A (List.length ld6) ld6c) 44 2 (List.length ld6) (flat true ld6y) :: Res.box blk2 [Value.slice none 0 0] 32 :: ((([] : List It).map (It.row .i64 3)) ++ ((ld6y.map (It.row .i64 3)) ++ tl)))) 32 ⟨blk2, 0, none⟩ (Value.agg #[Value.slice none 0 0])))) (by kernel_rfl) (ld_boxN (i := 4) (k := 1) rfl rfl rfl (by kernel_rfl)) hS73s17s18 (⟨_, _, rfl, hSo, ix29, hx30, ([]), none, 0, ([] : List It), rfl, rfl, hC31, rfl, okL.nil, (by first | omega | decide), (by first | omega | decide)⟩)
        · skip
          have hb71p := of_decide_eq_false hb71
          refine c_false (b := (decide (xd28 = (3 : Int)))) (by kernel_rfl) hb71 ?_
          refine wp_skip ?_
          refine blk_n ?_
          refine then_n ?_
          refine wp_seq ?_
          refine c_reg ?_
          refine q_seg (S := (fun x_ => St w0 x_ (Res.box b [Value.slice A n c, Value.int .i64 ix29, Value.int .i64 hx30] 70 :: Res.box blk14 [Value.slice ld6A (List.length ld6) ld6c] 32 :: Res.row (Value.slice ld6A (List.length ld6) ld6c) 44 2 (List.length ld6) (flat true ld6y) :: Res.box blk2 [Value.slice none 0 0] 32 :: ((ld6y.map (It.row .i64 3)) ++ tl)))) [(52, Value.agg #[Value.slice ld6A (List.length ld6) ld6c])] [.v (Value.agg #[Value.slice ld6A (List.length ld6) ld6c])] ((LoadsAt Try.prog (fun x_ => St w0 x_ (Res.box b [Value.slice A n c, Value.int .i64 ix29, Value.int .i64 hx30] 70 :: Res.box blk14 [Value.slice ld6A (List.length ld6) ld6c] 32 :: Res.row (Value.slice ld6A (List.length ld6) ld6c) 44 2 (List.length ld6) (flat true ld6y) :: Res.box blk2 [Value.slice none 0 0] 32 :: ((ld6y.map (It.row .i64 3)) ++ tl))) 32 ⟨blk14, 0, none⟩ (Value.agg #[Value.slice ld6A (List.length ld6) ld6c]))) (by kernel_rfl) (ld_boxN (i := 1) (k := 1) rfl rfl rfl (by kernel_rfl)) hS25 ?_
          refine l_op rfl rfl (fun K hK => op_store (d := none) rfl rfl (i := 3) (b := blk2) (off := 0) (cs := [Value.slice none 0 0]) (bt := 32) (by kernel_rfl) (by kernel_rfl) [Value.slice ld6A (List.length ld6) ld6c] (by kernel_rfl) (by kernel_rfl) (Nat.le_of_ble_eq_true (by kernel_rfl)) (by kernel_rfl) (Res.box b [Value.slice A n c, Value.int .i64 ix29, Value.int .i64 hx30] 70 :: Res.box blk14 [Value.slice ld6A (List.length ld6) ld6c] 32 :: Res.row (Value.slice ld6A (List.length ld6) ld6c) 44 2 (List.length ld6) (flat true ld6y) :: Res.box blk2 [Value.slice ld6A (List.length ld6) ld6c] 32 :: ((ld6y.map (It.row .i64 3)) ++ tl)) (by kernel_rfl) hS25 (fun w74 hS74 => hK _ _ ?_))
          clear hK K
          refine l_nil rfl ?_
          refine then_n ?_
          refine wp_ret ?_
          have hS74s20 : St w0 w74 (Res.box b [Value.slice A n c, Value.int .i64 ix29, Value.int .i64 hx30] 70 :: Res.row (Value.slice ld6A (List.length ld6) ld6c) 44 2 (List.length ld6) (flat true ld6y) :: ((ld6y.map (It.row .i64 3)) ++ tl)) := (hS74.sub (List.Sublist.cons_cons _ (List.Sublist.cons _ (List.Sublist.cons_cons _ (List.Sublist.cons _ (List.Sublist.append (List.Sublist.refl _) (List.Sublist.refl _)))))))
          have hS74s20s21 : St w0 w74 (Res.box b [Value.slice A n c, Value.int .i64 ix29, Value.int .i64 hx30] 70 :: Res.row (Value.slice ld6A (List.length ld6) ld6c) 44 2 (List.length ld6) (flat true ld6y) :: ((ld6y.map (It.row .i64 3)) ++ tl)) := hS74s20.front 0 rfl
          have hS74s20s21s22 : St w0 w74 (Res.row (Value.slice ld6A (List.length ld6) ld6c) 44 2 (List.length ld6) (flat true ld6y) :: Res.box b [Value.slice A n c, Value.int .i64 ix29, Value.int .i64 hx30] 70 :: ((ld6y.map (It.row .i64 3)) ++ tl)) := hS74s20s21.front 1 rfl
          have hSo := St.inB [Res.row (Value.slice ld6A (List.length ld6) ld6c) 44 2 (List.length ld6) (flat true ld6y), Res.box b [Value.slice A n c, Value.int .i64 ix29, Value.int .i64 hx30] 70] [] [(ld6y.map (It.row .i64 3))] tl hS74s20s21s22
          exact c_end (S := (fun x_ => St w0 x_ (Res.box b [Value.slice A n c, Value.int .i64 ix29, Value.int .i64 hx30] 70 :: Res.box blk14 [Value.slice ld6A (List.length ld6) ld6c] 32 :: Res.row (Value.slice ld6A (List.length ld6) ld6c) 44 2 (List.length ld6) (flat true ld6y) :: Res.box blk2 [Value.slice ld6A (List.length ld6) ld6c] 32 :: ((ld6y.map (It.row .i64 3)) ++ tl)))) (rs := [.cell 2 32]) rfl [Value.agg #[Value.slice ld6A (List.length ld6) ld6c]] (v := Value.agg #[Value.slice ld6A (List.length ld6) ld6c]) (C := ((LoadsAt Try.prog (fun x_ => St w0 x_ (Res.box b [Value.slice A n c, Value.int .i64 ix29, Value.int .i64 hx30] 70 :: Res.box blk14 [Value.slice ld6A (List.length ld6) ld6c] 32 :: Res.row (Value.slice ld6A (List.length ld6) ld6c) 44 2 (List.length ld6) (flat true ld6y) :: Res.box blk2 [Value.slice ld6A (List.length ld6) ld6c] 32 :: ((ld6y.map (It.row .i64 3)) ++ tl))) 32 ⟨blk2, 0, none⟩ (Value.agg #[Value.slice ld6A (List.length ld6) ld6c])))) (by kernel_rfl) (ld_boxN (i := 3) (k := 1) rfl rfl rfl (by kernel_rfl)) hS74 (⟨_, _, rfl, hSo, ix29, hx30, ld6, ld6A, ld6c, ld6y, rfl, rfl, hC31, ld6q, ld6o, (by first | omega | decide), (by first | omega | decide)⟩)
theorem l26Pager_s_c (b : Nat) (A : Option Addr) (n c : Nat) (i h : Int)  (tl : List Res) (w0 w : World) (hS : St w0 w (Res.box b [Value.slice A n c, Value.int .i64 i, Value.int .i64 h] 70 :: tl)) (hC : CurI w0 A n i)  : Calls Try.prog 45 #[.pointer (some ⟨b, 0, none⟩)] w (fun e w' => ∃ v own', e = .returned v ∧ St w0 w' own' ∧ (∃ (i' h' : Int) (a_ : Int) (t_ : Int) (w_ : Int), v = Value.agg #[Value.int .i64 a_, Value.int .i64 t_, Value.int .i64 w_] ∧ own' = (Res.box b [Value.slice A n c, Value.int .i64 i', Value.int .i64 h'] 70 :: tl) ∧ CurI w0 A n i' ∧ (0 ≤ a_) ∧ (a_ ≤ 2) ∧ (0 ≤ t_) ∧ (t_ ≤ 4) ∧ (0 ≤ w_) ∧ (w_ ≤ 3))) := by
  obtain ⟨hClo, hChi, hCn, _⟩ := id hC
  refine calls_FA Try.func45 rfl (n := 10) rfl (l := [(0, Value.pointer (some ⟨b, 0, none⟩))]) rfl (by simp) (fun g => ?_)
  refine wp_seq ?_
  refine c_reg ?_
  refine l_op rfl rfl (fun K hK => op_alloc (d := some 2) rfl rfl [Value.int .i64 0, Value.int .i64 0, Value.int .i64 0] (by kernel_rfl) hS (fun blk2 w1 hS1 => hK _ _ ?_))
  clear hK K
  refine l_nil rfl ?_
  refine then_n ?_
  refine wp_seq ?_
  refine c_reg ?_
  refine q_seg (S := (fun x_ => St w0 x_ (Res.box blk2 [Value.int .i64 0, Value.int .i64 0, Value.int .i64 0] 25 :: Res.box b [Value.slice A n c, Value.int .i64 i, Value.int .i64 h] 70 :: tl))) [(3, Value.pointer (some ⟨b, 0, none⟩))] [.no] True (by kernel_rfl) trivial hS1 ?_
  refine l_op rfl rfl (fun K hK => op_callm (d := some 4) rfl rfl ⟨_, Try.func38, by kernel_rfl, by kernel_rfl⟩ (vs := [Value.pointer (some ⟨b, 0, none⟩), Value.int .i64 3]) (by kernel_rfl) (l1Below_s_c b A n c i h (3 : Int) _ w0 w1 (hS1.front 1 rfl) hC (by omega)) (fun v4 new5 w3 Rw3 hS3 => ?_))
  obtain ⟨ix7, hx8, xd6, rfl, rfl, hC9, hf10, hf11⟩ := Rw3
  refine hK _ _ ?_
  clear hK K
  refine q_seg (S := (fun x_ => St w0 x_ (Res.box b [Value.slice A n c, Value.int .i64 ix7, Value.int .i64 hx8] 70 :: Res.box blk2 [Value.int .i64 0, Value.int .i64 0, Value.int .i64 0] 25 :: tl))) [(5, Value.pointer (some ⟨b, 0, none⟩))] [.no] True (by kernel_rfl) trivial hS3 ?_
  refine l_op rfl rfl (fun K hK => op_callm (d := some 6) rfl rfl ⟨_, Try.func38, by kernel_rfl, by kernel_rfl⟩ (vs := [Value.pointer (some ⟨b, 0, none⟩), Value.int .i64 5]) (by kernel_rfl) (l1Below_s_c b A n c ix7 hx8 (5 : Int) _ w0 w3 hS3 hC9 (by omega)) (fun v13 new14 w12 Rw12 hS12 => ?_))
  obtain ⟨ix16, hx17, xd15, rfl, rfl, hC18, hf19, hf20⟩ := Rw12
  refine hK _ _ ?_
  clear hK K
  refine q_seg (S := (fun x_ => St w0 x_ (Res.box b [Value.slice A n c, Value.int .i64 ix16, Value.int .i64 hx17] 70 :: Res.box blk2 [Value.int .i64 0, Value.int .i64 0, Value.int .i64 0] 25 :: tl))) [(7, Value.pointer (some ⟨b, 0, none⟩))] [.no] True (by kernel_rfl) trivial hS12 ?_
  refine l_op rfl rfl (fun K hK => op_callm (d := some 8) rfl rfl ⟨_, Try.func38, by kernel_rfl, by kernel_rfl⟩ (vs := [Value.pointer (some ⟨b, 0, none⟩), Value.int .i64 4]) (by kernel_rfl) (l1Below_s_c b A n c ix16 hx17 (4 : Int) _ w0 w12 hS12 hC18 (by omega)) (fun v22 new23 w21 Rw21 hS21 => ?_))
  obtain ⟨ix25, hx26, xd24, rfl, rfl, hC27, hf28, hf29⟩ := Rw21
  refine hK _ _ ?_
  clear hK K
  refine q_seg (S := (fun x_ => St w0 x_ (Res.box b [Value.slice A n c, Value.int .i64 ix25, Value.int .i64 hx26] 70 :: Res.box blk2 [Value.int .i64 0, Value.int .i64 0, Value.int .i64 0] 25 :: tl))) [(9, Value.agg #[Value.int .i64 xd6, Value.int .i64 xd15, Value.int .i64 xd24])] [.no] True (by kernel_rfl) trivial hS21 ?_
  refine l_op rfl rfl (fun K hK => op_store (d := none) rfl rfl (i := 1) (b := blk2) (off := 0) (cs := [Value.int .i64 0, Value.int .i64 0, Value.int .i64 0]) (bt := 25) (by kernel_rfl) (by kernel_rfl) [Value.int .i64 xd6, Value.int .i64 xd15, Value.int .i64 xd24] (by kernel_rfl) (by kernel_rfl) (Nat.le_of_ble_eq_true (by kernel_rfl)) (by kernel_rfl) (Res.box b [Value.slice A n c, Value.int .i64 ix25, Value.int .i64 hx26] 70 :: Res.box blk2 [Value.int .i64 xd6, Value.int .i64 xd15, Value.int .i64 xd24] 25 :: tl) (by kernel_rfl) hS21 (fun w30 hS30 => hK _ _ ?_))
  clear hK K
  refine l_nil rfl ?_
  refine then_n ?_
  refine wp_ret ?_
  have hS30s1 : St w0 w30 (Res.box b [Value.slice A n c, Value.int .i64 ix25, Value.int .i64 hx26] 70 :: tl) := (hS30.sub (List.Sublist.cons_cons _ (List.Sublist.cons _ (List.Sublist.refl _))))
  exact c_end (S := (fun x_ => St w0 x_ (Res.box b [Value.slice A n c, Value.int .i64 ix25, Value.int .i64 hx26] 70 :: Res.box blk2 [Value.int .i64 xd6, Value.int .i64 xd15, Value.int .i64 xd24] 25 :: tl))) (rs := [.cell 2 25]) rfl [Value.agg #[Value.int .i64 xd6, Value.int .i64 xd15, Value.int .i64 xd24]] (v := Value.agg #[Value.int .i64 xd6, Value.int .i64 xd15, Value.int .i64 xd24]) (C := ((LoadsAt Try.prog (fun x_ => St w0 x_ (Res.box b [Value.slice A n c, Value.int .i64 ix25, Value.int .i64 hx26] 70 :: Res.box blk2 [Value.int .i64 xd6, Value.int .i64 xd15, Value.int .i64 xd24] 25 :: tl)) 25 ⟨blk2, 0, none⟩ (Value.agg #[Value.int .i64 xd6, Value.int .i64 xd15, Value.int .i64 xd24])))) (by kernel_rfl) (ld_boxN (i := 1) (k := 3) rfl rfl rfl (by kernel_rfl)) hS30 (⟨_, _, rfl, hS30s1, ix25, hx26, xd6, xd15, xd24, rfl, rfl, hC27, (by omega), (by omega), (by omega), (by omega), (by omega), (by omega)⟩)
theorem l26Any_s_c (b : Nat) (A : Option Addr) (n c : Nat) (i h : Int)  (tl : List Res) (w0 w : World) (hS : St w0 w (Res.box b [Value.slice A n c, Value.int .i64 i, Value.int .i64 h] 70 :: tl)) (hC : CurI w0 A n i)  : Calls Try.prog 35 #[.pointer (some ⟨b, 0, none⟩)] w (fun e w' => ∃ v own', e = .returned v ∧ St w0 w' own' ∧ (∃ (i' h' : Int) (a_ : Int) (t_ : Int) (w_ : Int), v = Value.agg #[Value.int .i64 a_, Value.int .i64 t_, Value.int .i64 w_] ∧ own' = (Res.box b [Value.slice A n c, Value.int .i64 i', Value.int .i64 h'] 70 :: tl) ∧ CurI w0 A n i' ∧ (-1 ≤ a_) ∧ (a_ ≤ 3) ∧ (-1 ≤ t_) ∧ (t_ ≤ 5) ∧ (-1 ≤ w_) ∧ (w_ ≤ 4))) := by
  obtain ⟨hClo, hChi, hCn, _⟩ := id hC
  refine calls_FA Try.func35 rfl (n := 27) rfl (l := [(0, Value.pointer (some ⟨b, 0, none⟩))]) rfl (by simp) (fun g => ?_)
  refine wp_seq ?_
  refine c_reg ?_
  refine l_op rfl rfl (fun K hK => op_alloc (d := some 2) rfl rfl [Value.int .i64 0, Value.int .i64 0, Value.int .i64 0] (by kernel_rfl) hS (fun blk2 w1 hS1 => hK _ _ ?_))
  clear hK K
  refine l_nil rfl ?_
  refine then_n ?_
  refine wp_seq ?_
  refine c_reg ?_
  refine q_seg (S := (fun x_ => St w0 x_ (Res.box blk2 [Value.int .i64 0, Value.int .i64 0, Value.int .i64 0] 25 :: Res.box b [Value.slice A n c, Value.int .i64 i, Value.int .i64 h] 70 :: tl))) [(4, Value.pointer (some ⟨b, 0, none⟩))] [.no] True (by kernel_rfl) trivial hS1 ?_
  refine l_op rfl rfl (fun K hK => op_callm (d := some 5) rfl rfl ⟨_, Try.func45, by kernel_rfl, by kernel_rfl⟩ (vs := [Value.pointer (some ⟨b, 0, none⟩)]) (by kernel_rfl) (l26Pager_s_c b A n c i h  _ w0 w1 (hS1.front 1 rfl) hC ) (fun v4 new5 w3 Rw3 hS3 => ?_))
  obtain ⟨ix9, hx10, ad6, td7, wd8, rfl, rfl, hC11, hf12, hf13, hf14, hf15, hf16, hf17⟩ := Rw3
  refine hK _ _ ?_
  clear hK K
  refine l_op rfl rfl (fun K hK => op_alloc (d := some 3) rfl rfl [Value.int .i64 0, Value.int .i64 0, Value.int .i64 0] (by kernel_rfl) hS3 (fun blk19 w18 hS18 => hK _ _ ?_))
  clear hK K
  refine l_op rfl rfl (fun K hK => op_store (d := none) rfl rfl (i := 0) (b := blk19) (off := 0) (cs := [Value.int .i64 0, Value.int .i64 0, Value.int .i64 0]) (bt := 25) (by kernel_rfl) (by kernel_rfl) [Value.int .i64 ad6, Value.int .i64 td7, Value.int .i64 wd8] (by kernel_rfl) (by kernel_rfl) (Nat.le_of_ble_eq_true (by kernel_rfl)) (by kernel_rfl) (Res.box blk19 [Value.int .i64 ad6, Value.int .i64 td7, Value.int .i64 wd8] 25 :: Res.box b [Value.slice A n c, Value.int .i64 ix9, Value.int .i64 hx10] 70 :: Res.box blk2 [Value.int .i64 0, Value.int .i64 0, Value.int .i64 0] 25 :: tl) (by kernel_rfl) hS18 (fun w20 hS20 => hK _ _ ?_))
  clear hK K
  refine l_nil rfl ?_
  refine then_n ?_
  refine wp_seq ?_
  refine wp_seq ?_
  refine c_reg ?_
  refine q_seg (S := (fun x_ => St w0 x_ (Res.box blk19 [Value.int .i64 ad6, Value.int .i64 td7, Value.int .i64 wd8] 25 :: Res.box b [Value.slice A n c, Value.int .i64 ix9, Value.int .i64 hx10] 70 :: Res.box blk2 [Value.int .i64 0, Value.int .i64 0, Value.int .i64 0] 25 :: tl))) [(6, Value.pointer (some ⟨b, 0, none⟩))] [.no] True (by kernel_rfl) trivial hS20 ?_
  refine l_op rfl rfl (fun K hK => op_callm (d := some 7) rfl rfl ⟨_, Try.func38, by kernel_rfl, by kernel_rfl⟩ (vs := [Value.pointer (some ⟨b, 0, none⟩), Value.int .i64 8]) (by kernel_rfl) (l1Below_s_c b A n c ix9 hx10 (8 : Int) _ w0 w20 (hS20.front 1 rfl) hC11 (by omega)) (fun v22 new23 w21 Rw21 hS21 => ?_))
  obtain ⟨ix25, hx26, xd24, rfl, rfl, hC27, hf28, hf29⟩ := Rw21
  refine hK _ _ ?_
  clear hK K
  refine l_nil rfl ?_
  refine then_n ?_
  refine wp_block ?_
  refine wp_seq ?_
  refine c_reg ?_
  refine q_seg (S := (fun x_ => St w0 x_ (Res.box b [Value.slice A n c, Value.int .i64 ix25, Value.int .i64 hx26] 70 :: Res.box blk19 [Value.int .i64 ad6, Value.int .i64 td7, Value.int .i64 wd8] 25 :: Res.box blk2 [Value.int .i64 0, Value.int .i64 0, Value.int .i64 0] 25 :: tl))) [(8, Value.bool (decide (xd24 = (0 : Int)))), (9, Value.bool (decide (xd24 = (0 : Int))))] [.no, .no] True (by kernel_rfl) trivial hS21 ?_
  refine l_nil rfl ?_
  refine then_n ?_
  rcases Bool.eq_false_or_eq_true (decide (xd24 = (0 : Int))) with hb30 | hb30
  · skip
    have hb30p := of_decide_eq_true hb30
    refine c_true (b := (decide (xd24 = (0 : Int)))) (by kernel_rfl) hb30 ?_
    refine c_reg ?_
    refine q_seg (S := (fun x_ => St w0 x_ (Res.box b [Value.slice A n c, Value.int .i64 ix25, Value.int .i64 hx26] 70 :: Res.box blk19 [Value.int .i64 ad6, Value.int .i64 td7, Value.int .i64 wd8] 25 :: Res.box blk2 [Value.int .i64 0, Value.int .i64 0, Value.int .i64 0] 25 :: tl))) [(10, Value.pointer (some ⟨b, 0, none⟩))] [.no] True (by kernel_rfl) trivial hS21 ?_
    refine l_op rfl rfl (fun K hK => op_buildSlice (d := some 11) rfl rfl (e := 3) (by kernel_rfl) 1 (by kernel_rfl) (by decide) (by decide) [Value.int .i64 (-1), Value.int .i64 3] (by kernel_rfl) rfl hS21 (fun blk32 w31 hS31 => hK _ _ ?_))
    clear hK K
    refine l_op rfl rfl (fun K hK => op_callm (d := some 12) rfl rfl ⟨_, Try.func46, by kernel_rfl, by kernel_rfl⟩ (vs := [Value.pointer (some ⟨b, 0, none⟩), Value.slice (some ⟨blk32, 0, none⟩) 2 2]) (by kernel_rfl) (l1Int_s_c b A n c ix25 hx26 (some ⟨blk32, 0, none⟩) 2 ([(-1), 3]) _ w0 w31 (hS31.front 1 rfl) hC27 (by first | omega | decide | simp)) (fun v34 new35 w33 Rw33 hS33 => ?_))
    obtain ⟨ix37, hx38, xd36, rfl, rfl, hC39, hf40⟩ := Rw33
    simp only [List.mem_cons, List.mem_nil_iff, or_false, List.not_mem_nil] at hf40
    have hf40b : -1 ≤ xd36 ∧ xd36 ≤ 3 := by omega
    refine hK _ _ ?_
    clear hK K
    refine q_seg (S := (fun x_ => St w0 x_ (Res.box b [Value.slice A n c, Value.int .i64 ix37, Value.int .i64 hx38] 70 :: Res.row (Value.slice (some ⟨blk32, 0, none⟩) 2 2) 3 1 2 ([Value.int .i64 (-1), Value.int .i64 3]) :: Res.box blk19 [Value.int .i64 ad6, Value.int .i64 td7, Value.int .i64 wd8] 25 :: Res.box blk2 [Value.int .i64 0, Value.int .i64 0, Value.int .i64 0] 25 :: tl))) [(13, Value.pointer (some ⟨blk19, 0 + 0, none⟩))] [.no] True (by kernel_rfl) trivial hS33 ?_
    refine l_op rfl rfl (fun K hK => op_store (d := none) rfl rfl (i := 2) (b := blk19) (off := 0 + 0) (cs := [Value.int .i64 ad6, Value.int .i64 td7, Value.int .i64 wd8]) (bt := 25) (by kernel_rfl) (by kernel_rfl) [Value.int .i64 xd36] (by kernel_rfl) (by kernel_rfl) (Nat.le_of_ble_eq_true (by kernel_rfl)) (by kernel_rfl) (Res.box b [Value.slice A n c, Value.int .i64 ix37, Value.int .i64 hx38] 70 :: Res.row (Value.slice (some ⟨blk32, 0, none⟩) 2 2) 3 1 2 ([Value.int .i64 (-1), Value.int .i64 3]) :: Res.box blk19 [Value.int .i64 xd36, Value.int .i64 td7, Value.int .i64 wd8] 25 :: Res.box blk2 [Value.int .i64 0, Value.int .i64 0, Value.int .i64 0] 25 :: tl) (by kernel_rfl) hS33 (fun w41 hS41 => hK _ _ ?_))
    clear hK K
    refine l_nil rfl ?_
    refine blk_n ?_
    refine then_n ?_
    refine wp_seq ?_
    refine c_reg ?_
    refine q_seg (S := (fun x_ => St w0 x_ (Res.box b [Value.slice A n c, Value.int .i64 ix37, Value.int .i64 hx38] 70 :: Res.row (Value.slice (some ⟨blk32, 0, none⟩) 2 2) 3 1 2 ([Value.int .i64 (-1), Value.int .i64 3]) :: Res.box blk19 [Value.int .i64 xd36, Value.int .i64 td7, Value.int .i64 wd8] 25 :: Res.box blk2 [Value.int .i64 0, Value.int .i64 0, Value.int .i64 0] 25 :: tl))) [(26, Value.agg #[Value.int .i64 xd36, Value.int .i64 td7, Value.int .i64 wd8])] [.v (Value.agg #[Value.int .i64 xd36, Value.int .i64 td7, Value.int .i64 wd8])] ((LoadsAt Try.prog (fun x_ => St w0 x_ (Res.box b [Value.slice A n c, Value.int .i64 ix37, Value.int .i64 hx38] 70 :: Res.row (Value.slice (some ⟨blk32, 0, none⟩) 2 2) 3 1 2 ([Value.int .i64 (-1), Value.int .i64 3]) :: Res.box blk19 [Value.int .i64 xd36, Value.int .i64 td7, Value.int .i64 wd8] 25 :: Res.box blk2 [Value.int .i64 0, Value.int .i64 0, Value.int .i64 0] 25 :: tl)) 25 ⟨blk19, 0, none⟩ (Value.agg #[Value.int .i64 xd36, Value.int .i64 td7, Value.int .i64 wd8]))) (by kernel_rfl) (ld_boxN (i := 2) (k := 3) rfl rfl rfl (by kernel_rfl)) hS41 ?_
    refine l_op rfl rfl (fun K hK => op_store (d := none) rfl rfl (i := 3) (b := blk2) (off := 0) (cs := [Value.int .i64 0, Value.int .i64 0, Value.int .i64 0]) (bt := 25) (by kernel_rfl) (by kernel_rfl) [Value.int .i64 xd36, Value.int .i64 td7, Value.int .i64 wd8] (by kernel_rfl) (by kernel_rfl) (Nat.le_of_ble_eq_true (by kernel_rfl)) (by kernel_rfl) (Res.box b [Value.slice A n c, Value.int .i64 ix37, Value.int .i64 hx38] 70 :: Res.row (Value.slice (some ⟨blk32, 0, none⟩) 2 2) 3 1 2 ([Value.int .i64 (-1), Value.int .i64 3]) :: Res.box blk19 [Value.int .i64 xd36, Value.int .i64 td7, Value.int .i64 wd8] 25 :: Res.box blk2 [Value.int .i64 xd36, Value.int .i64 td7, Value.int .i64 wd8] 25 :: tl) (by kernel_rfl) hS41 (fun w42 hS42 => hK _ _ ?_))
    clear hK K
    refine l_nil rfl ?_
    refine then_n ?_
    refine wp_ret ?_
    have hS42s1 : St w0 w42 (Res.box b [Value.slice A n c, Value.int .i64 ix37, Value.int .i64 hx38] 70 :: tl) := (hS42.sub (List.Sublist.cons_cons _ (List.Sublist.cons _ (List.Sublist.cons _ (List.Sublist.cons _ (List.Sublist.refl _))))))
    exact c_end (S := (fun x_ => St w0 x_ (Res.box b [Value.slice A n c, Value.int .i64 ix37, Value.int .i64 hx38] 70 :: Res.row (Value.slice (some ⟨blk32, 0, none⟩) 2 2) 3 1 2 ([Value.int .i64 (-1), Value.int .i64 3]) :: Res.box blk19 [Value.int .i64 xd36, Value.int .i64 td7, Value.int .i64 wd8] 25 :: Res.box blk2 [Value.int .i64 xd36, Value.int .i64 td7, Value.int .i64 wd8] 25 :: tl))) (rs := [.cell 2 25]) rfl [Value.agg #[Value.int .i64 xd36, Value.int .i64 td7, Value.int .i64 wd8]] (v := Value.agg #[Value.int .i64 xd36, Value.int .i64 td7, Value.int .i64 wd8]) (C := ((LoadsAt Try.prog (fun x_ => St w0 x_ (Res.box b [Value.slice A n c, Value.int .i64 ix37, Value.int .i64 hx38] 70 :: Res.row (Value.slice (some ⟨blk32, 0, none⟩) 2 2) 3 1 2 ([Value.int .i64 (-1), Value.int .i64 3]) :: Res.box blk19 [Value.int .i64 xd36, Value.int .i64 td7, Value.int .i64 wd8] 25 :: Res.box blk2 [Value.int .i64 xd36, Value.int .i64 td7, Value.int .i64 wd8] 25 :: tl)) 25 ⟨blk2, 0, none⟩ (Value.agg #[Value.int .i64 xd36, Value.int .i64 td7, Value.int .i64 wd8])))) (by kernel_rfl) (ld_boxN (i := 3) (k := 3) rfl rfl rfl (by kernel_rfl)) hS42 (⟨_, _, rfl, hS42s1, ix37, hx38, xd36, td7, wd8, rfl, rfl, hC39, (by omega), (by omega), (by omega), (by omega), (by omega), (by omega)⟩)
  · skip
    have hb30p := of_decide_eq_false hb30
    refine c_false (b := (decide (xd24 = (0 : Int)))) (by kernel_rfl) hb30 ?_
    refine wp_seq ?_
    refine c_reg ?_
    refine q_seg (S := (fun x_ => St w0 x_ (Res.box b [Value.slice A n c, Value.int .i64 ix25, Value.int .i64 hx26] 70 :: Res.box blk19 [Value.int .i64 ad6, Value.int .i64 td7, Value.int .i64 wd8] 25 :: Res.box blk2 [Value.int .i64 0, Value.int .i64 0, Value.int .i64 0] 25 :: tl))) [(14, Value.bool (decide (xd24 = (1 : Int)))), (15, Value.bool (decide (xd24 = (1 : Int))))] [.no, .no] True (by kernel_rfl) trivial hS21 ?_
    refine l_nil rfl ?_
    refine then_n ?_
    rcases Bool.eq_false_or_eq_true (decide (xd24 = (1 : Int))) with hb43 | hb43
    · skip
      have hb43p := of_decide_eq_true hb43
      refine c_true (b := (decide (xd24 = (1 : Int)))) (by kernel_rfl) hb43 ?_
      refine c_reg ?_
      refine q_seg (S := (fun x_ => St w0 x_ (Res.box b [Value.slice A n c, Value.int .i64 ix25, Value.int .i64 hx26] 70 :: Res.box blk19 [Value.int .i64 ad6, Value.int .i64 td7, Value.int .i64 wd8] 25 :: Res.box blk2 [Value.int .i64 0, Value.int .i64 0, Value.int .i64 0] 25 :: tl))) [(16, Value.pointer (some ⟨b, 0, none⟩))] [.no] True (by kernel_rfl) trivial hS21 ?_
      refine l_op rfl rfl (fun K hK => op_buildSlice (d := some 17) rfl rfl (e := 3) (by kernel_rfl) 1 (by kernel_rfl) (by decide) (by decide) [Value.int .i64 (-1), Value.int .i64 5] (by kernel_rfl) rfl hS21 (fun blk45 w44 hS44 => hK _ _ ?_))
      clear hK K
      refine l_op rfl rfl (fun K hK => op_callm (d := some 18) rfl rfl ⟨_, Try.func46, by kernel_rfl, by kernel_rfl⟩ (vs := [Value.pointer (some ⟨b, 0, none⟩), Value.slice (some ⟨blk45, 0, none⟩) 2 2]) (by kernel_rfl) (l1Int_s_c b A n c ix25 hx26 (some ⟨blk45, 0, none⟩) 2 ([(-1), 5]) _ w0 w44 (hS44.front 1 rfl) hC27 (by first | omega | decide | simp)) (fun v47 new48 w46 Rw46 hS46 => ?_))
      obtain ⟨ix50, hx51, xd49, rfl, rfl, hC52, hf53⟩ := Rw46
      simp only [List.mem_cons, List.mem_nil_iff, or_false, List.not_mem_nil] at hf53
      have hf53b : -1 ≤ xd49 ∧ xd49 ≤ 5 := by omega
      refine hK _ _ ?_
      clear hK K
      refine q_seg (S := (fun x_ => St w0 x_ (Res.box b [Value.slice A n c, Value.int .i64 ix50, Value.int .i64 hx51] 70 :: Res.row (Value.slice (some ⟨blk45, 0, none⟩) 2 2) 3 1 2 ([Value.int .i64 (-1), Value.int .i64 5]) :: Res.box blk19 [Value.int .i64 ad6, Value.int .i64 td7, Value.int .i64 wd8] 25 :: Res.box blk2 [Value.int .i64 0, Value.int .i64 0, Value.int .i64 0] 25 :: tl))) [(19, Value.pointer (some ⟨blk19, 0 + 1, none⟩))] [.no] True (by kernel_rfl) trivial hS46 ?_
      refine l_op rfl rfl (fun K hK => op_store (d := none) rfl rfl (i := 2) (b := blk19) (off := 0 + 1) (cs := [Value.int .i64 ad6, Value.int .i64 td7, Value.int .i64 wd8]) (bt := 25) (by kernel_rfl) (by kernel_rfl) [Value.int .i64 xd49] (by kernel_rfl) (by kernel_rfl) (Nat.le_of_ble_eq_true (by kernel_rfl)) (by kernel_rfl) (Res.box b [Value.slice A n c, Value.int .i64 ix50, Value.int .i64 hx51] 70 :: Res.row (Value.slice (some ⟨blk45, 0, none⟩) 2 2) 3 1 2 ([Value.int .i64 (-1), Value.int .i64 5]) :: Res.box blk19 [Value.int .i64 ad6, Value.int .i64 xd49, Value.int .i64 wd8] 25 :: Res.box blk2 [Value.int .i64 0, Value.int .i64 0, Value.int .i64 0] 25 :: tl) (by kernel_rfl) hS46 (fun w54 hS54 => hK _ _ ?_))
      clear hK K
      refine l_nil rfl ?_
      refine blk_n ?_
      refine then_n ?_
      refine wp_seq ?_
      refine c_reg ?_
      refine q_seg (S := (fun x_ => St w0 x_ (Res.box b [Value.slice A n c, Value.int .i64 ix50, Value.int .i64 hx51] 70 :: Res.row (Value.slice (some ⟨blk45, 0, none⟩) 2 2) 3 1 2 ([Value.int .i64 (-1), Value.int .i64 5]) :: Res.box blk19 [Value.int .i64 ad6, Value.int .i64 xd49, Value.int .i64 wd8] 25 :: Res.box blk2 [Value.int .i64 0, Value.int .i64 0, Value.int .i64 0] 25 :: tl))) [(26, Value.agg #[Value.int .i64 ad6, Value.int .i64 xd49, Value.int .i64 wd8])] [.v (Value.agg #[Value.int .i64 ad6, Value.int .i64 xd49, Value.int .i64 wd8])] ((LoadsAt Try.prog (fun x_ => St w0 x_ (Res.box b [Value.slice A n c, Value.int .i64 ix50, Value.int .i64 hx51] 70 :: Res.row (Value.slice (some ⟨blk45, 0, none⟩) 2 2) 3 1 2 ([Value.int .i64 (-1), Value.int .i64 5]) :: Res.box blk19 [Value.int .i64 ad6, Value.int .i64 xd49, Value.int .i64 wd8] 25 :: Res.box blk2 [Value.int .i64 0, Value.int .i64 0, Value.int .i64 0] 25 :: tl)) 25 ⟨blk19, 0, none⟩ (Value.agg #[Value.int .i64 ad6, Value.int .i64 xd49, Value.int .i64 wd8]))) (by kernel_rfl) (ld_boxN (i := 2) (k := 3) rfl rfl rfl (by kernel_rfl)) hS54 ?_
      refine l_op rfl rfl (fun K hK => op_store (d := none) rfl rfl (i := 3) (b := blk2) (off := 0) (cs := [Value.int .i64 0, Value.int .i64 0, Value.int .i64 0]) (bt := 25) (by kernel_rfl) (by kernel_rfl) [Value.int .i64 ad6, Value.int .i64 xd49, Value.int .i64 wd8] (by kernel_rfl) (by kernel_rfl) (Nat.le_of_ble_eq_true (by kernel_rfl)) (by kernel_rfl) (Res.box b [Value.slice A n c, Value.int .i64 ix50, Value.int .i64 hx51] 70 :: Res.row (Value.slice (some ⟨blk45, 0, none⟩) 2 2) 3 1 2 ([Value.int .i64 (-1), Value.int .i64 5]) :: Res.box blk19 [Value.int .i64 ad6, Value.int .i64 xd49, Value.int .i64 wd8] 25 :: Res.box blk2 [Value.int .i64 ad6, Value.int .i64 xd49, Value.int .i64 wd8] 25 :: tl) (by kernel_rfl) hS54 (fun w55 hS55 => hK _ _ ?_))
      clear hK K
      refine l_nil rfl ?_
      refine then_n ?_
      refine wp_ret ?_
      have hS55s2 : St w0 w55 (Res.box b [Value.slice A n c, Value.int .i64 ix50, Value.int .i64 hx51] 70 :: tl) := (hS55.sub (List.Sublist.cons_cons _ (List.Sublist.cons _ (List.Sublist.cons _ (List.Sublist.cons _ (List.Sublist.refl _))))))
      exact c_end (S := (fun x_ => St w0 x_ (Res.box b [Value.slice A n c, Value.int .i64 ix50, Value.int .i64 hx51] 70 :: Res.row (Value.slice (some ⟨blk45, 0, none⟩) 2 2) 3 1 2 ([Value.int .i64 (-1), Value.int .i64 5]) :: Res.box blk19 [Value.int .i64 ad6, Value.int .i64 xd49, Value.int .i64 wd8] 25 :: Res.box blk2 [Value.int .i64 ad6, Value.int .i64 xd49, Value.int .i64 wd8] 25 :: tl))) (rs := [.cell 2 25]) rfl [Value.agg #[Value.int .i64 ad6, Value.int .i64 xd49, Value.int .i64 wd8]] (v := Value.agg #[Value.int .i64 ad6, Value.int .i64 xd49, Value.int .i64 wd8]) (C := ((LoadsAt Try.prog (fun x_ => St w0 x_ (Res.box b [Value.slice A n c, Value.int .i64 ix50, Value.int .i64 hx51] 70 :: Res.row (Value.slice (some ⟨blk45, 0, none⟩) 2 2) 3 1 2 ([Value.int .i64 (-1), Value.int .i64 5]) :: Res.box blk19 [Value.int .i64 ad6, Value.int .i64 xd49, Value.int .i64 wd8] 25 :: Res.box blk2 [Value.int .i64 ad6, Value.int .i64 xd49, Value.int .i64 wd8] 25 :: tl)) 25 ⟨blk2, 0, none⟩ (Value.agg #[Value.int .i64 ad6, Value.int .i64 xd49, Value.int .i64 wd8])))) (by kernel_rfl) (ld_boxN (i := 3) (k := 3) rfl rfl rfl (by kernel_rfl)) hS55 (⟨_, _, rfl, hS55s2, ix50, hx51, ad6, xd49, wd8, rfl, rfl, hC52, (by omega), (by omega), (by omega), (by omega), (by omega), (by omega)⟩)
    · skip
      have hb43p := of_decide_eq_false hb43
      refine c_false (b := (decide (xd24 = (1 : Int)))) (by kernel_rfl) hb43 ?_
      refine wp_seq ?_
      refine c_reg ?_
      refine q_seg (S := (fun x_ => St w0 x_ (Res.box b [Value.slice A n c, Value.int .i64 ix25, Value.int .i64 hx26] 70 :: Res.box blk19 [Value.int .i64 ad6, Value.int .i64 td7, Value.int .i64 wd8] 25 :: Res.box blk2 [Value.int .i64 0, Value.int .i64 0, Value.int .i64 0] 25 :: tl))) [(20, Value.bool (decide (xd24 = (2 : Int)))), (21, Value.bool (decide (xd24 = (2 : Int))))] [.no, .no] True (by kernel_rfl) trivial hS21 ?_
      refine l_nil rfl ?_
      refine then_n ?_
      rcases Bool.eq_false_or_eq_true (decide (xd24 = (2 : Int))) with hb56 | hb56
      · skip
        have hb56p := of_decide_eq_true hb56
        refine c_true (b := (decide (xd24 = (2 : Int)))) (by kernel_rfl) hb56 ?_
        refine c_reg ?_
        refine q_seg (S := (fun x_ => St w0 x_ (Res.box b [Value.slice A n c, Value.int .i64 ix25, Value.int .i64 hx26] 70 :: Res.box blk19 [Value.int .i64 ad6, Value.int .i64 td7, Value.int .i64 wd8] 25 :: Res.box blk2 [Value.int .i64 0, Value.int .i64 0, Value.int .i64 0] 25 :: tl))) [(22, Value.pointer (some ⟨b, 0, none⟩))] [.no] True (by kernel_rfl) trivial hS21 ?_
        refine l_op rfl rfl (fun K hK => op_buildSlice (d := some 23) rfl rfl (e := 3) (by kernel_rfl) 1 (by kernel_rfl) (by decide) (by decide) [Value.int .i64 (-1), Value.int .i64 4] (by kernel_rfl) rfl hS21 (fun blk58 w57 hS57 => hK _ _ ?_))
        clear hK K
        refine l_op rfl rfl (fun K hK => op_callm (d := some 24) rfl rfl ⟨_, Try.func46, by kernel_rfl, by kernel_rfl⟩ (vs := [Value.pointer (some ⟨b, 0, none⟩), Value.slice (some ⟨blk58, 0, none⟩) 2 2]) (by kernel_rfl) (l1Int_s_c b A n c ix25 hx26 (some ⟨blk58, 0, none⟩) 2 ([(-1), 4]) _ w0 w57 (hS57.front 1 rfl) hC27 (by first | omega | decide | simp)) (fun v60 new61 w59 Rw59 hS59 => ?_))
        obtain ⟨ix63, hx64, xd62, rfl, rfl, hC65, hf66⟩ := Rw59
        simp only [List.mem_cons, List.mem_nil_iff, or_false, List.not_mem_nil] at hf66
        have hf66b : -1 ≤ xd62 ∧ xd62 ≤ 4 := by omega
        refine hK _ _ ?_
        clear hK K
        refine q_seg (S := (fun x_ => St w0 x_ (Res.box b [Value.slice A n c, Value.int .i64 ix63, Value.int .i64 hx64] 70 :: Res.row (Value.slice (some ⟨blk58, 0, none⟩) 2 2) 3 1 2 ([Value.int .i64 (-1), Value.int .i64 4]) :: Res.box blk19 [Value.int .i64 ad6, Value.int .i64 td7, Value.int .i64 wd8] 25 :: Res.box blk2 [Value.int .i64 0, Value.int .i64 0, Value.int .i64 0] 25 :: tl))) [(25, Value.pointer (some ⟨blk19, 0 + 2, none⟩))] [.no] True (by kernel_rfl) trivial hS59 ?_
        refine l_op rfl rfl (fun K hK => op_store (d := none) rfl rfl (i := 2) (b := blk19) (off := 0 + 2) (cs := [Value.int .i64 ad6, Value.int .i64 td7, Value.int .i64 wd8]) (bt := 25) (by kernel_rfl) (by kernel_rfl) [Value.int .i64 xd62] (by kernel_rfl) (by kernel_rfl) (Nat.le_of_ble_eq_true (by kernel_rfl)) (by kernel_rfl) (Res.box b [Value.slice A n c, Value.int .i64 ix63, Value.int .i64 hx64] 70 :: Res.row (Value.slice (some ⟨blk58, 0, none⟩) 2 2) 3 1 2 ([Value.int .i64 (-1), Value.int .i64 4]) :: Res.box blk19 [Value.int .i64 ad6, Value.int .i64 td7, Value.int .i64 xd62] 25 :: Res.box blk2 [Value.int .i64 0, Value.int .i64 0, Value.int .i64 0] 25 :: tl) (by kernel_rfl) hS59 (fun w67 hS67 => hK _ _ ?_))
        clear hK K
        refine l_nil rfl ?_
        refine blk_n ?_
        refine then_n ?_
        refine wp_seq ?_
        refine c_reg ?_
        refine q_seg (S := (fun x_ => St w0 x_ (Res.box b [Value.slice A n c, Value.int .i64 ix63, Value.int .i64 hx64] 70 :: Res.row (Value.slice (some ⟨blk58, 0, none⟩) 2 2) 3 1 2 ([Value.int .i64 (-1), Value.int .i64 4]) :: Res.box blk19 [Value.int .i64 ad6, Value.int .i64 td7, Value.int .i64 xd62] 25 :: Res.box blk2 [Value.int .i64 0, Value.int .i64 0, Value.int .i64 0] 25 :: tl))) [(26, Value.agg #[Value.int .i64 ad6, Value.int .i64 td7, Value.int .i64 xd62])] [.v (Value.agg #[Value.int .i64 ad6, Value.int .i64 td7, Value.int .i64 xd62])] ((LoadsAt Try.prog (fun x_ => St w0 x_ (Res.box b [Value.slice A n c, Value.int .i64 ix63, Value.int .i64 hx64] 70 :: Res.row (Value.slice (some ⟨blk58, 0, none⟩) 2 2) 3 1 2 ([Value.int .i64 (-1), Value.int .i64 4]) :: Res.box blk19 [Value.int .i64 ad6, Value.int .i64 td7, Value.int .i64 xd62] 25 :: Res.box blk2 [Value.int .i64 0, Value.int .i64 0, Value.int .i64 0] 25 :: tl)) 25 ⟨blk19, 0, none⟩ (Value.agg #[Value.int .i64 ad6, Value.int .i64 td7, Value.int .i64 xd62]))) (by kernel_rfl) (ld_boxN (i := 2) (k := 3) rfl rfl rfl (by kernel_rfl)) hS67 ?_
        refine l_op rfl rfl (fun K hK => op_store (d := none) rfl rfl (i := 3) (b := blk2) (off := 0) (cs := [Value.int .i64 0, Value.int .i64 0, Value.int .i64 0]) (bt := 25) (by kernel_rfl) (by kernel_rfl) [Value.int .i64 ad6, Value.int .i64 td7, Value.int .i64 xd62] (by kernel_rfl) (by kernel_rfl) (Nat.le_of_ble_eq_true (by kernel_rfl)) (by kernel_rfl) (Res.box b [Value.slice A n c, Value.int .i64 ix63, Value.int .i64 hx64] 70 :: Res.row (Value.slice (some ⟨blk58, 0, none⟩) 2 2) 3 1 2 ([Value.int .i64 (-1), Value.int .i64 4]) :: Res.box blk19 [Value.int .i64 ad6, Value.int .i64 td7, Value.int .i64 xd62] 25 :: Res.box blk2 [Value.int .i64 ad6, Value.int .i64 td7, Value.int .i64 xd62] 25 :: tl) (by kernel_rfl) hS67 (fun w68 hS68 => hK _ _ ?_))
        clear hK K
        refine l_nil rfl ?_
        refine then_n ?_
        refine wp_ret ?_
        have hS68s3 : St w0 w68 (Res.box b [Value.slice A n c, Value.int .i64 ix63, Value.int .i64 hx64] 70 :: tl) := (hS68.sub (List.Sublist.cons_cons _ (List.Sublist.cons _ (List.Sublist.cons _ (List.Sublist.cons _ (List.Sublist.refl _))))))
        exact c_end (S := (fun x_ => St w0 x_ (Res.box b [Value.slice A n c, Value.int .i64 ix63, Value.int .i64 hx64] 70 :: Res.row (Value.slice (some ⟨blk58, 0, none⟩) 2 2) 3 1 2 ([Value.int .i64 (-1), Value.int .i64 4]) :: Res.box blk19 [Value.int .i64 ad6, Value.int .i64 td7, Value.int .i64 xd62] 25 :: Res.box blk2 [Value.int .i64 ad6, Value.int .i64 td7, Value.int .i64 xd62] 25 :: tl))) (rs := [.cell 2 25]) rfl [Value.agg #[Value.int .i64 ad6, Value.int .i64 td7, Value.int .i64 xd62]] (v := Value.agg #[Value.int .i64 ad6, Value.int .i64 td7, Value.int .i64 xd62]) (C := ((LoadsAt Try.prog (fun x_ => St w0 x_ (Res.box b [Value.slice A n c, Value.int .i64 ix63, Value.int .i64 hx64] 70 :: Res.row (Value.slice (some ⟨blk58, 0, none⟩) 2 2) 3 1 2 ([Value.int .i64 (-1), Value.int .i64 4]) :: Res.box blk19 [Value.int .i64 ad6, Value.int .i64 td7, Value.int .i64 xd62] 25 :: Res.box blk2 [Value.int .i64 ad6, Value.int .i64 td7, Value.int .i64 xd62] 25 :: tl)) 25 ⟨blk2, 0, none⟩ (Value.agg #[Value.int .i64 ad6, Value.int .i64 td7, Value.int .i64 xd62])))) (by kernel_rfl) (ld_boxN (i := 3) (k := 3) rfl rfl rfl (by kernel_rfl)) hS68 (⟨_, _, rfl, hS68s3, ix63, hx64, ad6, td7, xd62, rfl, rfl, hC65, (by omega), (by omega), (by omega), (by omega), (by omega), (by omega)⟩)
      · skip
        have hb56p := of_decide_eq_false hb56
        refine c_false (b := (decide (xd24 = (2 : Int)))) (by kernel_rfl) hb56 ?_
        refine wp_skip ?_
        refine blk_n ?_
        refine then_n ?_
        refine wp_seq ?_
        refine c_reg ?_
        refine q_seg (S := (fun x_ => St w0 x_ (Res.box b [Value.slice A n c, Value.int .i64 ix25, Value.int .i64 hx26] 70 :: Res.box blk19 [Value.int .i64 ad6, Value.int .i64 td7, Value.int .i64 wd8] 25 :: Res.box blk2 [Value.int .i64 0, Value.int .i64 0, Value.int .i64 0] 25 :: tl))) [(26, Value.agg #[Value.int .i64 ad6, Value.int .i64 td7, Value.int .i64 wd8])] [.v (Value.agg #[Value.int .i64 ad6, Value.int .i64 td7, Value.int .i64 wd8])] ((LoadsAt Try.prog (fun x_ => St w0 x_ (Res.box b [Value.slice A n c, Value.int .i64 ix25, Value.int .i64 hx26] 70 :: Res.box blk19 [Value.int .i64 ad6, Value.int .i64 td7, Value.int .i64 wd8] 25 :: Res.box blk2 [Value.int .i64 0, Value.int .i64 0, Value.int .i64 0] 25 :: tl)) 25 ⟨blk19, 0, none⟩ (Value.agg #[Value.int .i64 ad6, Value.int .i64 td7, Value.int .i64 wd8]))) (by kernel_rfl) (ld_boxN (i := 1) (k := 3) rfl rfl rfl (by kernel_rfl)) hS21 ?_
        refine l_op rfl rfl (fun K hK => op_store (d := none) rfl rfl (i := 2) (b := blk2) (off := 0) (cs := [Value.int .i64 0, Value.int .i64 0, Value.int .i64 0]) (bt := 25) (by kernel_rfl) (by kernel_rfl) [Value.int .i64 ad6, Value.int .i64 td7, Value.int .i64 wd8] (by kernel_rfl) (by kernel_rfl) (Nat.le_of_ble_eq_true (by kernel_rfl)) (by kernel_rfl) (Res.box b [Value.slice A n c, Value.int .i64 ix25, Value.int .i64 hx26] 70 :: Res.box blk19 [Value.int .i64 ad6, Value.int .i64 td7, Value.int .i64 wd8] 25 :: Res.box blk2 [Value.int .i64 ad6, Value.int .i64 td7, Value.int .i64 wd8] 25 :: tl) (by kernel_rfl) hS21 (fun w69 hS69 => hK _ _ ?_))
        clear hK K
        refine l_nil rfl ?_
        refine then_n ?_
        refine wp_ret ?_
        have hS69s4 : St w0 w69 (Res.box b [Value.slice A n c, Value.int .i64 ix25, Value.int .i64 hx26] 70 :: tl) := (hS69.sub (List.Sublist.cons_cons _ (List.Sublist.cons _ (List.Sublist.cons _ (List.Sublist.refl _)))))
        exact c_end (S := (fun x_ => St w0 x_ (Res.box b [Value.slice A n c, Value.int .i64 ix25, Value.int .i64 hx26] 70 :: Res.box blk19 [Value.int .i64 ad6, Value.int .i64 td7, Value.int .i64 wd8] 25 :: Res.box blk2 [Value.int .i64 ad6, Value.int .i64 td7, Value.int .i64 wd8] 25 :: tl))) (rs := [.cell 2 25]) rfl [Value.agg #[Value.int .i64 ad6, Value.int .i64 td7, Value.int .i64 wd8]] (v := Value.agg #[Value.int .i64 ad6, Value.int .i64 td7, Value.int .i64 wd8]) (C := ((LoadsAt Try.prog (fun x_ => St w0 x_ (Res.box b [Value.slice A n c, Value.int .i64 ix25, Value.int .i64 hx26] 70 :: Res.box blk19 [Value.int .i64 ad6, Value.int .i64 td7, Value.int .i64 wd8] 25 :: Res.box blk2 [Value.int .i64 ad6, Value.int .i64 td7, Value.int .i64 wd8] 25 :: tl)) 25 ⟨blk2, 0, none⟩ (Value.agg #[Value.int .i64 ad6, Value.int .i64 td7, Value.int .i64 wd8])))) (by kernel_rfl) (ld_boxN (i := 2) (k := 3) rfl rfl rfl (by kernel_rfl)) hS69 (⟨_, _, rfl, hS69s4, ix25, hx26, ad6, td7, wd8, rfl, rfl, hC27, (by omega), (by omega), (by omega), (by omega), (by omega), (by omega)⟩)
theorem DrawTickPaging_s_c (A : Option Addr) (n c : Nat) (zs : List Int) (w : World) (hn : n ≤ 1048576) (hz : okz .u8 zs) (hr : Rd w w.heap.size A n (zs.map (Value.int .u8))) : Calls Try.prog 13 #[.slice A n c] w (Ret w (fun v new => ∃ (a_ : Int) (t_ : Int) (w_ : Int) (l_ : List (Int × List Int)) (l_A : Option Addr) (l_c : Nat) (l_y : List It), v = Value.tuple #[Value.agg #[Value.int .i64 a_, Value.int .i64 t_, Value.int .i64 w_], Value.agg #[Value.slice l_A (List.length l_) l_c]] ∧ new = (Res.row (Value.slice l_A (List.length l_) l_c) 44 2 (List.length l_) (flat true l_y) :: (((l_y.map (It.row .i64 3)) ++ []))) ∧ (l_y.map (con true) = l_) ∧ (okL .i64 l_) ∧ (-1 ≤ a_) ∧ (a_ ≤ 3) ∧ (-1 ≤ t_) ∧ (t_ ≤ 5) ∧ (-1 ≤ w_) ∧ (w_ ≤ 4) ∧ (List.length l_ ≤ 5) ∧ (wt l_ ≤ 300))) := by
  have hzl := hr.len
  refine calls_FA Try.func13 rfl (n := 13) rfl (l := [(0, Value.slice A n c)]) rfl (by simp) (fun g => ?_)
  have hS := St.init w
  refine wp_seq ?_
  refine c_reg ?_
  refine l_op rfl rfl (fun K hK => op_alloc (d := some 2) rfl rfl [Value.int .i64 0, Value.int .i64 0, Value.int .i64 0] (by kernel_rfl) hS (fun blk2 w1 hS1 => hK _ _ ?_))
  clear hK K
  refine l_op rfl rfl (fun K hK => op_alloc (d := some 3) rfl rfl [Value.slice none 0 0] (by kernel_rfl) hS1 (fun blk4 w3 hS3 => hK _ _ ?_))
  clear hK K
  refine l_nil rfl ?_
  refine then_n ?_
  refine wp_seq ?_
  refine c_reg ?_
  refine q_seg (S := (fun x_ => St w x_ [Res.box blk4 [Value.slice none 0 0] 32, Res.box blk2 [Value.int .i64 0, Value.int .i64 0, Value.int .i64 0] 25])) [(6, Value.slice A n c)] [.no] True (by kernel_rfl) trivial hS3 ?_
  refine l_op rfl rfl (fun K hK => op_call (d := some 7) rfl rfl ⟨_, Try.func34, by kernel_rfl, by kernel_rfl⟩ (vs := [Value.slice A n c]) (by kernel_rfl) (l1New_c A n c zs w3 (by omega) hz (hS3.rdlow hr)) hS3 (fun v6 new7 w5 Rw5 hS5 => hK _ _ ?_))
  clear hK K
  obtain ⟨blk8, hx9, rfl, rfl⟩ := Rw5
  have hC10 : CurI w A n 0 := CurI.zero (by omega) hz hr
  refine q_seg (S := (fun x_ => St w x_ [Res.box blk8 [Value.slice A n c, Value.int .i64 0, Value.int .i64 hx9] 70, Res.box blk4 [Value.slice none 0 0] 32, Res.box blk2 [Value.int .i64 0, Value.int .i64 0, Value.int .i64 0] 25])) [(4, Value.pointer (some ⟨blk8, 0, none⟩))] [.no] True (by kernel_rfl) trivial hS5 ?_
  refine l_nil rfl ?_
  refine then_n ?_
  refine wp_seq ?_
  refine c_reg ?_
  refine q_seg (S := (fun x_ => St w x_ [Res.box blk8 [Value.slice A n c, Value.int .i64 0, Value.int .i64 hx9] 70, Res.box blk4 [Value.slice none 0 0] 32, Res.box blk2 [Value.int .i64 0, Value.int .i64 0, Value.int .i64 0] 25])) [(8, Value.pointer (some ⟨blk8, 0, none⟩))] [.no] True (by kernel_rfl) trivial hS5 ?_
  refine l_op rfl rfl (fun K hK => op_callm (d := some 9) rfl rfl ⟨_, Try.func35, by kernel_rfl, by kernel_rfl⟩ (vs := [Value.pointer (some ⟨blk8, 0, none⟩)]) (by kernel_rfl) (l26Any_s_c blk8 A n c 0 hx9  _ w w5 hS5 hC10 ) (fun v12 new13 w11 Rw11 hS11 => ?_))
  obtain ⟨ix17, hx18, ad14, td15, wd16, rfl, rfl, hC19, hf20, hf21, hf22, hf23, hf24, hf25⟩ := Rw11
  refine hK _ _ ?_
  clear hK K
  refine l_op rfl rfl (fun K hK => op_alloc (d := some 5) rfl rfl [Value.int .i64 0, Value.int .i64 0, Value.int .i64 0] (by kernel_rfl) hS11 (fun blk27 w26 hS26 => hK _ _ ?_))
  clear hK K
  refine l_op rfl rfl (fun K hK => op_store (d := none) rfl rfl (i := 0) (b := blk27) (off := 0) (cs := [Value.int .i64 0, Value.int .i64 0, Value.int .i64 0]) (bt := 25) (by kernel_rfl) (by kernel_rfl) [Value.int .i64 ad14, Value.int .i64 td15, Value.int .i64 wd16] (by kernel_rfl) (by kernel_rfl) (Nat.le_of_ble_eq_true (by kernel_rfl)) (by kernel_rfl) [Res.box blk27 [Value.int .i64 ad14, Value.int .i64 td15, Value.int .i64 wd16] 25, Res.box blk8 [Value.slice A n c, Value.int .i64 ix17, Value.int .i64 hx18] 70, Res.box blk4 [Value.slice none 0 0] 32, Res.box blk2 [Value.int .i64 0, Value.int .i64 0, Value.int .i64 0] 25] (by kernel_rfl) hS26 (fun w28 hS28 => hK _ _ ?_))
  clear hK K
  refine l_nil rfl ?_
  refine then_n ?_
  refine wp_seq ?_
  refine c_drawnS (S := (fun x_ => St w x_ [Res.box blk27 [Value.int .i64 ad14, Value.int .i64 td15, Value.int .i64 wd16] 25, Res.box blk4 [Value.slice none 0 0] 32, Res.box blk2 [Value.int .i64 0, Value.int .i64 0, Value.int .i64 0] 25])) [3, 4] (by kernel_rfl) hS28 (fun w29 hS29 => ?_)
  refine t_seg (S := (fun x_ => St w x_ [Res.box blk27 [Value.int .i64 ad14, Value.int .i64 td15, Value.int .i64 wd16] 25, Res.box blk4 [Value.slice none 0 0] 32, Res.box blk2 [Value.int .i64 0, Value.int .i64 0, Value.int .i64 0] 25])) [(0, .v (Value.agg #[Value.int .i64 ad14, Value.int .i64 td15, Value.int .i64 wd16])), (1, .no)] 3 #[true, true, false, false, false] [(11, Value.pointer (some ⟨blk8, 0, none⟩)), (10, Value.agg #[Value.int .i64 ad14, Value.int .i64 td15, Value.int .i64 wd16])] ((LoadsAt Try.prog (fun x_ => St w x_ [Res.box blk27 [Value.int .i64 ad14, Value.int .i64 td15, Value.int .i64 wd16] 25, Res.box blk4 [Value.slice none 0 0] 32, Res.box blk2 [Value.int .i64 0, Value.int .i64 0, Value.int .i64 0] 25]) 25 ⟨blk27, 0, none⟩ (Value.agg #[Value.int .i64 ad14, Value.int .i64 td15, Value.int .i64 wd16]))) (by kernel_rfl) (Qpanic.then Qpanic.bp) rfl (by kernel_rfl) (ld_boxN (i := 0) (k := 3) rfl rfl rfl (by kernel_rfl)) (hS29.sub (List.Sublist.cons_cons _ (List.Sublist.cons _ (List.Sublist.cons_cons _ (List.Sublist.cons_cons _ List.Sublist.slnil))))) ?_
  refine a_op (i := 2) (fuel := 2) (listed' := #[true, true, true, false, false]) rfl rfl (by kernel_rfl) (by kernel_rfl) rfl (fun K hK => op_callm (d := some 12) rfl rfl ⟨_, Try.func36, by kernel_rfl, by kernel_rfl⟩ (vs := [Value.pointer (some ⟨blk8, 0, none⟩)]) (by kernel_rfl) (l10Any_s_c blk8 A n c ix17 hx18  _ w w29 (hS29.front 1 rfl) hC19 ) (fun v31 new32 w30 Rw30 hS30 => ?_))
  obtain ⟨ix34, hx35, ld33, ld33A, ld33c, ld33y, rfl, rfl, hC36, ld33q, ld33o, hf37, hf38⟩ := Rw30
  have hS30r : St w w30 (Res.row (Value.slice ld33A (List.length ld33) ld33c) 44 2 (List.length ld33) (flat true ld33y) :: Res.box blk8 [Value.slice A n c, Value.int .i64 ix34, Value.int .i64 hx35] 70 :: Res.box blk27 [Value.int .i64 ad14, Value.int .i64 td15, Value.int .i64 wd16] 25 :: Res.box blk4 [Value.slice none 0 0] 32 :: Res.box blk2 [Value.int .i64 0, Value.int .i64 0, Value.int .i64 0] 25 :: ((ld33y.map (It.row .i64 3)) ++ [])) := St.outB [Res.row (Value.slice ld33A (List.length ld33) ld33c) 44 2 (List.length ld33) (flat true ld33y), Res.box blk8 [Value.slice A n c, Value.int .i64 ix34, Value.int .i64 hx35] 70] [Res.box blk27 [Value.int .i64 ad14, Value.int .i64 td15, Value.int .i64 wd16] 25, Res.box blk4 [Value.slice none 0 0] 32, Res.box blk2 [Value.int .i64 0, Value.int .i64 0, Value.int .i64 0] 25] [(ld33y.map (It.row .i64 3))] [] hS30
  refine hK _ _ (fun _ => (hS30r.sub (List.Sublist.cons _ (List.Sublist.cons _ (List.Sublist.cons_cons _ (List.Sublist.cons_cons _ (List.Sublist.cons_cons _ (List.Sublist.trans List.Sublist.slnil (List.sublist_append_right _ _))))))))) ?_
  clear hK K
  refine a_op (i := 3) (fuel := 1) (listed' := #[true, true, true, true, false]) rfl rfl (by kernel_rfl) (by kernel_rfl) rfl (fun K hK => op_store (d := none) rfl rfl (i := 4) (b := blk2) (off := 0) (cs := [Value.int .i64 0, Value.int .i64 0, Value.int .i64 0]) (bt := 25) (by kernel_rfl) (by kernel_rfl) [Value.int .i64 ad14, Value.int .i64 td15, Value.int .i64 wd16] (by kernel_rfl) (by kernel_rfl) (Nat.le_of_ble_eq_true (by kernel_rfl)) (by kernel_rfl) (Res.row (Value.slice ld33A (List.length ld33) ld33c) 44 2 (List.length ld33) (flat true ld33y) :: Res.box blk8 [Value.slice A n c, Value.int .i64 ix34, Value.int .i64 hx35] 70 :: Res.box blk27 [Value.int .i64 ad14, Value.int .i64 td15, Value.int .i64 wd16] 25 :: Res.box blk4 [Value.slice none 0 0] 32 :: Res.box blk2 [Value.int .i64 ad14, Value.int .i64 td15, Value.int .i64 wd16] 25 :: ((ld33y.map (It.row .i64 3)) ++ [])) (by kernel_rfl) hS30r (fun w39 hS39 => hK _ _ (fun h => absurd h (by decide)) ?_))
  clear hK K
  refine a_op (i := 4) (fuel := 0) (listed' := #[true, true, true, true, true]) rfl rfl (by kernel_rfl) (by kernel_rfl) rfl (fun K hK => op_store (d := none) rfl rfl (i := 3) (b := blk4) (off := 0) (cs := [Value.slice none 0 0]) (bt := 32) (by kernel_rfl) (by kernel_rfl) [Value.slice ld33A (List.length ld33) ld33c] (by kernel_rfl) (by kernel_rfl) (Nat.le_of_ble_eq_true (by kernel_rfl)) (by kernel_rfl) (Res.row (Value.slice ld33A (List.length ld33) ld33c) 44 2 (List.length ld33) (flat true ld33y) :: Res.box blk8 [Value.slice A n c, Value.int .i64 ix34, Value.int .i64 hx35] 70 :: Res.box blk27 [Value.int .i64 ad14, Value.int .i64 td15, Value.int .i64 wd16] 25 :: Res.box blk4 [Value.slice ld33A (List.length ld33) ld33c] 32 :: Res.box blk2 [Value.int .i64 ad14, Value.int .i64 td15, Value.int .i64 wd16] 25 :: ((ld33y.map (It.row .i64 3)) ++ [])) (by kernel_rfl) hS39 (fun w40 hS40 => hK _ _ (fun h => absurd h (by decide)) ?_))
  clear hK K
  refine a_done (by kernel_rfl) ?_
  refine then_n ?_
  refine wp_ret ?_
  have hS40s1 : St w w40 (Res.row (Value.slice ld33A (List.length ld33) ld33c) 44 2 (List.length ld33) (flat true ld33y) :: ((ld33y.map (It.row .i64 3)) ++ [])) := (hS40.sub (List.Sublist.cons_cons _ (List.Sublist.cons _ (List.Sublist.cons _ (List.Sublist.cons _ (List.Sublist.cons _ (List.Sublist.append (List.Sublist.refl _) List.Sublist.slnil)))))))
  exact c_end (S := (fun x_ => St w x_ (Res.row (Value.slice ld33A (List.length ld33) ld33c) 44 2 (List.length ld33) (flat true ld33y) :: Res.box blk8 [Value.slice A n c, Value.int .i64 ix34, Value.int .i64 hx35] 70 :: Res.box blk27 [Value.int .i64 ad14, Value.int .i64 td15, Value.int .i64 wd16] 25 :: Res.box blk4 [Value.slice ld33A (List.length ld33) ld33c] 32 :: Res.box blk2 [Value.int .i64 ad14, Value.int .i64 td15, Value.int .i64 wd16] 25 :: ((ld33y.map (It.row .i64 3)) ++ [])))) (rs := [.cell 2 25, .cell 3 32]) rfl [Value.agg #[Value.int .i64 ad14, Value.int .i64 td15, Value.int .i64 wd16], Value.agg #[Value.slice ld33A (List.length ld33) ld33c]] (v := Value.tuple #[Value.agg #[Value.int .i64 ad14, Value.int .i64 td15, Value.int .i64 wd16], Value.agg #[Value.slice ld33A (List.length ld33) ld33c]]) (C := ((LoadsAt Try.prog (fun x_ => St w x_ (Res.row (Value.slice ld33A (List.length ld33) ld33c) 44 2 (List.length ld33) (flat true ld33y) :: Res.box blk8 [Value.slice A n c, Value.int .i64 ix34, Value.int .i64 hx35] 70 :: Res.box blk27 [Value.int .i64 ad14, Value.int .i64 td15, Value.int .i64 wd16] 25 :: Res.box blk4 [Value.slice ld33A (List.length ld33) ld33c] 32 :: Res.box blk2 [Value.int .i64 ad14, Value.int .i64 td15, Value.int .i64 wd16] 25 :: ((ld33y.map (It.row .i64 3)) ++ []))) 25 ⟨blk2, 0, none⟩ (Value.agg #[Value.int .i64 ad14, Value.int .i64 td15, Value.int .i64 wd16])) ∧ (LoadsAt Try.prog (fun x_ => St w x_ (Res.row (Value.slice ld33A (List.length ld33) ld33c) 44 2 (List.length ld33) (flat true ld33y) :: Res.box blk8 [Value.slice A n c, Value.int .i64 ix34, Value.int .i64 hx35] 70 :: Res.box blk27 [Value.int .i64 ad14, Value.int .i64 td15, Value.int .i64 wd16] 25 :: Res.box blk4 [Value.slice ld33A (List.length ld33) ld33c] 32 :: Res.box blk2 [Value.int .i64 ad14, Value.int .i64 td15, Value.int .i64 wd16] 25 :: ((ld33y.map (It.row .i64 3)) ++ []))) 32 ⟨blk4, 0, none⟩ (Value.agg #[Value.slice ld33A (List.length ld33) ld33c])))) (by kernel_rfl) ⟨(ld_boxN (i := 4) (k := 3) rfl rfl rfl (by kernel_rfl)), (ld_boxN (i := 3) (k := 1) rfl rfl rfl (by kernel_rfl))⟩ hS40 (hS40s1.rt ⟨ad14, td15, wd16, ld33, ld33A, ld33c, ld33y, rfl, rfl, ld33q, ld33o, (by omega), (by omega), (by omega), (by omega), (by omega), (by omega), (by omega), (by omega)⟩)
theorem DrawTicksUntilPaged_s_c (A : Option Addr) (n c : Nat) (zs : List Int) (w : World) (hn : n ≤ 1048576) (hz : okz .u8 zs) (hr : Rd w w.heap.size A n (zs.map (Value.int .u8))) : Calls Try.prog 17 #[.slice A n c] w (Ret w (fun v new => ∃ (l_ : List (Int × List Int)) (l_A : Option Addr) (l_c : Nat) (l_y : List It) (a_ : Int) (c_ : Int), v = Value.tuple #[Value.agg #[Value.slice l_A (List.length l_) l_c], Value.int .i64 a_, Value.int .i64 c_] ∧ new = (Res.row (Value.slice l_A (List.length l_) l_c) 44 2 (List.length l_) (flat true l_y) :: (((l_y.map (It.row .i64 3)) ++ []))) ∧ (l_y.map (con true) = l_) ∧ (okL .i64 l_) ∧ (List.length l_ ≤ 5) ∧ (wt l_ ≤ 300) ∧ (-1 ≤ a_) ∧ (a_ ≤ 3) ∧ (-1 ≤ c_) ∧ (c_ ≤ 6))) := by
  have hzl := hr.len
  refine calls_FA Try.func17 rfl (n := 20) rfl (l := [(0, Value.slice A n c)]) rfl (by simp) (fun g => ?_)
  have hS := St.init w
  refine wp_seq ?_
  refine c_reg ?_
  refine l_op rfl rfl (fun K hK => op_alloc (d := some 2) rfl rfl [Value.slice none 0 0] (by kernel_rfl) hS (fun blk2 w1 hS1 => hK _ _ ?_))
  clear hK K
  refine q_seg (S := (fun x_ => St w x_ [Res.box blk2 [Value.slice none 0 0] 32])) [(4, Value.int .i64 0), (3, Value.int .i64 0)] [.no, .no] True (by kernel_rfl) trivial hS1 ?_
  refine l_nil rfl ?_
  refine then_n ?_
  refine wp_seq ?_
  refine c_reg ?_
  refine q_seg (S := (fun x_ => St w x_ [Res.box blk2 [Value.slice none 0 0] 32])) [(8, Value.slice A n c)] [.no] True (by kernel_rfl) trivial hS1 ?_
  refine l_op rfl rfl (fun K hK => op_call (d := some 9) rfl rfl ⟨_, Try.func34, by kernel_rfl, by kernel_rfl⟩ (vs := [Value.slice A n c]) (by kernel_rfl) (l1New_c A n c zs w1 (by omega) hz (hS1.rdlow hr)) hS1 (fun v4 new5 w3 Rw3 hS3 => hK _ _ ?_))
  clear hK K
  obtain ⟨blk6, hx7, rfl, rfl⟩ := Rw3
  have hC8 : CurI w A n 0 := CurI.zero (by omega) hz hr
  refine q_seg (S := (fun x_ => St w x_ [Res.box blk6 [Value.slice A n c, Value.int .i64 0, Value.int .i64 hx7] 70, Res.box blk2 [Value.slice none 0 0] 32])) [(5, Value.pointer (some ⟨blk6, 0, none⟩))] [.no] True (by kernel_rfl) trivial hS3 ?_
  refine l_nil rfl ?_
  refine then_n ?_
  refine wp_seq ?_
  refine c_reg ?_
  refine q_seg (S := (fun x_ => St w x_ [Res.box blk6 [Value.slice A n c, Value.int .i64 0, Value.int .i64 hx7] 70, Res.box blk2 [Value.slice none 0 0] 32])) [(10, Value.pointer (some ⟨blk6, 0, none⟩))] [.no] True (by kernel_rfl) trivial hS3 ?_
  refine l_op rfl rfl (fun K hK => op_callm (d := some 11) rfl rfl ⟨_, Try.func36, by kernel_rfl, by kernel_rfl⟩ (vs := [Value.pointer (some ⟨blk6, 0, none⟩)]) (by kernel_rfl) (l10Any_s_c blk6 A n c 0 hx7  _ w w3 hS3 hC8 ) (fun v10 new11 w9 Rw9 hS9 => ?_))
  obtain ⟨ix13, hx14, ld12, ld12A, ld12c, ld12y, rfl, rfl, hC15, ld12q, ld12o, hf16, hf17⟩ := Rw9
  have hS9r : St w w9 (Res.row (Value.slice ld12A (List.length ld12) ld12c) 44 2 (List.length ld12) (flat true ld12y) :: Res.box blk6 [Value.slice A n c, Value.int .i64 ix13, Value.int .i64 hx14] 70 :: Res.box blk2 [Value.slice none 0 0] 32 :: ((ld12y.map (It.row .i64 3)) ++ [])) := St.outB [Res.row (Value.slice ld12A (List.length ld12) ld12c) 44 2 (List.length ld12) (flat true ld12y), Res.box blk6 [Value.slice A n c, Value.int .i64 ix13, Value.int .i64 hx14] 70] [Res.box blk2 [Value.slice none 0 0] 32] [(ld12y.map (It.row .i64 3))] [] hS9
  refine hK _ _ ?_
  clear hK K
  refine l_op rfl rfl (fun K hK => op_alloc (d := some 6) rfl rfl [Value.slice none 0 0] (by kernel_rfl) hS9r (fun blk19 w18 hS18 => hK _ _ ?_))
  clear hK K
  refine l_op rfl rfl (fun K hK => op_store (d := none) rfl rfl (i := 0) (b := blk19) (off := 0) (cs := [Value.slice none 0 0]) (bt := 32) (by kernel_rfl) (by kernel_rfl) [Value.slice ld12A (List.length ld12) ld12c] (by kernel_rfl) (by kernel_rfl) (Nat.le_of_ble_eq_true (by kernel_rfl)) (by kernel_rfl) (Res.box blk19 [Value.slice ld12A (List.length ld12) ld12c] 32 :: Res.row (Value.slice ld12A (List.length ld12) ld12c) 44 2 (List.length ld12) (flat true ld12y) :: Res.box blk6 [Value.slice A n c, Value.int .i64 ix13, Value.int .i64 hx14] 70 :: Res.box blk2 [Value.slice none 0 0] 32 :: ((ld12y.map (It.row .i64 3)) ++ [])) (by kernel_rfl) hS18 (fun w20 hS20 => hK _ _ ?_))
  clear hK K
  refine l_nil rfl ?_
  refine then_n ?_
  refine wp_seq ?_
  refine c_reg ?_
  refine q_seg (S := (fun x_ => St w x_ (Res.box blk19 [Value.slice ld12A (List.length ld12) ld12c] 32 :: Res.row (Value.slice ld12A (List.length ld12) ld12c) 44 2 (List.length ld12) (flat true ld12y) :: Res.box blk6 [Value.slice A n c, Value.int .i64 ix13, Value.int .i64 hx14] 70 :: Res.box blk2 [Value.slice none 0 0] 32 :: ((ld12y.map (It.row .i64 3)) ++ [])))) [(12, Value.pointer (some ⟨blk6, 0, none⟩))] [.no] True (by kernel_rfl) trivial hS20 ?_
  refine l_op rfl rfl (fun K hK => op_callm (d := some 13) rfl rfl ⟨_, Try.func38, by kernel_rfl, by kernel_rfl⟩ (vs := [Value.pointer (some ⟨blk6, 0, none⟩), Value.int .i64 5]) (by kernel_rfl) (l1Below_s_c blk6 A n c ix13 hx14 (5 : Int) _ w w20 (hS20.front 2 rfl) hC15 (by omega)) (fun v22 new23 w21 Rw21 hS21 => ?_))
  obtain ⟨ix25, hx26, xd24, rfl, rfl, hC27, hf28, hf29⟩ := Rw21
  refine hK _ _ ?_
  clear hK K
  refine q_seg (S := (fun x_ => St w x_ (Res.box blk6 [Value.slice A n c, Value.int .i64 ix25, Value.int .i64 hx26] 70 :: Res.box blk19 [Value.slice ld12A (List.length ld12) ld12c] 32 :: Res.row (Value.slice ld12A (List.length ld12) ld12c) 44 2 (List.length ld12) (flat true ld12y) :: Res.box blk2 [Value.slice none 0 0] 32 :: ((ld12y.map (It.row .i64 3)) ++ [])))) [(7, Value.int .i64 (xd24 - (1 : Int))), (14, Value.int .i64 (xd24 - (1 : Int)))] [.no, .no] ((InK .i64 (xd24 - (1 : Int)))) (by kernel_rfl) (in64 (by omega) (by omega)) hS21 ?_
  refine l_nil rfl ?_
  refine then_n ?_
  refine wp_seq ?_
  refine c_drawnS (S := (fun x_ => St w x_ (Res.box blk19 [Value.slice ld12A (List.length ld12) ld12c] 32 :: Res.row (Value.slice ld12A (List.length ld12) ld12c) 44 2 (List.length ld12) (flat true ld12y) :: ((ld12y.map (It.row .i64 3)) ++ [])))) [] (by kernel_rfl) hS21 (fun w30 hS30 => ?_)
  refine t_seg (S := (fun x_ => St w x_ (Res.box blk19 [Value.slice ld12A (List.length ld12) ld12c] 32 :: Res.row (Value.slice ld12A (List.length ld12) ld12c) 44 2 (List.length ld12) (flat true ld12y) :: ((ld12y.map (It.row .i64 3)) ++ [])))) [(0, .v (Value.agg #[Value.slice ld12A (List.length ld12) ld12c])), (1, .no), (2, .no)] 5 #[true, true, true, false, false, false, false, false] [(17, Value.pointer (some ⟨blk6, 0, none⟩)), (16, Value.int .i64 (xd24 - (1 : Int))), (15, Value.agg #[Value.slice ld12A (List.length ld12) ld12c])] ((LoadsAt Try.prog (fun x_ => St w x_ (Res.box blk19 [Value.slice ld12A (List.length ld12) ld12c] 32 :: Res.row (Value.slice ld12A (List.length ld12) ld12c) 44 2 (List.length ld12) (flat true ld12y) :: ((ld12y.map (It.row .i64 3)) ++ []))) 32 ⟨blk19, 0, none⟩ (Value.agg #[Value.slice ld12A (List.length ld12) ld12c]))) (by kernel_rfl) (Qpanic.then Qpanic.bp) rfl (by kernel_rfl) (ld_boxN (i := 0) (k := 1) rfl rfl rfl (by kernel_rfl)) (hS30.sub (List.Sublist.cons _ (List.Sublist.cons_cons _ (List.Sublist.cons_cons _ (List.Sublist.cons _ (List.Sublist.append (List.Sublist.refl _) List.Sublist.slnil)))))) ?_
  refine a_op (i := 3) (fuel := 4) (listed' := #[true, true, true, true, false, false, false, false]) rfl rfl (by kernel_rfl) (by kernel_rfl) rfl (fun K hK => op_callm (d := some 18) rfl rfl ⟨_, Try.func38, by kernel_rfl, by kernel_rfl⟩ (vs := [Value.pointer (some ⟨blk6, 0, none⟩), Value.int .i64 8]) (by kernel_rfl) (l1Below_s_c blk6 A n c ix25 hx26 (8 : Int) _ w w30 hS30 hC27 (by omega)) (fun v32 new33 w31 Rw31 hS31 => ?_))
  obtain ⟨ix35, hx36, xd34, rfl, rfl, hC37, hf38, hf39⟩ := Rw31
  refine hK _ _ (fun _ => (hS31.sub (List.Sublist.cons _ (List.Sublist.cons_cons _ (List.Sublist.cons_cons _ (List.Sublist.cons _ (List.Sublist.append (List.Sublist.refl _) List.Sublist.slnil))))))) ?_
  clear hK K
  refine t_seg (S := (fun x_ => St w x_ (Res.box blk19 [Value.slice ld12A (List.length ld12) ld12c] 32 :: Res.row (Value.slice ld12A (List.length ld12) ld12c) 44 2 (List.length ld12) (flat true ld12y) :: ((ld12y.map (It.row .i64 3)) ++ [])))) [(4, .no)] 3 #[true, true, true, true, true, false, false, false] [(19, Value.int .i64 (xd34 - (1 : Int)))] ((InK .i64 (xd34 - (1 : Int)))) (by kernel_rfl) (Qpanic.then Qpanic.bp) rfl (by kernel_rfl) (in64 (by omega) (by omega)) (hS31.sub (List.Sublist.cons _ (List.Sublist.cons_cons _ (List.Sublist.cons_cons _ (List.Sublist.cons _ (List.Sublist.append (List.Sublist.refl _) List.Sublist.slnil)))))) ?_
  refine a_op (i := 5) (fuel := 2) (listed' := #[true, true, true, true, true, true, false, false]) rfl rfl (by kernel_rfl) (by kernel_rfl) rfl (fun K hK => op_store (d := none) rfl rfl (i := 3) (b := blk2) (off := 0) (cs := [Value.slice none 0 0]) (bt := 32) (by kernel_rfl) (by kernel_rfl) [Value.slice ld12A (List.length ld12) ld12c] (by kernel_rfl) (by kernel_rfl) (Nat.le_of_ble_eq_true (by kernel_rfl)) (by kernel_rfl) (Res.box blk6 [Value.slice A n c, Value.int .i64 ix35, Value.int .i64 hx36] 70 :: Res.box blk19 [Value.slice ld12A (List.length ld12) ld12c] 32 :: Res.row (Value.slice ld12A (List.length ld12) ld12c) 44 2 (List.length ld12) (flat true ld12y) :: Res.box blk2 [Value.slice ld12A (List.length ld12) ld12c] 32 :: ((ld12y.map (It.row .i64 3)) ++ [])) (by kernel_rfl) hS31 (fun w40 hS40 => hK _ _ (fun _ => (hS40.sub (List.Sublist.cons _ (List.Sublist.cons_cons _ (List.Sublist.cons_cons _ (List.Sublist.cons _ (List.Sublist.append (List.Sublist.refl _) List.Sublist.slnil))))))) ?_))
  clear hK K
  refine t_seg (S := (fun x_ => St w x_ (Res.box blk19 [Value.slice ld12A (List.length ld12) ld12c] 32 :: Res.row (Value.slice ld12A (List.length ld12) ld12c) 44 2 (List.length ld12) (flat true ld12y) :: ((ld12y.map (It.row .i64 3)) ++ [])))) [(6, .no), (7, .no)] 0 #[true, true, true, true, true, true, true, true] [(4, Value.int .i64 (xd34 - (1 : Int))), (3, Value.int .i64 (xd24 - (1 : Int)))] True (by kernel_rfl) (Qpanic.then Qpanic.bp) rfl (by kernel_rfl) trivial (hS40.sub (List.Sublist.cons _ (List.Sublist.cons_cons _ (List.Sublist.cons_cons _ (List.Sublist.cons _ (List.Sublist.append (List.Sublist.refl _) List.Sublist.slnil)))))) ?_
  refine a_done (by kernel_rfl) ?_
  refine then_n ?_
  refine wp_ret ?_
  have hS40s1 : St w w40 (Res.row (Value.slice ld12A (List.length ld12) ld12c) 44 2 (List.length ld12) (flat true ld12y) :: ((ld12y.map (It.row .i64 3)) ++ [])) := (hS40.sub (List.Sublist.cons _ (List.Sublist.cons _ (List.Sublist.cons_cons _ (List.Sublist.cons _ (List.Sublist.append (List.Sublist.refl _) List.Sublist.slnil))))))
  exact c_end (S := (fun x_ => St w x_ (Res.box blk6 [Value.slice A n c, Value.int .i64 ix35, Value.int .i64 hx36] 70 :: Res.box blk19 [Value.slice ld12A (List.length ld12) ld12c] 32 :: Res.row (Value.slice ld12A (List.length ld12) ld12c) 44 2 (List.length ld12) (flat true ld12y) :: Res.box blk2 [Value.slice ld12A (List.length ld12) ld12c] 32 :: ((ld12y.map (It.row .i64 3)) ++ [])))) (rs := [.cell 2 32, .tmp 3, .tmp 4]) rfl [Value.agg #[Value.slice ld12A (List.length ld12) ld12c]] (v := Value.tuple #[Value.agg #[Value.slice ld12A (List.length ld12) ld12c], Value.int .i64 (xd24 - (1 : Int)), Value.int .i64 (xd34 - (1 : Int))]) (C := ((LoadsAt Try.prog (fun x_ => St w x_ (Res.box blk6 [Value.slice A n c, Value.int .i64 ix35, Value.int .i64 hx36] 70 :: Res.box blk19 [Value.slice ld12A (List.length ld12) ld12c] 32 :: Res.row (Value.slice ld12A (List.length ld12) ld12c) 44 2 (List.length ld12) (flat true ld12y) :: Res.box blk2 [Value.slice ld12A (List.length ld12) ld12c] 32 :: ((ld12y.map (It.row .i64 3)) ++ []))) 32 ⟨blk2, 0, none⟩ (Value.agg #[Value.slice ld12A (List.length ld12) ld12c])))) (by kernel_rfl) (ld_boxN (i := 3) (k := 1) rfl rfl rfl (by kernel_rfl)) hS40 (hS40s1.rt ⟨ld12, ld12A, ld12c, ld12y, (xd24 - (1 : Int)), (xd34 - (1 : Int)), rfl, rfl, ld12q, ld12o, (by omega), (by omega), (by omega), (by omega), (by omega), (by omega)⟩)
theorem sameInts_c (A B : Option Addr) (n c m d : Nat) (xs ys : List Int) (w : World) (hn : n ≤ 9223372036854775807) (hm : m ≤ 9223372036854775807) (hr : Rd w w.heap.size A n (xs.map (Value.int .i64))) (hr2 : Rd w w.heap.size B m (ys.map (Value.int .i64))) : Calls Try.prog 15 #[.slice A n c, .slice B m d] w (RetV w (.bool (decide (xs = ys)))) := by
  refine calls_FA Try.func15 rfl (n := 26) rfl (l := [(0, Value.slice A n c), (1, Value.slice B m d)]) rfl (by simp) (fun g => ?_)
  have hS := St.init w
  refine wp_seq ?_
  refine c_reg ?_
  refine q_seg (S := (fun x_ => St w x_ [])) [(4, Value.bool false)] [.no] True (by kernel_rfl) trivial hS ?_
  refine l_nil rfl ?_
  refine then_n ?_
  refine wp_seq ?_
  refine wp_seq ?_
  refine c_reg ?_
  refine q_seg (S := (fun x_ => St w x_ [])) [(10, Value.bool (!(decide (((n : Nat) : Int) = ((m : Nat) : Int))))), (9, Value.int .i64 ((m : Nat) : Int)), (8, Value.slice B m d), (7, Value.int .i64 ((n : Nat) : Int)), (6, Value.slice A n c)] [.no, .no, .no, .no, .no] True (by kernel_rfl) trivial hS ?_
  refine l_nil rfl ?_
  refine then_n ?_
  rcases Bool.eq_false_or_eq_true (decide (((n : Nat) : Int) = ((m : Nat) : Int))) with hb1 | hb1
  · skip
    have hb1p := of_decide_eq_true hb1
    refine c_false (b := (!(decide (((n : Nat) : Int) = ((m : Nat) : Int))))) (by kernel_rfl) (nb (v := true) hb1) ?_
    refine wp_skip ?_
    refine then_n ?_
    refine wp_seq ?_
    refine wp_seq ?_
    refine c_reg ?_
    refine q_seg (S := (fun x_ => St w x_ [])) [(5, Value.int .i64 0)] [.no] True (by kernel_rfl) trivial hS ?_
    refine l_nil rfl ?_
    refine then_n ?_
    refine wp_block ?_
    refine c_loop (X := Nat) (fun (k : Nat) => [(0, Value.slice A n c), (1, Value.slice B m d), (5, Value.int .i64 ((k : Nat) : Int))]) (fun (k : Nat) (wr : World) => (k ≤ n) ∧ (xs.take k = ys.take k) ∧ St w wr []) (fun (k : Nat) => n - k) 0 ?_ ?_ ?_
    · exact (agree_cons (by kernel_rfl) (agree_cons (by kernel_rfl) (agree_cons (by kernel_rfl) agree_nil)))
    · exact ⟨Nat.zero_le _, rfl, hS⟩
    rintro k g3 w2 ⟨hkn, htk, hS2⟩
    refine wp_seq ?_
    refine wp_seq ?_
    refine c_reg ?_
    refine q_seg (S := (fun x_ => St w x_ [])) [(14, Value.bool (decide (((k : Nat) : Int) < ((n : Nat) : Int)))), (13, Value.int .i64 ((n : Nat) : Int)), (12, Value.slice A n c), (11, Value.int .i64 ((k : Nat) : Int))] [.no, .no, .no, .no] True (by kernel_rfl) trivial hS2 ?_
    refine l_nil rfl ?_
    refine then_n ?_
    rcases Bool.eq_false_or_eq_true (decide (((k : Nat) : Int) < ((n : Nat) : Int))) with hb4 | hb4
    · skip
      have hb4p := of_decide_eq_true hb4
      obtain ⟨b, off, rfl, hbB, hcl⟩ := hr.2 (by omega)
      obtain ⟨b2, off2, rfl, hbB2, hcl2⟩ := hr2.2 (by omega)
      obtain ⟨z, hzk, hzm⟩ := get_of_lt (l := xs) (k := k) (by have := hr.len; omega)
      obtain ⟨y, hyk, hym⟩ := get_of_lt (l := ys) (k := k) (by have := hr2.len; omega)
      refine c_true (b := (decide (((k : Nat) : Int) < ((n : Nat) : Int)))) (by kernel_rfl) hb4 ?_
      refine wp_skip ?_
      refine then_n ?_
      refine wp_seq ?_
      refine wp_block ?_
      refine wp_seq ?_
      refine c_drawn [] (by kernel_rfl) hS2 (fun w5 hS5 => ?_)
      refine t_seg (S := (fun x_ => St w x_ [])) [(0, .no), (1, .no), (4, .no), (5, .no), (2, .no), (6, .no), (3, .v (Value.int .i64 z)), (7, .v (Value.int .i64 y)), (8, .no)] 0 #[true, true, true, true, true, true, true, true, true] [(25, Value.bool (!(decide (z = y)))), (24, Value.int .i64 y), (20, Value.int .i64 z), (23, Value.pointer (some ⟨b2, off2 + Int.toNat ((k : Nat) : Int) * 1, none⟩)), (19, Value.pointer (some ⟨b, off + Int.toNat ((k : Nat) : Int) * 1, none⟩)), (22, Value.int .i64 ((k : Nat) : Int)), (21, Value.slice (some ⟨b2, off2, none⟩) m d), (18, Value.int .i64 ((k : Nat) : Int)), (17, Value.slice (some ⟨b, off, none⟩) n c)] (((0 : Int) ≤ ((k : Nat) : Int)) ∧ (((k : Nat) : Int) < ((n : Nat) : Int)) ∧ ((0 : Int) ≤ ((k : Nat) : Int)) ∧ (((k : Nat) : Int) < ((m : Nat) : Int)) ∧ (LoadsAt Try.prog (fun x_ => St w x_ []) 3 ⟨b, off + Int.toNat ((k : Nat) : Int) * 1, none⟩ (Value.int .i64 z)) ∧ (LoadsAt Try.prog (fun x_ => St w x_ []) 3 ⟨b2, off2 + Int.toNat ((k : Nat) : Int) * 1, none⟩ (Value.int .i64 y))) (by kernel_rfl) (Qpanic.then (Qpanic.block (Qpanic.then (Qpanic.then (Qpanic.block (Qpanic.then Qpanic.bp)))))) rfl (by kernel_rfl) ⟨(by omega), (by omega), (by omega), (by omega), (ld_low (hcl _ _ (by simp [hzk])) (by kernel_rfl)), (ld_low (hcl2 _ _ (by simp [hyk])) (by kernel_rfl))⟩ hS5 ?_
      refine a_done (by kernel_rfl) ?_
      refine then_n ?_
      rcases Bool.eq_false_or_eq_true (decide (z = y)) with hb6 | hb6
      · skip
        have hb6p := of_decide_eq_true hb6
        refine c_false (b := (!(decide (z = y)))) (by kernel_rfl) (nb (v := true) hb6) ?_
        refine wp_skip ?_
        refine blk_n ?_
        refine then_n ?_
        refine c_reg ?_
        refine q_seg (S := (fun x_ => St w x_ [])) [(5, Value.int .i64 (((k : Nat) : Int) + (1 : Int))), (16, Value.int .i64 (((k : Nat) : Int) + (1 : Int))), (15, Value.int .i64 ((k : Nat) : Int))] [.no, .no, .no] ((InK .i64 (((k : Nat) : Int) + (1 : Int)))) (by kernel_rfl) (in64 (by omega) (by omega)) hS5 ?_
        refine l_nil rfl ?_
        refine then_n ?_
        refine round_end (k + 1) ?_ ?_ ?_
        · exact (agree_cons (by kernel_rfl) (agree_cons (by kernel_rfl) (agree_cons (by kernel_rfl) agree_nil)))
        · exact ⟨(by omega), (tk_step htk hzk hyk hb6p), hS5⟩
        · exact (by first | omega | (dsimp only; omega))
      · skip
        have hb6p := of_decide_eq_false hb6
        refine c_true (b := (!(decide (z = y)))) (by kernel_rfl) (nb (v := false) hb6) ?_
        refine wp_seq ?_
        refine c_reg ?_
        refine q_seg (S := (fun x_ => St w x_ [])) [(4, Value.bool false)] [.no] True (by kernel_rfl) trivial hS5 ?_
        refine l_nil rfl ?_
        refine then_n ?_
        refine wp_ret ?_
        refine blk_r ?_
        refine then_r ?_
        refine then_r ?_
        refine blk_r ?_
        refine then_r ?_
        exact c_end (S := (fun x_ => St w x_ [])) (rs := [.tmp 4]) rfl [] (v := Value.bool false) (C := True) (by kernel_rfl) trivial hS5 ((hS5.rv (congrArg Value.bool (decide_eq_false (fun e_ => hb6p (Option.some.inj (hzk.symm.trans ((congrArg (fun l => l[k]?) e_).trans hyk))))).symm)))
    · skip
      have hb4p := of_decide_eq_false hb4
      refine c_false (b := (decide (((k : Nat) : Int) < ((n : Nat) : Int)))) (by kernel_rfl) hb4 ?_
      refine wp_exit ?_
      refine then_x ?_
      refine then_x ?_
      refine blk_hit ?_
      refine then_n ?_
      refine wp_seq ?_
      refine c_reg ?_
      refine q_seg (S := (fun x_ => St w x_ [])) [(4, Value.bool true)] [.no] True (by kernel_rfl) trivial hS2 ?_
      refine l_nil rfl ?_
      refine then_n ?_
      refine wp_ret ?_
      exact c_end (S := (fun x_ => St w x_ [])) (rs := [.tmp 4]) rfl [] (v := Value.bool true) (C := True) (by kernel_rfl) trivial hS2 ((hS2.rv (congrArg Value.bool (decide_eq_true (by rw [take_all (by have := hr.len; omega), take_all (by have := hr2.len; omega)] at htk; exact htk)).symm)))
  · skip
    have hb1p := of_decide_eq_false hb1
    refine c_true (b := (!(decide (((n : Nat) : Int) = ((m : Nat) : Int))))) (by kernel_rfl) (nb (v := false) hb1) ?_
    refine wp_seq ?_
    refine c_reg ?_
    refine q_seg (S := (fun x_ => St w x_ [])) [(4, Value.bool false)] [.no] True (by kernel_rfl) trivial hS ?_
    refine l_nil rfl ?_
    refine then_n ?_
    refine wp_ret ?_
    refine then_r ?_
    exact c_end (S := (fun x_ => St w x_ [])) (rs := [.tmp 4]) rfl [] (v := Value.bool false) (C := True) (by kernel_rfl) trivial hS ((hS.rv (congrArg Value.bool (decide_eq_false (fun e_ => by have h1_ := hr.len; have h2_ := hr2.len; rw [e_] at h1_; omega)).symm)))
theorem contains_c (A : Option Addr) (n cp : Nat) (zs : List Int) (c : Int) (w : World) (hn : n ≤ 9223372036854775807) (hr : Rd w w.heap.size A n (zs.map (Value.int .i64))) : Calls Try.prog 20 #[.slice A n cp, .int .i64 c] w (RetV w (.bool (decide (c ∈ zs)))) := by
  refine calls_FA Try.func20 rfl (n := 18) rfl (l := [(0, Value.slice A n cp), (1, Value.int .i64 c)]) rfl (by simp) (fun g => ?_)
  have hS := St.init w
  refine wp_seq ?_
  refine c_reg ?_
  refine q_seg (S := (fun x_ => St w x_ [])) [(4, Value.bool false)] [.no] True (by kernel_rfl) trivial hS ?_
  refine l_nil rfl ?_
  refine then_n ?_
  refine wp_seq ?_
  refine wp_seq ?_
  refine c_reg ?_
  refine q_seg (S := (fun x_ => St w x_ [])) [(5, Value.int .i64 0)] [.no] True (by kernel_rfl) trivial hS ?_
  refine l_nil rfl ?_
  refine then_n ?_
  refine wp_block ?_
  refine c_loop (X := Nat) (fun (k : Nat) => [(0, Value.slice A n cp), (1, Value.int .i64 c), (5, Value.int .i64 ((k : Nat) : Int))]) (fun (k : Nat) (wr : World) => (k ≤ n) ∧ (c ∉ zs.take k) ∧ St w wr []) (fun (k : Nat) => n - k) 0 ?_ ?_ ?_
  · exact (agree_cons (by kernel_rfl) (agree_cons (by kernel_rfl) (agree_cons (by kernel_rfl) agree_nil)))
  · exact ⟨Nat.zero_le _, by simp, hS⟩
  rintro k g2 w1 ⟨hkn, hnk, hS1⟩
  refine wp_seq ?_
  refine wp_seq ?_
  refine c_reg ?_
  refine q_seg (S := (fun x_ => St w x_ [])) [(9, Value.bool (decide (((k : Nat) : Int) < ((n : Nat) : Int)))), (8, Value.int .i64 ((n : Nat) : Int)), (7, Value.slice A n cp), (6, Value.int .i64 ((k : Nat) : Int))] [.no, .no, .no, .no] True (by kernel_rfl) trivial hS1 ?_
  refine l_nil rfl ?_
  refine then_n ?_
  rcases Bool.eq_false_or_eq_true (decide (((k : Nat) : Int) < ((n : Nat) : Int))) with hb3 | hb3
  · skip
    have hb3p := of_decide_eq_true hb3
    obtain ⟨b, off, rfl, hbB, hcl⟩ := hr.2 (by omega)
    obtain ⟨z, hzk, hzm⟩ := get_of_lt (l := zs) (k := k) (by have := hr.len; omega)
    refine c_true (b := (decide (((k : Nat) : Int) < ((n : Nat) : Int)))) (by kernel_rfl) hb3 ?_
    refine wp_skip ?_
    refine then_n ?_
    refine wp_seq ?_
    refine wp_block ?_
    refine wp_seq ?_
    refine c_reg ?_
    refine q_seg (S := (fun x_ => St w x_ [])) [(17, Value.bool (decide (z = c))), (16, Value.int .i64 c), (15, Value.int .i64 z), (14, Value.pointer (some ⟨b, off + Int.toNat ((k : Nat) : Int) * 1, none⟩)), (13, Value.int .i64 ((k : Nat) : Int)), (12, Value.slice (some ⟨b, off, none⟩) n cp)] [.no, .no, .no, .v (Value.int .i64 z), .no, .no] (((0 : Int) ≤ ((k : Nat) : Int)) ∧ (((k : Nat) : Int) < ((n : Nat) : Int)) ∧ (LoadsAt Try.prog (fun x_ => St w x_ []) 3 ⟨b, off + Int.toNat ((k : Nat) : Int) * 1, none⟩ (Value.int .i64 z))) (by kernel_rfl) ⟨(by omega), (by omega), (ld_low (hcl _ _ (by simp [hzk])) (by kernel_rfl))⟩ hS1 ?_
    refine l_nil rfl ?_
    refine then_n ?_
    rcases Bool.eq_false_or_eq_true (decide (z = c)) with hb4 | hb4
    · skip
      have hb4p := of_decide_eq_true hb4
      refine c_true (b := (decide (z = c))) (by kernel_rfl) hb4 ?_
      refine wp_seq ?_
      refine c_reg ?_
      refine q_seg (S := (fun x_ => St w x_ [])) [(4, Value.bool true)] [.no] True (by kernel_rfl) trivial hS1 ?_
      refine l_nil rfl ?_
      refine then_n ?_
      refine wp_ret ?_
      refine blk_r ?_
      refine then_r ?_
      refine then_r ?_
      refine blk_r ?_
      refine then_r ?_
      exact c_end (S := (fun x_ => St w x_ [])) (rs := [.tmp 4]) rfl [] (v := Value.bool true) (C := True) (by kernel_rfl) trivial hS1 ((hS1.rv (congrArg Value.bool (decide_eq_true (mem_of_get hzk hb4p)).symm)))
    · skip
      have hb4p := of_decide_eq_false hb4
      refine c_false (b := (decide (z = c))) (by kernel_rfl) hb4 ?_
      refine wp_skip ?_
      refine blk_n ?_
      refine then_n ?_
      refine c_reg ?_
      refine q_seg (S := (fun x_ => St w x_ [])) [(5, Value.int .i64 (((k : Nat) : Int) + (1 : Int))), (11, Value.int .i64 (((k : Nat) : Int) + (1 : Int))), (10, Value.int .i64 ((k : Nat) : Int))] [.no, .no, .no] ((InK .i64 (((k : Nat) : Int) + (1 : Int)))) (by kernel_rfl) (in64 (by omega) (by omega)) hS1 ?_
      refine l_nil rfl ?_
      refine then_n ?_
      refine round_end (k + 1) ?_ ?_ ?_
      · exact (agree_cons (by kernel_rfl) (agree_cons (by kernel_rfl) (agree_cons (by kernel_rfl) agree_nil)))
      · exact ⟨(by omega), (not_take_step hnk hzk hb4p), hS1⟩
      · exact (by first | omega | (dsimp only; omega))
  · skip
    have hb3p := of_decide_eq_false hb3
    refine c_false (b := (decide (((k : Nat) : Int) < ((n : Nat) : Int)))) (by kernel_rfl) hb3 ?_
    refine wp_exit ?_
    refine then_x ?_
    refine then_x ?_
    refine blk_hit ?_
    refine then_n ?_
    refine wp_seq ?_
    refine c_reg ?_
    refine q_seg (S := (fun x_ => St w x_ [])) [(4, Value.bool false)] [.no] True (by kernel_rfl) trivial hS1 ?_
    refine l_nil rfl ?_
    refine then_n ?_
    refine wp_ret ?_
    exact c_end (S := (fun x_ => St w x_ [])) (rs := [.tmp 4]) rfl [] (v := Value.bool false) (C := True) (by kernel_rfl) trivial hS1 ((hS1.rv (congrArg Value.bool (decide_eq_false (by rw [List.take_of_length_le (by have := hr.len; omega)] at hnk; exact hnk)).symm)))
end Go.Proofs.Ytkcedoehehjceaa
