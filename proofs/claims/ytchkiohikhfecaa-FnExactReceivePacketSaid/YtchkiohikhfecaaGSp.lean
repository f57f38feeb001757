/-
  Contracts of SendPacket.
-/
import Derived.Test.YtchkiohikhfecaaGWs
namespace Go.Proofs.Ytchkiohikhfecaa
open Go.RowKit
set_option maxRecDepth 100000

theorem markNumberedPacket_c (s : Int) (A : Option Addr) (n c : Nat) (k0 : Int) (xs : List Value) (tl : List Res) (w0 w : World) (hS : St w0 w (Res.row (Value.slice A n c) 5 1 n xs :: tl)) (hk1 : -1099511627776 ≤ k0) (hk2 : k0 ≤ 1099511627776) (hn : n ≤ 1099511627776) : Calls Try.prog 23 #[Value.agg #[Value.int .i64 s, Value.slice A n c], .int .i64 k0] w (fun e w' => ∃ v own', e = .returned v ∧ St w0 w' own' ∧ (v = .int .i64 (k0 + ((n : Nat) : Int)) ∧ own' = (Res.row (Value.slice A n c) 5 1 n ((marks (IntKind.wrap .u8) k0 n).map (Value.int .u8)) :: tl))) := by
  refine calls_FA Try.func23 rfl (n := 10) rfl (l := [(0, Value.agg #[Value.int .i64 s, Value.slice A n c]), (1, Value.int .i64 k0)]) rfl (by simp) (fun g => ?_)
  refine wp_seq ?_
  refine c_reg ?_
  refine l_op rfl rfl (fun K hK => op_box (d := some 2) rfl rfl [Value.int .i64 s, Value.slice A n c] (by kernel_rfl) hS (fun blk2 w1 hS1 => hK _ _ ?_))
  clear hK K
  refine q_seg (S := (fun x_ => St w0 x_ (Res.box blk2 [Value.int .i64 s, Value.slice A n c] 37 :: Res.row (Value.slice A n c) 5 1 n xs :: tl))) [(4, Value.int .i64 0)] [.no] True (by kernel_rfl) trivial hS1 ?_
  refine l_nil rfl ?_
  refine then_n ?_
  refine wp_seq ?_
  refine c_reg ?_
  refine q_seg (S := (fun x_ => St w0 x_ (Res.box blk2 [Value.int .i64 s, Value.slice A n c] 37 :: Res.row (Value.slice A n c) 5 1 n xs :: tl))) [(7, Value.int .i64 k0), (6, Value.slice A n c), (5, Value.pointer (some ⟨blk2, 0 + 1, none⟩))] [.no, .v (Value.slice A n c), .no] ((LoadsAt Try.prog (fun x_ => St w0 x_ (Res.box blk2 [Value.int .i64 s, Value.slice A n c] 37 :: Res.row (Value.slice A n c) 5 1 n xs :: tl)) 26 ⟨blk2, 0 + 1, none⟩ (Value.slice A n c))) (by kernel_rfl) (ld_box (i := 0) rfl rfl (by kernel_rfl)) hS1 ?_
  refine l_op rfl rfl (fun K hK => op_callm (d := some 8) rfl rfl ⟨_, Try.func55, by kernel_rfl, by kernel_rfl⟩ (vs := [Value.slice A n c, Value.int .i64 k0]) (by kernel_rfl) (markByteS_c A n c k0 _ _ w0 w1 (hS1.front 1 rfl) (by omega) (by omega) (by omega)) (fun v4 new5 w3 Rw3 hS3 => hK _ _ ?_))
  clear hK K
  obtain ⟨rfl, rfl⟩ := Rw3
  refine q_seg (S := (fun x_ => St w0 x_ (Res.row (Value.slice A n c) 5 1 n ((marks (IntKind.wrap .u8) k0 n).map (Value.int .u8)) :: Res.box blk2 [Value.int .i64 s, Value.slice A n c] 37 :: tl))) [(1, Value.int .i64 (k0 + ((n : Nat) : Int)))] [.no] True (by kernel_rfl) trivial hS3 ?_
  refine l_nil rfl ?_
  refine then_n ?_
  refine wp_seq ?_
  refine c_reg ?_
  refine q_seg (S := (fun x_ => St w0 x_ (Res.row (Value.slice A n c) 5 1 n ((marks (IntKind.wrap .u8) k0 n).map (Value.int .u8)) :: Res.box blk2 [Value.int .i64 s, Value.slice A n c] 37 :: tl))) [(4, Value.int .i64 (k0 + ((n : Nat) : Int))), (9, Value.int .i64 (k0 + ((n : Nat) : Int)))] [.no, .no] True (by kernel_rfl) trivial hS3 ?_
  refine l_nil rfl ?_
  refine then_n ?_
  refine wp_ret ?_
  have hS3s1 : St w0 w3 (Res.row (Value.slice A n c) 5 1 n ((marks (IntKind.wrap .u8) k0 n).map (Value.int .u8)) :: tl) := (hS3.sub (List.Sublist.cons_cons _ (List.Sublist.cons _ (List.Sublist.refl _))))
  exact c_end (S := (fun x_ => St w0 x_ (Res.row (Value.slice A n c) 5 1 n ((marks (IntKind.wrap .u8) k0 n).map (Value.int .u8)) :: Res.box blk2 [Value.int .i64 s, Value.slice A n c] 37 :: tl))) (rs := [.tmp 4]) rfl [] (v := Value.int .i64 (k0 + ((n : Nat) : Int))) (C := True) (by kernel_rfl) trivial hS3 (⟨_, _, rfl, hS3s1, rfl, rfl⟩)
end Go.Proofs.Ytchkiohikhfecaa
