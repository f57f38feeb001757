/-
  The walks of the laws FnExactIsValidPool and FnExactIsServerUp: the law's text returns true.
-/
import Derived.Test.YtidefcakodnffaaPool
import Derived.Test.YtidefcakodnffaaTypes
import Derived.Handy
namespace Go.Proofs.Ytidefcakodnffaa
open Go.RowKit

theorem walkFnExactIsValidPool (v0 : Value) (W : World) (i0 : InServerPool23 W W.heap.size v0) : Calls Try.prog 3 #[v0] W (Tr W) := by
  obtain ⟨s, u, rfl, hs, hu⟩ := i0
  go_enter Try.func3, Try.ntmps3
  go_wp2_with (first
    | (go_at_call 14; refine (toServerPool _ _ _).mono ?_; rintro e wn ⟨rfl, hbn⟩; obtain ⟨hcn, hfn⟩ := bcell hbn; have hzn : W.heap.size < wn.heap.size := (by have := hbn.size; first | omega | (simp at this; omega)); have hBn : Below W.heap.size W wn := Below.trans (by go_grown) (hbn.mono (by go_size)))
    | (go_at_call 13; refine (IsValidPool_spec _ _ _).mono ?_; rintro e wn ⟨rfl, hbn⟩; obtain ⟨hcn, hfn⟩ := bcell hbn; have hzn : W.heap.size < wn.heap.size := (by have := hbn.size; first | omega | (simp at this; omega)); have hBn : Below W.heap.size W wn := Below.trans (by go_grown) (hbn.mono (by go_size)))
    | (go_at_call 15; refine (IsValidPool_impl _ _ _).mono ?_; rintro e wn ⟨rfl, hbn⟩; obtain ⟨hcn, hfn⟩ := bcell hbn; have hzn : W.heap.size < wn.heap.size := (by have := hbn.size; first | omega | (simp at this; omega)); have hBn : Below W.heap.size W wn := Below.trans (by go_grown) (hbn.mono (by go_size))))
  go_ret
  exact ⟨rfl, by go_grown⟩
theorem walkFnExactIsServerUp (v0 v1 : Value) (W : World) (i0 : InServerPool23 W W.heap.size v0) (i1 : InInt3 W W.heap.size v1) : Calls Try.prog 4 #[v0, v1] W (Tr W) := by
  obtain ⟨s, u, rfl, hs, hu⟩ := i0
  obtain ⟨i, rfl, hi⟩ := i1
  go_enter Try.func4, Try.ntmps4
  go_wp2_with (first
    | (go_at_call 14; refine (toServerPool _ _ _).mono ?_; rintro e wn ⟨rfl, hbn⟩; obtain ⟨hcn, hfn⟩ := bcell hbn; have hzn : W.heap.size < wn.heap.size := (by have := hbn.size; first | omega | (simp at this; omega)); have hBn : Below W.heap.size W wn := Below.trans (by go_grown) (hbn.mono (by go_size)))
    | (go_at_call 16; refine (IsServerUp_spec _ _ _ hs hi _).mono ?_; rintro e wn ⟨rfl, hbn⟩; obtain ⟨hcn, hfn⟩ := bcell hbn; have hzn : W.heap.size < wn.heap.size := (by have := hbn.size; first | omega | (simp at this; omega)); have hBn : Below W.heap.size W wn := Below.trans (by go_grown) (hbn.mono (by go_size)))
    | (go_at_call 17; refine (IsServerUp_impl _ _ _ hs hi _).mono ?_; rintro e wn ⟨rfl, hbn⟩; obtain ⟨hcn, hfn⟩ := bcell hbn; have hzn : W.heap.size < wn.heap.size := (by have := hbn.size; first | omega | (simp at this; omega)); have hBn : Below W.heap.size W wn := Below.trans (by go_grown) (hbn.mono (by go_size))))
  go_ret
  exact ⟨rfl, by go_grown⟩
end Go.Proofs.Ytidefcakodnffaa
