/-
  The walks of the laws FnExactIsValidOverloadControl, FnExactClassLimit, FnExactAdmitRequest and FnExactBackoffTicks: the law's text returns true.
-/
import Derived.Test.YtdbbaiflhofkaaaOver3
import Derived.Test.YtdbbaiflhofkaaaTypes
import Derived.Handy
namespace Go.Proofs.Ytdbbaiflhofkaaa
open Go.RowKit

theorem walkFnExactIsValidOverloadControl (v0 : Value) (W : World) (i0 : InOverloadControl23 W W.heap.size v0) : Calls Try.prog 3 #[v0] W (Tr W) := by
  obtain ⟨c, a, t, rfl, hc, ha, ht⟩ := i0
  go_enter Try.func3, Try.ntmps3
  go_wp2_with fail
  refine (toOverloadControl _ _ _ _).mono ?_
  rintro e w1 ⟨rfl, hb1⟩
  obtain ⟨hc1, hf1⟩ := bcell hb1
  have hz1_0 : W.heap.size < w1.heap.size := (by have := hb1.size; first | omega | (simp at this; omega))
  have hc1_0 := fun o => hc1 (W.heap.size) o (by go_size)
  have hf1_0 := fun o => hf1 (W.heap.size) o (by go_size)
  clear hc1 hf1
  have hy1 : W.heap.size ≤ w1.heap.size := (by have := hb1.size; first | omega | (simp at this; omega))
  have hB1 : Below W.heap.size W w1 := Below.trans (by go_grown) (hb1.mono (by go_size))
  go_wp2_with fail
  refine (IsValidOC_spec _ _ _ _).mono ?_
  rintro e w2 ⟨rfl, hb2⟩
  obtain ⟨hc2, hf2⟩ := bcell hb2
  have hz2_0 : W.heap.size < w2.heap.size := (by have := hb2.size; first | omega | (simp at this; omega))
  have hc2_0 := fun o => hc2 (W.heap.size) o (by go_size)
  have hf2_0 := fun o => hf2 (W.heap.size) o (by go_size)
  clear hc2 hf2
  have hy2 : W.heap.size ≤ w2.heap.size := (by have := hb2.size; first | omega | (simp at this; omega))
  have hB2 : Below W.heap.size W w2 := Below.trans (by go_grown) (hb2.mono (by go_size))
  go_wp2_with fail
  refine (toOverloadControl _ _ _ _).mono ?_
  rintro e w3 ⟨rfl, hb3⟩
  obtain ⟨hc3, hf3⟩ := bcell hb3
  have hz3_0 : W.heap.size < w3.heap.size := (by have := hb3.size; first | omega | (simp at this; omega))
  have hc3_0 := fun o => hc3 (W.heap.size) o (by go_size)
  have hf3_0 := fun o => hf3 (W.heap.size) o (by go_size)
  clear hc3 hf3
  have hy3 : W.heap.size ≤ w3.heap.size := (by have := hb3.size; first | omega | (simp at this; omega))
  have hB3 : Below W.heap.size W w3 := Below.trans (by go_grown) (hb3.mono (by go_size))
  go_wp2_with fail
  refine (IsValidOC_impl _ _ _ _).mono ?_
  rintro e w4 ⟨rfl, hb4⟩
  obtain ⟨hc4, hf4⟩ := bcell hb4
  have hz4_0 : W.heap.size < w4.heap.size := (by have := hb4.size; first | omega | (simp at this; omega))
  have hc4_0 := fun o => hc4 (W.heap.size) o (by go_size)
  have hf4_0 := fun o => hf4 (W.heap.size) o (by go_size)
  clear hc4 hf4
  have hy4 : W.heap.size ≤ w4.heap.size := (by have := hb4.size; first | omega | (simp at this; omega))
  have hB4 : Below W.heap.size W w4 := Below.trans (by go_grown) (hb4.mono (by go_size))
  go_wp2
  go_ret
  exact ⟨rfl, by go_grown⟩
theorem walkFnExactClassLimit (v0 v1 : Value) (W : World) (i0 : InOverloadControl23 W W.heap.size v0) (i1 : InInt3 W W.heap.size v1) : Calls Try.prog 4 #[v0, v1] W (Tr W) := by
  obtain ⟨c, a, t, rfl, hc, ha, ht⟩ := i0
  obtain ⟨k, rfl, hk⟩ := i1
  go_enter Try.func4, Try.ntmps4
  go_wp2_with fail
  refine (toOverloadControl _ _ _ _).mono ?_
  rintro e w1 ⟨rfl, hb1⟩
  obtain ⟨hc1, hf1⟩ := bcell hb1
  have hz1_0 : W.heap.size < w1.heap.size := (by have := hb1.size; first | omega | (simp at this; omega))
  have hc1_0 := fun o => hc1 (W.heap.size) o (by go_size)
  have hf1_0 := fun o => hf1 (W.heap.size) o (by go_size)
  clear hc1 hf1
  have hy1 : W.heap.size ≤ w1.heap.size := (by have := hb1.size; first | omega | (simp at this; omega))
  have hB1 : Below W.heap.size W w1 := Below.trans (by go_grown) (hb1.mono (by go_size))
  go_wp2_with fail
  refine (ClassLimit_spec _ _ _ _ hk _).mono ?_
  rintro e w2 ⟨rfl, hb2⟩
  obtain ⟨hc2, hf2⟩ := bcell hb2
  have hz2_0 : W.heap.size < w2.heap.size := (by have := hb2.size; first | omega | (simp at this; omega))
  have hc2_0 := fun o => hc2 (W.heap.size) o (by go_size)
  have hf2_0 := fun o => hf2 (W.heap.size) o (by go_size)
  clear hc2 hf2
  have hy2 : W.heap.size ≤ w2.heap.size := (by have := hb2.size; first | omega | (simp at this; omega))
  have hB2 : Below W.heap.size W w2 := Below.trans (by go_grown) (hb2.mono (by go_size))
  go_wp2_with fail
  refine (toOverloadControl _ _ _ _).mono ?_
  rintro e w3 ⟨rfl, hb3⟩
  obtain ⟨hc3, hf3⟩ := bcell hb3
  have hz3_0 : W.heap.size < w3.heap.size := (by have := hb3.size; first | omega | (simp at this; omega))
  have hc3_0 := fun o => hc3 (W.heap.size) o (by go_size)
  have hf3_0 := fun o => hf3 (W.heap.size) o (by go_size)
  clear hc3 hf3
  have hy3 : W.heap.size ≤ w3.heap.size := (by have := hb3.size; first | omega | (simp at this; omega))
  have hB3 : Below W.heap.size W w3 := Below.trans (by go_grown) (hb3.mono (by go_size))
  go_wp2_with fail
  refine (ClassLimit_impl _ _ _ _ hk _).mono ?_
  rintro e w4 ⟨rfl, hb4⟩
  obtain ⟨hc4, hf4⟩ := bcell hb4
  have hz4_0 : W.heap.size < w4.heap.size := (by have := hb4.size; first | omega | (simp at this; omega))
  have hc4_0 := fun o => hc4 (W.heap.size) o (by go_size)
  have hf4_0 := fun o => hf4 (W.heap.size) o (by go_size)
  clear hc4 hf4
  have hy4 : W.heap.size ≤ w4.heap.size := (by have := hb4.size; first | omega | (simp at this; omega))
  have hB4 : Below W.heap.size W w4 := Below.trans (by go_grown) (hb4.mono (by go_size))
  go_wp2
  go_ret
  exact ⟨rfl, by go_grown⟩
theorem walkFnExactAdmitRequest (v0 v1 v2 : Value) (W : World) (i0 : InOverloadControl23 W W.heap.size v0) (i1 : InInt3 W W.heap.size v1) (i2 : InInt3 W W.heap.size v2) : Calls Try.prog 7 #[v0, v1, v2] W (Tr W) := by
  obtain ⟨c, a, t, rfl, hc, ha, ht⟩ := i0
  obtain ⟨k, rfl, hk⟩ := i1
  obtain ⟨n, rfl, hn⟩ := i2
  go_enter Try.func7, Try.ntmps7
  go_wp2_with fail
  refine (toOverloadControl _ _ _ _).mono ?_
  rintro e w1 ⟨rfl, hb1⟩
  obtain ⟨hc1, hf1⟩ := bcell hb1
  have hz1_0 : W.heap.size < w1.heap.size := (by have := hb1.size; first | omega | (simp at this; omega))
  have hc1_0 := fun o => hc1 (W.heap.size) o (by go_size)
  have hf1_0 := fun o => hf1 (W.heap.size) o (by go_size)
  clear hc1 hf1
  have hy1 : W.heap.size ≤ w1.heap.size := (by have := hb1.size; first | omega | (simp at this; omega))
  have hB1 : Below W.heap.size W w1 := Below.trans (by go_grown) (hb1.mono (by go_size))
  go_wp2_with fail
  refine (AdmitRequest_spec _ _ _ _ _ hk hn _).mono ?_
  rintro e w2 ⟨rfl, hb2⟩
  obtain ⟨hc2, hf2⟩ := bcell hb2
  have hz2_0 : W.heap.size < w2.heap.size := (by have := hb2.size; first | omega | (simp at this; omega))
  have hc2_0 := fun o => hc2 (W.heap.size) o (by go_size)
  have hf2_0 := fun o => hf2 (W.heap.size) o (by go_size)
  clear hc2 hf2
  have hy2 : W.heap.size ≤ w2.heap.size := (by have := hb2.size; first | omega | (simp at this; omega))
  have hB2 : Below W.heap.size W w2 := Below.trans (by go_grown) (hb2.mono (by go_size))
  go_wp2_with fail
  refine (toOverloadControl _ _ _ _).mono ?_
  rintro e w3 ⟨rfl, hb3⟩
  obtain ⟨hc3, hf3⟩ := bcell hb3
  have hz3_0 : W.heap.size < w3.heap.size := (by have := hb3.size; first | omega | (simp at this; omega))
  have hc3_0 := fun o => hc3 (W.heap.size) o (by go_size)
  have hf3_0 := fun o => hf3 (W.heap.size) o (by go_size)
  have hz3_1 : w2.heap.size < w3.heap.size := (by have := hb3.size; first | omega | (simp at this; omega))
  have hc3_1 := fun o => hc3 (w2.heap.size) o (by go_size)
  have hf3_1 := fun o => hf3 (w2.heap.size) o (by go_size)
  clear hc3 hf3
  have hy3 : W.heap.size ≤ w3.heap.size := (by have := hb3.size; first | omega | (simp at this; omega))
  have hB3 : Below W.heap.size W w3 := Below.trans (by go_grown) (hb3.mono (by go_size))
  go_wp2_with fail
  refine (AdmitRequest_impl _ _ _ _ _ hk hn _).mono ?_
  rintro e w4 ⟨rfl, hb4⟩
  obtain ⟨hc4, hf4⟩ := bcell hb4
  have hz4_0 : W.heap.size < w4.heap.size := (by have := hb4.size; first | omega | (simp at this; omega))
  have hc4_0 := fun o => hc4 (W.heap.size) o (by go_size)
  have hf4_0 := fun o => hf4 (W.heap.size) o (by go_size)
  have hz4_1 : w2.heap.size < w4.heap.size := (by have := hb4.size; first | omega | (simp at this; omega))
  have hc4_1 := fun o => hc4 (w2.heap.size) o (by go_size)
  have hf4_1 := fun o => hf4 (w2.heap.size) o (by go_size)
  clear hc4 hf4
  have hy4 : W.heap.size ≤ w4.heap.size := (by have := hb4.size; first | omega | (simp at this; omega))
  have hB4 : Below W.heap.size W w4 := Below.trans (by go_grown) (hb4.mono (by go_size))
  go_wp2_with fail
  refine (eqOverloadControl _ _ _ _ _ _ _).mono ?_
  rintro e w5 ⟨rfl, hb5⟩
  obtain ⟨hc5, hf5⟩ := bcell hb5
  have hz5_0 : W.heap.size < w5.heap.size := (by have := hb5.size; first | omega | (simp at this; omega))
  have hc5_0 := fun o => hc5 (W.heap.size) o (by go_size)
  have hf5_0 := fun o => hf5 (W.heap.size) o (by go_size)
  have hz5_1 : w2.heap.size < w5.heap.size := (by have := hb5.size; first | omega | (simp at this; omega))
  have hc5_1 := fun o => hc5 (w2.heap.size) o (by go_size)
  have hf5_1 := fun o => hf5 (w2.heap.size) o (by go_size)
  have hz5_2 : w4.heap.size < w5.heap.size := (by have := hb5.size; first | omega | (simp at this; omega))
  have hc5_2 := fun o => hc5 (w4.heap.size) o (by go_size)
  have hf5_2 := fun o => hf5 (w4.heap.size) o (by go_size)
  clear hc5 hf5
  have hy5 : W.heap.size ≤ w5.heap.size := (by have := hb5.size; first | omega | (simp at this; omega))
  have hB5 : Below W.heap.size W w5 := Below.trans (by go_grown) (hb5.mono (by go_size))
  go_wp2
  go_ret
  exact ⟨rfl, by go_grown⟩
theorem walkFnExactBackoffTicks (v0 v1 : Value) (W : World) (i0 : InInt3 W W.heap.size v0) (i1 : InInt3 W W.heap.size v1) : Calls Try.prog 5 #[v0, v1] W (Tr W) := by
  obtain ⟨k, rfl, hk⟩ := i0
  obtain ⟨n, rfl, hn⟩ := i1
  go_enter Try.func5, Try.ntmps5
  go_wp2_with fail
  refine (BackoffTicks_spec _ _ hn _).mono ?_
  rintro e w1 ⟨rfl, hb1⟩
  obtain ⟨hc1, hf1⟩ := bcell hb1
  clear hc1 hf1
  have hy1 : W.heap.size ≤ w1.heap.size := (by have := hb1.size; first | omega | (simp at this; omega))
  have hB1 : Below W.heap.size W w1 := Below.trans (by go_grown) (hb1.mono (by go_size))
  go_wp2_with fail
  refine (BackoffTicks_impl _ _ hn _).mono ?_
  rintro e w2 ⟨rfl, hb2⟩
  obtain ⟨hc2, hf2⟩ := bcell hb2
  clear hc2 hf2
  have hy2 : W.heap.size ≤ w2.heap.size := (by have := hb2.size; first | omega | (simp at this; omega))
  have hB2 : Below W.heap.size W w2 := Below.trans (by go_grown) (hb2.mono (by go_size))
  go_wp2
  go_ret
  exact ⟨rfl, by go_grown⟩
end Go.Proofs.Ytdbbaiflhofkaaa
