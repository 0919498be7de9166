/- The exact law of ProbeSkyOk, walked. -/
import Derived.Test.YtoakjmdjkhhfbaaV2
set_option linter.unusedVariables false
set_option linter.unusedSimpArgs false
namespace Go.Proofs.Ytoakjmdjkhhfbaa
open Go.RowKit
attribute [local go_sem] w_lt_add w_le_of w_le_add max2_i min2_i
theorem LL.md_length {us ts : List LL.Tu} (h : LL.md us = LL.md ts) : us.length = ts.length := by rw [← LL.md_len us, h, LL.md_len]
theorem spec_sky_of (ts us : List LL.Tu) (A : Option Addr) (c : Nat) (hmd : LL.md us = LL.md ts) (hz : ∀ k, k < ts.length → (LL.nthT ts k).s.size ≤ 9223372036854775807) (w : World) (h : RdT w A ts.length c us) : Calls Try.prog 16 #[.slice A ts.length c] w fun e w' => e = .returned (.bool (decide (LL.SkyOk ts))) ∧ Below w.heap.size w w' := by
  have hl := LL.md_length hmd
  have := spec_ProbeSkyOk_c us A c (fun k hk => by rw [(LL.md_eq hmd k (by omega)).1]; exact hz k (by omega)) w (by rw [hl]; exact h)
  rw [hl, decide_eq_decide.2 (LL.SkyOk_md hmd)] at this
  exact this
theorem impl_sky_of (ts us : List LL.Tu) (A : Option Addr) (c : Nat) (hmd : LL.md us = LL.md ts) (hz : ∀ k, k < ts.length → (LL.nthT ts k).s.size ≤ 9223372036854775807) (w : World) (h : RdT w A ts.length c us) : Calls Try.prog 18 #[.slice A ts.length c] w fun e w' => e = .returned (.bool (decide (LL.SkyOk ts))) ∧ Below w.heap.size w w' := by
  have hl := LL.md_length hmd
  have := impl_ProbeSkyOk_c us A c (fun k hk => by rw [(LL.md_eq hmd k (by omega)).1]; exact hz k (by omega)) w (by rw [hl]; exact h)
  rw [hl, decide_eq_decide.2 (LL.SkyOk_md hmd)] at this
  exact this
theorem eq_sky_of (ts us vs : List LL.Tu) (A A' : Option Addr) (c c' : Nat) (w : World) (hu : LL.md us = LL.md ts) (hv : LL.md vs = LL.md ts) (h : RdT w A ts.length c us) (h' : RdT w A' ts.length c' vs) : Calls Try.prog 19 #[.slice A ts.length c, .slice A' ts.length c'] w fun e w' => e = .returned (.bool true) ∧ Below w.heap.size w w' := by
  have hl := LL.md_length hv
  have := eqProbeTubeS_c vs us A A' c c' w (hu.trans hv.symm) (by rw [hl]; exact h) (by rw [hl]; exact h')
  rw [hl] at this
  exact this
set_option maxRecDepth 100000 in
set_option maxHeartbeats 2000000 in
theorem FnExactProbeSkyOk_c (ts : List LL.Tu) (A : Option Addr) (c : Nat) (w : World) (h : RdT w A ts.length c ts) (hz : ∀ k, k < ts.length → (LL.nthT ts k).s.size ≤ 9223372036854775807) : Calls Try.prog 3 #[.slice A ts.length c] w fun e w' => e = .returned (.bool true) ∧ Below w.heap.size w w' := by
  go_enter Try.func3, Try.ntmps3
  go_wp2_with fail
  refine (szProbeTubeS_c ts 1048576 A c _ (by decide) (by decide) h hz).mono ?_
  rintro e W1 ⟨⟨v, rfl, hv⟩, hb⟩
  by_cases hv0 : v < 0
  · go_wp2_with fail
    go_ret
    exact ⟨rfl, hb⟩
  have hv1 : decide (v < 0) = false := by simpa using hv0
  go_wp2_with fail
  refine (toProbeTubeS_c ts A c _ (h.mono hb)).mono ?_
  rintro e W2 ⟨u1, A1, c1, hm1, rfl, hR1, hB⟩
  replace hb := b_step hb hB
  clear hB
  go_wp2_with fail
  refine (spec_sky_of ts u1 A1 c1 hm1 hz _ hR1).mono ?_
  rintro e W3 ⟨rfl, hB⟩
  replace hb := b_step hb hB
  clear hB
  go_wp2_with fail
  refine (toProbeTubeS_c ts A c _ (h.mono hb)).mono ?_
  rintro e W4 ⟨u2, A2, c2, hm2, rfl, hR2, hB⟩
  replace hb := b_step hb hB
  clear hB
  go_wp2_with fail
  refine (impl_sky_of ts u2 A2 c2 hm2 hz _ hR2).mono ?_
  rintro e W5 ⟨rfl, hB⟩
  replace hb := b_step hb hB
  replace hR2 := hR2.mono hB
  clear hB
  generalize decide (LL.SkyOk ts) = bb at *
  have hbb : (bb != bb) = false := by simp
  go_wp2_with fail
  refine (toProbeTubeS_c ts A c _ (h.mono hb)).mono ?_
  rintro e W6 ⟨u3, A3, c3, hm3, rfl, hR3, hB⟩
  replace hb := b_step hb hB
  replace hR2 := hR2.mono hB
  clear hB
  go_wp2_with fail
  refine (eq_sky_of ts u2 u3 A2 A3 c2 c3 _ hm2 hm3 hR2 hR3).mono ?_
  rintro e W7 ⟨rfl, hB⟩
  replace hb := b_step hb hB
  clear hB
  go_wp2_with fail
  go_ret
  exact ⟨rfl, hb⟩
end Go.Proofs.Ytoakjmdjkhhfbaa
