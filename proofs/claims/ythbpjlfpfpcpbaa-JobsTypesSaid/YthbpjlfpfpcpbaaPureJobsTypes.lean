/- The pure statement of JobsTypes: of any types it is told what the document says. No condition. -/
import Derived.Test.YthbpjlfpfpcpbaaOpJobsTypes
import Derived.Test.YthbpjlfpfpcpbaaJobsP
set_option linter.unusedVariables false
set_option linter.unusedSimpArgs false
namespace Go.Proofs.Ythbpjlfpfpcpbaa.Pure
open Go.Sort Go.RowKit Go.Proofs.Ythbpjlfpfpcpbaa.P Go.Proofs.YthbpjlfpfpcpbaaW.PrintWords Go.Proofs.YthbpjlfpfpcpbaaW.PrintLast Go.Proofs.YthbpjlfpfpcpbaaW.PrintMore

theorem works_five : clepsydralaw20_works.f 5 = some true := by
  unfold clepsydralaw20_works.f jobs_Whole.f wholeF
  rw [sortedF_isort]
  decide +kernel
theorem works_true (k : Nat) (h : 5 ≤ k) : clepsydralaw20_works.f k = some true := at_rounds clepsydralaw20_works.mono h works_five

theorem merge_ref (a b : Int) : clepsydraref20_Merge.f a b = some (mergeT a b) := by
  unfold clepsydraref20_Merge.f clepsydraref20_Known.f mergeT known mx
  by_cases a1 : a ≥ 1 <;> by_cases a3 : a ≤ 3 <;> by_cases b1 : b ≥ 1 <;> by_cases b3 : b ≤ 3 <;> simp [a1, a3, b1, b3]
  have ha : a = 1 ∨ a = 2 ∨ a = 3 := by omega
  have hb : b = 1 ∨ b = 2 ∨ b = 3 := by omega
  rcases ha with rfl | rfl | rfl <;> rcases hb with rfl | rfl | rfl <;> decide
theorem merge_at (k : Nat) (h : 3 ≤ k) (a b : Int) : jobs_Merge.f k a b = some (mergeT a b) := at_rounds (jobs_Merge.mono a b) h (merge_some a b)
theorem order_some (a b c d : Int) : jobs_order.f 3 a b c d = some (cmpJob ⟨a, b⟩ ⟨c, d⟩) := by
  unfold jobs_order.f
  rw [compare_int, compare_u8]
  simp only [Option.bind_some]
  rw [or_two]
  rfl
theorem less_some (k : Nat) (h : 3 ≤ k) (a b c d : Int) : jobs_Less.f k a b c d = some (decide (a < c ∨ (a = c ∧ b < d))) := by
  refine at_rounds (jobs_Less.mono a b c d) h ?_
  unfold jobs_Less.f
  rw [order_some]
  simp only [Option.bind_some, Option.some.injEq, decide_eq_decide]
  have := ltJob_iff ⟨a, b⟩ ⟨c, d⟩
  simpa [ltOf] using this
theorem less_ref (a b c d : Int) (m n : Bool) : clepsydraref20_Less.f a b m c d n = some (decide (a < c ∨ (a = c ∧ b < d))) := by
  unfold clepsydraref20_Less.f
  by_cases h1 : a < c
  · simp [h1]
  · by_cases h2 : a = c
    · simp [h2]
    · simp [h1, h2]

theorem JobsTypes : P.JobsTypes.Pure := by
  intro a b s _ _ _
  refine ⟨6, ?_⟩
  unfold clepsydralaw20_JobsTypes.f
  rw [merge_at 6 (by omega), merge_ref]
  simp only [Option.bind_some]
  have key : ∀ n : Bool, jobs_Needless.f a.f1 s = some n → clepsydralaw20_JobsTypes.j0 6 s (mergeT a.f1 b.f1).1 (mergeT a.f1 b.f1).2 (mergeT a.f1 b.f1).1 (mergeT a.f1 b.f1).2 n a.f0 a.f1 b.f0 b.f1 = some true := by
    intro n hn
    simp only [clepsydralaw20_JobsTypes.j0]
    rw [less_ref, known_some]
    have hk : clepsydraref20_Known.f a.f1 = some (known a.f1) := known_some a.f1
    rw [hk, hn, less_some 5 (by omega), works_true 5 (by omega)]
    simp
  have hn : jobs_Needless.f a.f1 s = some (if a.f1 = 1 then decide (s = 3) else if a.f1 = 2 then (if s = 1 then true else s == 5) else false) := by
    unfold jobs_Needless.f
    split
    · simp
      rfl
    · split
      · split <;> rfl
      · rfl
  by_cases h1 : a.f1 = 1
  · have h12 : ¬ a.f1 = 2 := by omega
    by_cases h3 : s = 3
    · rw [if_pos h1, if_pos h3]
      exact key _ (by rw [hn, if_pos h1, decide_eq_true h3])
    · rw [if_pos h1, if_neg h3, if_neg h12]
      exact key _ (by rw [hn, if_pos h1, decide_eq_false h3])
  · by_cases h2 : a.f1 = 2
    · by_cases h3 : s = 1
      · rw [if_neg h1, if_pos h2, if_pos h3]
        exact key _ (by rw [hn, if_neg h1, if_pos h2, if_pos h3])
      · rw [if_neg h1, if_pos h2, if_neg h3]
        exact key _ (by rw [hn, if_neg h1, if_pos h2, if_neg h3])
    · rw [if_neg h1, if_neg h2]
      exact key _ (by rw [hn, if_neg h1, if_neg h2])
end Go.Proofs.Ythbpjlfpfpcpbaa.Pure
