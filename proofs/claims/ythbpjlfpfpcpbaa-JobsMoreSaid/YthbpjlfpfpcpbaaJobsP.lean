/- Plain laws of jobs: sorting by insertion; what is sorted and whole, unit by unit. No condition beyond each theorem's own. -/
import Derived.Test.YthbpjlfpfpcpbaaWhole
set_option linter.unusedVariables false
set_option linter.unusedSimpArgs false
namespace Go.Proofs.Ythbpjlfpfpcpbaa.P
open Go.Sort

/-- x does not stand behind y. -/
def LeJ (x y : S24) : Prop := ltOf cmpJob y x = false
theorem leJ_iff (x y : S24) : LeJ x y ↔ (x.f0 < y.f0 ∨ (x.f0 = y.f0 ∧ x.f1 ≤ y.f1)) := by
  unfold LeJ
  rw [ltJob_not]
  omega
theorem leJ_trans {x y z : S24} (h1 : LeJ x y) (h2 : LeJ y z) : LeJ x z := by
  rw [leJ_iff] at *
  omega
theorem leJ_anti {x y : S24} (h1 : LeJ x y) (h2 : LeJ y x) : x = y := totJob x y h2 h1
theorem leJ_total (x y : S24) : LeJ x y ∨ LeJ y x := by
  rw [leJ_iff, leJ_iff]
  omega
theorem sortJobs_sorted (l : List S24) : (sortJobs l).Pairwise LeJ := by
  have h := List.pairwise_mergeSort (le := fun x y => !(ltOf cmpJob) y x) (fun x y z h1 h2 => by
      simp only [Bool.not_eq_true'] at *
      exact swoJob.ntrans z y x h2 h1) (fun x y => by
      rcases leJ_total x y with h | h
      · simp only [LeJ] at h; simp [h]
      · simp only [LeJ] at h; simp [h]) l
  refine List.Pairwise.imp (fun {a b} hab => ?_) h
  simpa [LeJ] using hab
theorem sortJobs_perm' (l : List S24) : (sortJobs l).Perm l := List.mergeSort_perm l _
theorem sorted_unique {a b : List S24} (h : a.Perm b) (ha : a.Pairwise LeJ) (hb : b.Pairwise LeJ) : a = b :=
  h.eq_of_pairwise (le := LeJ) (fun x y _ _ h1 h2 => leJ_anti h1 h2) ha hb
theorem sortJobs_of_sorted {l : List S24} (h : l.Pairwise LeJ) : sortJobs l = l := sorted_unique (sortJobs_perm' l) (sortJobs_sorted l) h
def insJ (x : S24) : List S24 → List S24
  | [] => [x]
  | y :: l => if ltOf cmpJob y x then y :: insJ x l else x :: y :: l
def isortJ : List S24 → List S24
  | [] => []
  | x :: l => insJ x (isortJ l)
theorem insJ_perm (x : S24) : ∀ l : List S24, (insJ x l).Perm (x :: l)
  | [] => .refl _
  | y :: l => by
    unfold insJ
    split
    · exact ((insJ_perm x l).cons y).trans (List.Perm.swap x y l)
    · exact .refl _
theorem insJ_sorted (x : S24) : ∀ l : List S24, l.Pairwise LeJ → (insJ x l).Pairwise LeJ
  | [], _ => by simp [insJ]
  | y :: l, h => by
    rw [List.pairwise_cons] at h
    unfold insJ
    split
    · rename_i hlt
      rw [List.pairwise_cons]
      refine ⟨fun z hz => ?_, insJ_sorted x l h.2⟩
      rcases List.mem_cons.1 ((insJ_perm x l).mem_iff.1 hz) with rfl | hz
      · rw [leJ_iff]
        rw [ltJob_iff] at hlt
        omega
      · exact h.1 z hz
    · rename_i hlt
      have hxy : LeJ x y := by simpa [LeJ] using hlt
      rw [List.pairwise_cons]
      refine ⟨fun z hz => ?_, List.pairwise_cons.2 h⟩
      rcases List.mem_cons.1 hz with rfl | hz
      · exact hxy
      · exact leJ_trans hxy (h.1 z hz)
theorem isortJ_spec : ∀ l : List S24, (isortJ l).Perm l ∧ (isortJ l).Pairwise LeJ
  | [] => ⟨.refl _, .nil⟩
  | x :: l => ⟨(insJ_perm x _).trans ((isortJ_spec l).1.cons x), insJ_sorted x _ (isortJ_spec l).2⟩
theorem sortJobs_isort (l : List S24) : sortJobs l = isortJ l := sorted_unique ((sortJobs_perm' l).trans (isortJ_spec l).1.symm) (sortJobs_sorted l) (isortJ_spec l).2
def sortedI (l : List S26) : List S26 := (isortJ (Mp.keys (mustOf l))).map fun j => ⟨j, (Mp.get (mustOf l) j).getD false⟩
theorem sortedF_isort (l : List S26) : sortedF l = sortedI l := by unfold sortedF sortedI; rw [sortJobs_isort]
end Go.Proofs.Ythbpjlfpfpcpbaa.P
