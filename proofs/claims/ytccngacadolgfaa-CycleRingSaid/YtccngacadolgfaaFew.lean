/- cycle.few: the first 64 items. No condition. -/
import Derived.Test.YtccngacadolgfaaNext
set_option linter.unusedVariables false
set_option linter.unusedSimpArgs false
namespace Go.Proofs.Ytccngacadolgfaa.P
open Go.RowKit Go.Proofs.YtccngacadolgfaaW.PrintWords Go.Proofs.YtccngacadolgfaaW.PrintLast Go.Proofs.YtccngacadolgfaaW.PrintMore
attribute [local go_sem] max2_int min2_int max_two min_two

set_option maxRecDepth 100000 in
set_option maxHeartbeats 4000000 in
theorem few_calls (A : Option Addr) (c n : Nat) (w : World) (hc : n ≤ c) (hA : 0 < n → ∃ ad, A = some ad) (hn : n ≤ 1000000) :
    Calls Try.prog 20 #[.slice A n c] w fun e w' => e = .returned (.slice A (min n 64) c) ∧ w' = w := by
  go_enter Try.func20, Try.ntmps20
  by_cases h : n ≤ 64
  · have h1 : ((n : Int) ≤ 64) := by omega
    have h2 : min n 64 = n := by omega
    rw [h2]
    go_wp2
    go_ret
    exact ⟨rfl, rfl⟩
  · have h1 : ¬ ((n : Int) < 64) := by omega
    have h1b : ((64 : Int) < n) := by omega
    have h2 : min n 64 = 64 := by omega
    have h3 : (64 : Nat) ≤ c := by omega
    have h4 : ((64 : Int) ≤ c) := by omega
    rw [h2]
    obtain ⟨ad, rfl⟩ := hA (by omega)
    go_wp2
    go_ret
    exact ⟨rfl, rfl⟩

/-! ### The rows of cycle.next, in plain -/
def rowOf (l4 l5 : List (List Int)) (l : List S44) (i : Nat) : List Int := ((List.range l.length).filter fun k : Nat => aheadI l4 l5 (rd_T44 l i) (rd_T44 l k)).map fun k : Nat => (k : Int)
def nxF (l4 l5 : List (List Int)) (l : List S44) : List (List Int) := (List.range l.length).map (rowOf l4 l5 l)
theorem nxRow_set (l4 l5 : List (List Int)) (l : List S44) (i : Nat) (o : List (List Int)) (hi : i < o.length) (m : Nat) : nxRow l4 l5 l i m o = o.set i (rd_L1 o i ++ ((List.range m).filter fun k : Nat => aheadI l4 l5 (rd_T44 l i) (rd_T44 l k)).map fun k : Nat => (k : Int)) := by
  have hrd : ∀ x : List Int, rd_L1 (o.set i x) i = x := fun x => by
    unfold rd_L1
    rw [Int.toNat_natCast, List.getD_eq_getElem?_getD, List.getElem?_set_self hi]
    rfl
  induction m with
  | zero =>
    unfold nxRow rd_L1
    rw [Int.toNat_natCast, List.getD_eq_getElem?_getD, List.getElem?_eq_getElem hi]
    simp
  | succ m ih =>
    rw [nxRow_succ, ih, List.range_succ, List.filter_append, List.map_append]
    unfold nxStep
    by_cases h : aheadI l4 l5 (rd_T44 l i) (rd_T44 l m) = true
    · rw [if_pos h, hrd, List.set_set]
      simp [h, List.filter_cons]
    · rw [if_neg h]
      simp [h, List.filter_cons]
theorem nxTo_eq (l4 l5 : List (List Int)) (l : List S44) (j : Nat) (hj : j ≤ l.length) : nxTo l4 l5 l j = (List.range l.length).map fun i => if i < j then rowOf l4 l5 l i else [] := by
  induction j with
  | zero => simp [nxTo, List.map_const']
  | succ j ih =>
    rw [nxTo, ih (by omega), nxRow_set l4 l5 l j _ (by simp; omega)]
    apply List.ext_getElem?
    intro k
    rw [List.getElem?_set]
    have e : rd_L1 ((List.range l.length).map fun i => if i < j then rowOf l4 l5 l i else []) (j : Int) = [] := by
      unfold rd_L1
      rw [Int.toNat_natCast, List.getD_eq_getElem?_getD, List.getElem?_map, List.getElem?_range (by omega)]
      simp
    rw [e, List.nil_append]
    by_cases hk : j = k
    · subst hk
      rw [if_pos rfl, if_pos (by simp; omega), List.getElem?_map, List.getElem?_range (by omega)]
      simp [rowOf]
    · rw [if_neg hk]
      rcases Nat.lt_or_ge k l.length with h | h
      · rw [List.getElem?_map, List.getElem?_map, List.getElem?_range h]
        simp only [Option.map_some]
        by_cases h2 : k < j
        · rw [if_pos h2, if_pos (by omega)]
        · rw [if_neg h2, if_neg (by omega)]
      · rw [List.getElem?_eq_none (by simp; omega), List.getElem?_eq_none (by simp; omega)]
theorem nxF_eq (l4 l5 : List (List Int)) (l : List S44) : nxTo l4 l5 l l.length = nxF l4 l5 l := by
  rw [nxTo_eq l4 l5 l _ (Nat.le_refl _)]
  unfold nxF
  apply List.map_congr_left
  intro i hi
  rw [if_pos (List.mem_range.1 hi)]
theorem nxF_len (l4 l5 : List (List Int)) (l : List S44) : (nxF l4 l5 l).length = l.length := by simp [nxF]
theorem nxF_ok (l4 l5 : List (List Int)) (l : List S44) (h : l.length ≤ 100) : OkTo (nxF l4 l5 l) := by
  refine ⟨by rw [nxF_len]; exact h, fun row hrow => ?_⟩
  obtain ⟨i, hi, rfl⟩ := List.mem_map.1 hrow
  rw [nxF_len]
  refine ⟨?_, fun k hk => ?_⟩
  · unfold rowOf
    rw [List.length_map]
    refine Nat.le_trans (List.length_filter_le _ _) ?_
    rw [List.length_range]
    exact h
  · obtain ⟨m, hm, rfl⟩ := List.mem_map.1 hk
    have := List.mem_range.1 (List.mem_filter.1 hm).1
    omega
end Go.Proofs.Ytccngacadolgfaa.P
