/- Plain laws of jobs, unit by unit: what is sorted and whole of some units is what is sorted and whole, of those units; which types merge. No condition beyond each theorem's own. -/
import Derived.Test.YthbpjlfpfpcpbaaJobsP
set_option linter.unusedVariables false
set_option linter.unusedSimpArgs false
namespace Go.Proofs.Ythbpjlfpfpcpbaa.P
open Go.Sort

/-! ### a map's filter -/
theorem get_filter (q : S24 → Bool) (j : S24) (h : q j = true) : ∀ m : List (S24 × Bool), Mp.get (m.filter fun p => q p.1) j = Mp.get m j
  | [] => rfl
  | p :: m => by
    by_cases hp : q p.1 = true
    · rw [List.filter_cons_of_pos (by simpa using hp), Mp.get_cons, Mp.get_cons, get_filter q j h m]
    · rw [List.filter_cons_of_neg (by simpa using hp), Mp.get_cons, get_filter q j h m, if_neg]
      intro e
      rw [← e] at hp
      exact hp h
theorem put_filter (q : S24 → Bool) (j : S24) (b : Bool) : ∀ m : List (S24 × Bool), (Mp.put m j b).filter (fun p => q p.1) = if q j = true then Mp.put (m.filter fun p => q p.1) j b else m.filter fun p => q p.1
  | [] => by
    by_cases h : q j = true
    · simp [Mp.put, h]
    · simp [Mp.put, h]
  | p :: m => by
    have ih := put_filter q j b m
    by_cases he : j = p.1
    · subst he
      by_cases h : q p.1 = true
      · simp [Mp.put, h]
      · simp [Mp.put, h]
    · simp only [Mp.put, if_neg he]
      by_cases hp : q p.1 = true
      · rw [List.filter_cons_of_pos (by simpa using hp), List.filter_cons_of_pos (by simpa using hp), ih]
        by_cases h : q j = true
        · simp [h, Mp.put, he]
        · simp [h]
      · rw [List.filter_cons_of_neg (by simpa using hp), List.filter_cons_of_neg (by simpa using hp), ih]
theorem mustOf_filter (q : S24 → Bool) (l : List S26) : mustOf (l.filter fun x => q x.f0) = (mustOf l).filter fun p => q p.1 := by
  refine snoc_ind (p := fun l => mustOf (l.filter fun x => q x.f0) = (mustOf l).filter fun p => q p.1) rfl (fun l x ih => ?_) l
  rw [List.filter_append, mustOf_snoc, put_filter]
  by_cases h : q x.f0 = true
  · rw [if_pos h]
    have e : [x].filter (fun x => q x.f0) = [x] := by simp [h]
    rw [e, mustOf_snoc, ih, get_filter q _ h]
  · rw [if_neg h]
    have e : [x].filter (fun x => q x.f0) = [] := by simp [h]
    rw [e, List.append_nil, ih]
theorem sortJobs_filter (q : S24 → Bool) (l : List S24) : (sortJobs l).filter q = sortJobs (l.filter q) :=
  sorted_unique (((sortJobs_perm' l).filter q).trans (sortJobs_perm' _).symm) ((sortJobs_sorted l).filter q) (sortJobs_sorted _)
theorem sortedF_filter (q : S24 → Bool) (l : List S26) : (sortedF l).filter (fun x => q x.f0) = sortedF (l.filter fun x => q x.f0) := by
  unfold sortedF
  rw [mustOf_filter]
  have e : Mp.keys ((mustOf l).filter fun p => q p.1) = (Mp.keys (mustOf l)).filter q := by
    simp [Mp.keys, List.filter_map, Function.comp_def]
  rw [e, ← sortJobs_filter]
  generalize sortJobs (Mp.keys (mustOf l)) = js
  induction js with
  | nil => rfl
  | cons j js ih =>
    by_cases h : q j = true
    · simp [h, get_filter q j h, ih]
    · simp [h, ih]

/-! ### sorted by units -/
def ByUnit (s : List S26) : Prop := s.Pairwise fun x y => x.f0.f0 ≤ y.f0.f0
theorem sortedF_jobs (l : List S26) : (sortedF l).map (·.f0) = sortJobs (Mp.keys (mustOf l)) := by simp [sortedF, Function.comp_def]
theorem sortedF_byUnit (l : List S26) : ByUnit (sortedF l) := by
  have h := sortJobs_sorted (Mp.keys (mustOf l))
  rw [← sortedF_jobs, List.pairwise_map] at h
  exact h.imp (fun {a b} hab => by rw [leJ_iff] at hab; omega)
theorem unit_split (u : Int) : ∀ (s : List S26), ByUnit s → (∀ x ∈ s, u ≤ x.f0.f0) → (∀ y ∈ s.take (unitLen u s), y.f0.f0 = u) ∧ ∀ y ∈ s.drop (unitLen u s), y.f0.f0 ≠ u
  | [], _, _ => by simp
  | x :: s, h, hu => by
    have h' := List.pairwise_cons.1 h
    by_cases hx : x.f0.f0 = u
    · have e : unitLen u (x :: s) = unitLen u s + 1 := by simp [unitLen, List.takeWhile_cons, hx]
      obtain ⟨i1, i2⟩ := unit_split u s h'.2 (fun y hy => hu y (by simp [hy]))
      rw [e]
      refine ⟨fun y hy => ?_, fun y hy => i2 y (by simpa using hy)⟩
      rw [List.take_succ_cons] at hy
      rcases List.mem_cons.1 hy with rfl | hy
      · exact hx
      · exact i1 y hy
    · have e : unitLen u (x :: s) = 0 := by simp [unitLen, List.takeWhile_cons, hx]
      rw [e]
      refine ⟨by simp, fun y hy => ?_⟩
      have hxu := hu x (by simp)
      rcases List.mem_cons.1 (by simpa using hy) with rfl | hy
      · exact hx
      · have := h'.1 y hy
        omega
theorem unitLen_append (u : Int) : ∀ (a b : List S26), (∀ y ∈ a, y.f0.f0 = u) → (∀ y ∈ b, y.f0.f0 ≠ u) → unitLen u (a ++ b) = a.length
  | [], b, _, h2 => by
    cases b with
    | nil => rfl
    | cons y b => simp [unitLen, List.takeWhile_cons, h2 y (by simp)]
  | x :: a, b, h1, h2 => by
    have hx := h1 x (by simp)
    have ih := unitLen_append u a b (fun y hy => h1 y (by simp [hy])) h2
    unfold unitLen at ih ⊢
    simp [List.takeWhile_cons, hx] at ih ⊢
    exact ih
theorem wholeGo_filter (p : Int → Bool) : ∀ (k : Nat) (s out : List S26) (bad : List S24), s.length ≤ k → ByUnit s →
    (wholeGo k s out bad).1.filter (fun x => p x.f0.f0) = (wholeGo k (s.filter fun x => p x.f0.f0) (out.filter fun x => p x.f0.f0) (bad.filter fun x => p x.f0)).1 ∧
    (wholeGo k s out bad).2.filter (fun x => p x.f0) = (wholeGo k (s.filter fun x => p x.f0.f0) (out.filter fun x => p x.f0.f0) (bad.filter fun x => p x.f0)).2
  | 0, s, out, bad, hl, _ => by
    obtain rfl : s = [] := List.eq_nil_of_length_eq_zero (by omega)
    exact ⟨rfl, rfl⟩
  | k + 1, [], out, bad, _, _ => ⟨rfl, rfl⟩
  | k + 1, x :: s, out, bad, hl, hs => by
    have hp := unitLen_pos x s
    have hs' := List.pairwise_cons.1 hs
    obtain ⟨h1, h2⟩ := unit_split x.f0.f0 (x :: s) hs (fun y hy => by
      rcases List.mem_cons.1 hy with rfl | hy
      · exact Int.le_refl _
      · exact hs'.1 y hy)
    obtain ⟨n, hn⟩ : ∃ n, n = unitLen x.f0.f0 (x :: s) := ⟨_, rfl⟩
    rw [← hn] at h1 h2 hp
    have hdl : ((x :: s).drop n).length ≤ k := by simp at hl ⊢; omega
    have hds : ByUnit ((x :: s).drop n) := List.Pairwise.sublist (List.drop_sublist _ _) hs
    have ih := fun o b => wholeGo_filter p k ((x :: s).drop n) o b hdl hds
    have hsplit : (x :: s).filter (fun x => p x.f0.f0) = ((x :: s).take n).filter (fun x => p x.f0.f0) ++ ((x :: s).drop n).filter (fun x => p x.f0.f0) := by
      rw [← List.filter_append, List.take_append_drop]
    by_cases hpx : p x.f0.f0 = true
    · have ht : ((x :: s).take n).filter (fun x => p x.f0.f0) = (x :: s).take n := by
        rw [List.filter_eq_self]
        intro y hy
        rw [h1 y hy]
        exact hpx
      have htj : (((x :: s).take n).map (·.f0)).filter (fun x => p x.f0) = ((x :: s).take n).map (·.f0) := by
        rw [List.filter_eq_self]
        intro y hy
        obtain ⟨z, hz, rfl⟩ := List.mem_map.1 hy
        rw [h1 z hz]
        exact hpx
      obtain ⟨n', hn'⟩ : ∃ n', n = n' + 1 := ⟨n - 1, by omega⟩
      have hf : (x :: s).filter (fun x => p x.f0.f0) = x :: (s.filter fun x => p x.f0.f0) := by simp [hpx]
      have hlen : ((x :: s).take n).length = n := by
        rw [List.length_take, hn]
        have := unitLen_le x.f0.f0 (x :: s)
        omega
      have hul : unitLen x.f0.f0 (x :: (s.filter fun x => p x.f0.f0)) = n := by
        rw [← hf, hsplit, ht, unitLen_append x.f0.f0 _ _ h1 (fun y hy => h2 y (List.mem_filter.1 hy).1), hlen]
      have htk : (x :: (s.filter fun x => p x.f0.f0)).take n = (x :: s).take n := by
        rw [← hf, hsplit, ht, List.take_append_of_le_length (by omega), List.take_of_length_le (by omega)]
      have hdk : (x :: (s.filter fun x => p x.f0.f0)).drop n = ((x :: s).drop n).filter fun x => p x.f0.f0 := by
        rw [← hf, hsplit, ht]
        exact List.drop_left' hlen
      rw [hf]
      simp only [wholeGo, ← hn, hul, htk, hdk]
      split
      · obtain ⟨i1, i2⟩ := ih (out ++ [⟨⟨x.f0.f0, (mergeG x ((x :: s).take n)).1⟩, (mergeG x ((x :: s).take n)).2.1⟩]) bad
        rw [i1, i2]
        simp [hpx]
      · obtain ⟨i1, i2⟩ := ih out (bad ++ ((x :: s).take n).map (·.f0))
        rw [i1, i2, List.filter_append, htj]
        exact ⟨rfl, rfl⟩
    · have ht : ((x :: s).take n).filter (fun x => p x.f0.f0) = [] := by
        rw [List.filter_eq_nil_iff]
        intro y hy
        rw [h1 y hy]
        exact hpx
      have htj : (((x :: s).take n).map (·.f0)).filter (fun x => p x.f0) = [] := by
        rw [List.filter_eq_nil_iff]
        intro y hy
        obtain ⟨z, hz, rfl⟩ := List.mem_map.1 hy
        rw [h1 z hz]
        exact hpx
      rw [hsplit, ht, List.nil_append]
      have hfu : ∀ o b, wholeGo (k + 1) (((x :: s).drop n).filter fun x => p x.f0.f0) o b = wholeGo k (((x :: s).drop n).filter fun x => p x.f0.f0) o b := fun o b => by
        have hfl := List.length_filter_le (fun x : S26 => p x.f0.f0) ((x :: s).drop n)
        exact wholeGo_fuel _ _ _ _ _ (Nat.le_trans hfl (Nat.le_succ_of_le hdl)) (Nat.le_trans hfl hdl)
      rw [hfu]
      simp only [wholeGo, ← hn]
      split
      · obtain ⟨i1, i2⟩ := ih (out ++ [⟨⟨x.f0.f0, (mergeG x ((x :: s).take n)).1⟩, (mergeG x ((x :: s).take n)).2.1⟩]) bad
        rw [i1, i2]
        simp [hpx]
      · obtain ⟨i1, i2⟩ := ih out (bad ++ ((x :: s).take n).map (·.f0))
        rw [i1, i2, List.filter_append, htj, List.append_nil]
        exact ⟨rfl, rfl⟩
theorem wholeF_filter (p : Int → Bool) (l : List S26) : (wholeF l).1.filter (fun x => p x.f0.f0) = (wholeF (l.filter fun x => p x.f0.f0)).1 ∧ (wholeF l).2.filter (fun x => p x.f0) = (wholeF (l.filter fun x => p x.f0.f0)).2 := by
  unfold wholeF
  have h := wholeGo_filter p (sortedF l).length (sortedF l) [] [] (Nat.le_refl _) (sortedF_byUnit l)
  have e := sortedF_filter (fun j => p j.f0) l
  have hl : (sortedF (l.filter fun x => p x.f0.f0)).length ≤ (sortedF l).length := by
    rw [← e]
    exact List.length_filter_le _ _
  simp only [List.filter_nil] at h
  rw [h.1, h.2, e, wholeGo_fuel (sortedF l).length _ _ _ _ hl (Nat.le_refl _)]
  exact ⟨rfl, rfl⟩

/-! ### one unit -/
theorem wholeGo_one (u : Int) (x : S26) (s : List S26) (h : ∀ y ∈ x :: s, y.f0.f0 = u) : wholeGo (x :: s).length (x :: s) [] [] = if (mergeG x (x :: s)).2.2 = true then ([⟨⟨u, (mergeG x (x :: s)).1⟩, (mergeG x (x :: s)).2.1⟩], []) else ([], (x :: s).map (·.f0)) := by
  have hx := h x (by simp)
  have hn : unitLen x.f0.f0 (x :: s) = (x :: s).length := by
    have := unitLen_append x.f0.f0 (x :: s) [] (fun y hy => by rw [hx]; exact h y hy) (by simp)
    simpa using this
  rw [List.length_cons]
  simp only [wholeGo, hn, List.take_length, List.drop_length]
  have e : ∀ k o b, wholeGo k [] o b = (o, b) := fun k o b => by cases k <;> rfl
  rw [e, e, hx]
  split <;> simp
/-- All are types, and Stop only with Stop. -/
def OkT (t : Int) (s : List S26) : Prop := known t = true ∧ ∀ y ∈ s, known y.f0.f1 = true ∧ (y.f0.f1 = 2 ↔ t = 2)
theorem mergeS_false (s : List S26) : ∀ st : Int × Bool × Bool, st.2.2 = false → (s.foldl mergeS st).2.2 = false := by
  induction s with
  | nil => exact fun st h => h
  | cons y s ih =>
    intro st h
    rw [List.foldl_cons]
    exact ih _ (by simp [mergeS, h])
theorem mergeT_ok (a b : Int) (ha : known a = true) : (mergeT a b).2 = true ↔ known b = true ∧ (b = 2 ↔ a = 2) := by
  unfold mergeT
  by_cases hb : known b = true
  · rw [if_pos ⟨ha, hb⟩]
    simp only [known, Bool.and_eq_true, decide_eq_true_eq] at ha hb ⊢
    have h1 : a = 1 ∨ a = 2 ∨ a = 3 := by omega
    have h2 : b = 1 ∨ b = 2 ∨ b = 3 := by omega
    rcases h1 with rfl | rfl | rfl <;> rcases h2 with rfl | rfl | rfl <;> simp
  · rw [if_neg (fun h => hb h.2)]
    simp [hb]
theorem mergeT_type (a b : Int) (ha : known a = true) (h : (mergeT a b).2 = true) : known (mergeT a b).1 = true ∧ ((mergeT a b).1 = 2 ↔ a = 2) ∧ (mergeT a b).1 = max a b := by
  obtain ⟨hb, h2⟩ := (mergeT_ok a b ha).1 h
  unfold mergeT
  rw [if_pos ⟨ha, hb⟩]
  simp only [known, Bool.and_eq_true, decide_eq_true_eq] at ha hb ⊢
  have h3 : a = 1 ∨ a = 2 ∨ a = 3 := by omega
  have h4 : b = 1 ∨ b = 2 ∨ b = 3 := by omega
  rcases h3 with rfl | rfl | rfl <;> rcases h4 with rfl | rfl | rfl <;> simp at h2 ⊢ <;> decide
theorem merge_ok : ∀ (s : List S26) (t : Int) (m : Bool), known t = true → ((s.foldl mergeS (t, m, true)).2.2 = true ↔ ∀ y ∈ s, known y.f0.f1 = true ∧ (y.f0.f1 = 2 ↔ t = 2))
  | [], t, m, _ => by simp
  | y :: s, t, m, ht => by
    rw [List.foldl_cons]
    by_cases hk : (mergeT t y.f0.f1).2 = true
    · obtain ⟨h1, h2, _⟩ := mergeT_type t y.f0.f1 ht hk
      have e : mergeS (t, m, true) y = ((mergeT t y.f0.f1).1, m || y.f1, true) := by simp [mergeS, hk]
      rw [e, merge_ok s _ _ h1]
      simp only [List.mem_cons, forall_eq_or_imp, h2]
      exact ⟨fun h => ⟨(mergeT_ok _ _ ht).1 hk, h⟩, fun h => h.2⟩
    · have e : (mergeS (t, m, true) y).2.2 = false := by simp [mergeS, hk]
      rw [mergeS_false s _ e]
      simp only [Bool.false_eq_true, false_iff]
      intro h
      exact hk ((mergeT_ok _ _ ht).2 (h y (by simp)))
theorem mergeG_ok (x : S26) (s : List S26) : (mergeG x s).2.2 = true ↔ OkT x.f0.f1 s := by
  unfold mergeG OkT
  by_cases hk : known x.f0.f1 = true
  · rw [hk, merge_ok s _ _ hk]
    simp
  · have : known x.f0.f1 = false := by simpa using hk
    rw [this, mergeS_false s _ rfl]
    simp
end Go.Proofs.Ythbpjlfpfpcpbaa.P
