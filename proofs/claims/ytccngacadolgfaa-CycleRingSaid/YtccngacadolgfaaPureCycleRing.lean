/- The pure statement of CycleRing: the ring, the order and the victim are the document's. Condition: the parameters are as the law's types say. -/
import Derived.Test.YtccngacadolgfaaOpCycleRing
import Derived.Test.YtccngacadolgfaaPureRef
set_option linter.unusedVariables false
set_option linter.unusedSimpArgs false
namespace Go.Proofs.Ytccngacadolgfaa.P
open Go.RowKit Go.Proofs.YtccngacadolgfaaW.PrintWords Go.Proofs.YtccngacadolgfaaW.PrintLast Go.Proofs.YtccngacadolgfaaW.PrintMore

theorem firstNE_or (l : List Int) (f : Int → List Int) : firstNE l f = [] ∨ ∃ x ∈ l, firstNE l f = f x := by
  unfold firstNE
  cases h : l.find? (fun x => decide (f x ≠ [])) with
  | none => exact .inl rfl
  | some x => exact .inr ⟨x, List.mem_of_find?_eq_some h, rfl⟩
theorem mem_nodes' {m : Nat} {x : Int} (h : x ∈ nodes m) : 0 ≤ x ∧ x < m := by
  obtain ⟨c, hc, rfl⟩ := List.mem_map.1 h
  have := List.mem_range.1 hc
  omega
theorem goesS_mem (m : Nat) (E : Int → Int → Bool) (dest low : Int) : ∀ (n : Nat) (way : List Int), (∀ x ∈ way, 0 ≤ x ∧ x < m) → ∀ x ∈ goesS m E dest low n way, 0 ≤ x ∧ x < m
  | 0, way, _, x, hx => by simp [goesS] at hx
  | 1, way, hw, x, hx => by
    unfold goesS at hx
    split at hx
    · exact hw x hx
    · simp at hx
  | n + 2, way, hw, x, hx => by
    unfold goesS at hx
    rcases firstNE_or (nodes m) (fun k => if low < k ∧ E (way.getLastD 0) k = true ∧ k ∉ way then goesS m E dest low (n + 1) (way ++ [k]) else []) with h | ⟨k, hk, h⟩
    · rw [h] at hx
      simp at hx
    · rw [h] at hx
      split at hx
      · refine goesS_mem m E dest low (n + 1) (way ++ [k]) (fun y hy => ?_) x hx
        rcases List.mem_append.1 hy with h1 | h1
        · exact hw y h1
        · rw [List.mem_singleton.1 h1]
          exact mem_nodes' hk
      · simp at hx
theorem best_mem {nx : List (List Int)} {m : Nat} {E : Int → Int → Bool} (h : Tab nx m E) {r : List Int} (hb : Best nx m E m r) : (∀ i ∈ r, 0 ≤ i ∧ i < m) ∧ r.length ≤ m := by
  rcases hb with ⟨rfl, _⟩ | ⟨i, n, hi, hd, hr, hl, _⟩
  · exact ⟨by simp, by simp⟩
  · refine ⟨fun x hx => ?_, by rw [hl]; exact dist_le h (by omega) (Int.le_refl _) hd⟩
    rw [hr] at hx
    exact goesS_mem m E i i n [(i : Int)] (fun y hy => by rw [List.mem_singleton.1 hy]; omega) x hx

/-! ### The victim -/
theorem fold_max (p : Int → Bool) : ∀ (r : List Int) (a : Int), a ≤ r.foldl (fun a i => if p i = true then a else max a i) a ∧ (r.foldl (fun a i => if p i = true then a else max a i) a = a ∨ (r.foldl (fun a i => if p i = true then a else max a i) a ∈ r ∧ p (r.foldl (fun a i => if p i = true then a else max a i) a) = false)) ∧ ∀ i ∈ r, p i = false → i ≤ r.foldl (fun a i => if p i = true then a else max a i) a
  | [], a => ⟨Int.le_refl _, .inl rfl, by simp⟩
  | x :: r, a => by
    rw [List.foldl_cons]
    obtain ⟨b, hb⟩ : ∃ b, b = (if p x = true then a else max a x) := ⟨_, rfl⟩
    obtain ⟨h1, h2, h3⟩ := fold_max p r b
    rw [← hb]
    have hab : a ≤ b := by rw [hb]; split <;> omega
    refine ⟨Int.le_trans hab h1, ?_, fun i hi hp => ?_⟩
    · rcases h2 with h2 | ⟨h2, h4⟩
      · by_cases hx : p x = true
        · rw [if_pos hx] at hb
          exact .inl (h2.trans hb)
        · rw [if_neg hx] at hb
          by_cases hm : a < x
          · refine .inr ?_
            have e : r.foldl (fun a i => if p i = true then a else max a i) b = x := by rw [h2]; omega
            rw [e]
            exact ⟨by simp, by simpa using hx⟩
          · refine .inl ?_
            rw [h2]
            omega
      · exact .inr ⟨List.mem_cons_of_mem _ h2, h4⟩
    · rcases List.mem_cons.1 hi with rfl | hi
      · rw [if_neg (by rw [hp]; decide)] at hb
        omega
      · exact h3 i hi hp
theorem sorted_rev (r : List Int) : (sortInts r).reverse.Pairwise (fun x y => y ≤ x) := by
  rw [List.pairwise_reverse]
  have h := List.pairwise_mergeSort (le := fun x y : Int => decide (x ≤ y)) (fun a b c h1 h2 => by simp at *; omega) (fun a b => by simp; omega) r
  exact h.imp (fun h => by simpa using h)
theorem vic_e (l : List S44) (r : List Int) (hr : ∀ i ∈ r, 0 ≤ i) : vicF l (sortInts r) = if 0 ≤ atTo l r r.length then some (atTo l r r.length) else none := by
  obtain ⟨a, ha⟩ : ∃ a, a = atTo l r r.length := ⟨_, rfl⟩
  obtain ⟨h1, h2, h3⟩ := fold_max (fun i => (rd_T44 l i).f1) r (-1)
  have ea : r.foldl (fun a i => if (rd_T44 l i).f1 = true then a else max a i) (-1) = a := by rw [ha]; unfold atTo; rw [List.take_length]
  try simp only at h1 h2 h3
  rw [ea] at h1 h2 h3
  rw [← ha]
  unfold vicF
  cases hf : (sortInts r).reverse.find? (fun i => !(rd_T44 l i).f1) with
  | none =>
    rw [List.find?_eq_none] at hf
    rcases h2 with h2 | ⟨h2, h4⟩
    · rw [if_neg (by omega)]
    · have := hf a (by rw [List.mem_reverse, sortInts_mem]; exact h2)
      rw [h4] at this
      exact absurd rfl this
  | some x =>
    obtain ⟨hp, xs, bs, he, hall⟩ := List.find?_eq_some_iff_append.1 hf
    have hxr : x ∈ r := by rw [← sortInts_mem, ← List.mem_reverse, he]; simp
    have hp' : (rd_T44 l x).f1 = false := by simpa using hp
    have hxa := h3 x hxr hp'
    have hx0 := hr x hxr
    rw [if_pos (by omega)]
    congr 1
    rcases h2 with h2 | ⟨h2, h4⟩
    · omega
    · have ham : a ∈ xs ++ x :: bs := by rw [← he, List.mem_reverse, sortInts_mem]; exact h2
      have hs := sorted_rev r
      rw [he, List.pairwise_append] at hs
      rcases List.mem_append.1 ham with h5 | h5
      · have := hall a h5
        rw [h4] at this
        exact absurd this (by decide)
      · rcases List.mem_cons.1 h5 with h6 | h6
        · exact h6.symm
        · have := (List.pairwise_cons.1 hs.2.1).1 a h6
          omega
theorem at_big (l : List S44) (r : List Int) (hr : ∀ i ∈ r, 0 ≤ i ∧ i < l.length) (j : Nat) : -1 ≤ atTo l r j ∧ (0 ≤ atTo l r j → atTo l r j < l.length) := by
  obtain ⟨h1, h2, h3⟩ := fold_max (fun i => (rd_T44 l i).f1) (r.take j) (-1)
  have ea : (r.take j).foldl (fun a i => if (rd_T44 l i).f1 = true then a else max a i) (-1) = atTo l r j := rfl
  try simp only at h1 h2 h3
  rw [ea] at h1 h2 h3
  refine ⟨h1, fun h => ?_⟩
  rcases h2 with h2 | ⟨h2, _⟩
  · omega
  · exact (hr _ (List.mem_of_mem_take h2)).2

theorem good_e {l4 l5 : List (List Int)} (m4 : ∀ i, (rd_L1 l4 i).length ≤ 1000) (m5 : ∀ i, (rd_L1 l5 i).length ≤ 1000) (l : List S44) (hl : l.length ≤ 60) : ∃ k s r o, CrGood l4 l5 l k s r o := by
  have hT := tab_nx l4 l5 l (by omega)
  have hE := tabE_self l4 l5 l
  have ht : l.take 64 = l := List.take_of_length_le (by omega)
  have hr := rings_ref hT hE
  have ho := ord_ref hT hE
  obtain ⟨b, hb, hB⟩ := rings_val hT l.length (Nat.le_refl _)
  rw [hr] at hb
  cases hb
  obtain ⟨hmem, hlen⟩ := best_mem hT hB
  obtain ⟨k1, e1⟩ := items_e l (by omega)
  obtain ⟨k2, e2⟩ := ring_e m4 m5 l (by omega)
  obtain ⟨k3, e3⟩ := order_e m4 m5 l (by omega)
  obtain ⟨k4, e4⟩ := same_e (refRing l.length (tabE l4 l5 l)) (by omega)
  have hro : l ≠ [] → (refRing l.length (tabE l4 l5 l) = [] → (refOrd l.length (tabE l4 l5 l) l.length []).length = l.length) ∧ (refRing l.length (tabE l4 l5 l) ≠ [] → refOrd l.length (tabE l4 l5 l) l.length [] = []) := fun hne => ring_order hT (List.length_pos_iff.2 hne) hr
  have hol : (refOrd l.length (tabE l4 l5 l) l.length []).length ≤ 9223372036854775807 := by
    by_cases hne : l = []
    · rw [hne]; simp [refOrd]
    · by_cases h0 : refRing l.length (tabE l4 l5 l) = []
      · rw [(hro hne).1 h0]; omega
      · rw [(hro hne).2 h0]; simp
  obtain ⟨k5, e5⟩ := same_e _ hol
  refine ⟨max (max k1 k2) (max k3 (max k4 k5)), l.map cv, refRing l.length (tabE l4 l5 l), refOrd l.length (tabE l4 l5 l) l.length [], ?_⟩
  exact {
    it := e1 _ (by omega)
    rf := by rw [ht]; exact hr
    rr := e2 _ (by omega)
    of := by rw [ht]; exact ho
    ro := e3 _ (by omega)
    sr := e4 _ (by omega)
    so := e5 _ (by omega)
    mem := hmem
    rl := by omega
    iff := fun hne => ⟨fun h0 h1 => by
      have := (hro hne).1 h0
      rw [h1] at this
      exact hne (List.eq_nil_of_length_eq_zero this.symm), fun h1 => Classical.byContradiction fun h0 => h1 ((hro hne).2 h0)⟩
    m4 := m4
    m5 := m5
    vic := vic_e l _ (fun i hi => (hmem i hi).1)
    big := fun j _ => at_big l _ hmem j }
theorem rows_le (l : List (List Int)) (h : ∀ j : Nat, 0 ≤ j → j < l.length → (rd_L1 l j).length ≤ 100) (i : Int) : (rd_L1 l i).length ≤ 1000 := by
  rcases Nat.lt_or_ge i.toNat l.length with h1 | h1
  · have := h i.toNat (by omega) h1
    unfold rd_L1 at *
    rw [Int.toNat_natCast] at this
    omega
  · unfold rd_L1
    rw [List.getD_eq_getElem?_getD, List.getElem?_eq_none h1]
    simp
theorem Pure.CycleRing : CycleRing.Pure := by
  intro x0 x1 hw hw1
  have h4 : x0.f4.length ≤ maxLen := hw.2.2.2.2.1.1
  have h5 : x0.f5.length ≤ maxLen := hw.2.2.2.2.2.1.1
  have h1 := hw1.1
  unfold maxLen at h4 h5 h1
  obtain ⟨fw, ⟨k1, e1⟩, hB⟩ := few_l0 (l0 := x0.f0) (l1 := x0.f1) (l2 := x0.f2) (l3 := x0.f3) (l4 := x0.f4) (l5 := x0.f5) (l6 := x0.f6) (l7 := x0.f7) (l8 := x0.f8) (l9 := x0.f9) (by omega) (by omega) x0.f4.length 0 (by omega) (by omega)
  obtain ⟨u, ⟨k2, e2⟩⟩ := units_l0 (l0 := x0.f0) (l1 := x0.f1) (l2 := x0.f2) (l3 := x0.f3) (l4 := x0.f4) (l5 := x0.f5) (l6 := x0.f6) (l7 := x0.f7) (l8 := x0.f8) (l9 := x0.f9) x1 (by omega) x1.length 0 (by omega) (by omega)
  refine ⟨max k1 k2, fw, e1 _ (by omega), fun hfw h8 => ⟨u, e2 _ (by omega), fun _ => ?_⟩⟩
  obtain ⟨a4, a5, _⟩ := hB hfw
  exact good_e (rows_le _ a4) (rows_le _ a5) x1 (by omega)
end Go.Proofs.Ytccngacadolgfaa.P
