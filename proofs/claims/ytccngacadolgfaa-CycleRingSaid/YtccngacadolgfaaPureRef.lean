/- The document's functions of layer 23, as printed, by what they answer: few, units, items, SameInts, has, Ahead, table. Conditions: lengths within bounds. The document's ring and order of layer 23, as printed, by what they answer: refRing and refOrd. Conditions: at most 500 items. -/
import Derived.Test.YtccngacadolgfaaPureTab
import Derived.Test.YtccngacadolgfaaQ1
import Derived.Test.YtccngacadolgfaaQ5
import Derived.Test.YtccngacadolgfaaQ6
set_option linter.unusedVariables false
set_option linter.unusedSimpArgs false
namespace Go.Proofs.Ytccngacadolgfaa.P
open Go.RowKit Go.Proofs.YtccngacadolgfaaW.PrintWords Go.Proofs.YtccngacadolgfaaW.PrintLast Go.Proofs.YtccngacadolgfaaW.PrintMore

/-- From some fuel on the answer is r. -/
def Evt {α : Type} (f : Nat → Option α) (r : α) : Prop := ∃ k0, ∀ k, k0 ≤ k → f k = some r
theorem Evt.now {α : Type} (r : α) : Evt (fun _ => some r) r := ⟨0, fun _ _ => rfl⟩
theorem Evt.step {α : Type} {f g : Nat → Option α} {r : α} (h : Evt g r) (e : ∀ k, f (k + 1) = g k) : Evt f r := by
  obtain ⟨k0, h⟩ := h
  refine ⟨k0 + 1, fun k hk => ?_⟩
  obtain ⟨j, rfl⟩ : ∃ j, k = j + 1 := ⟨k - 1, by omega⟩
  rw [e, h j (by omega)]
theorem Evt.of {α : Type} {f g : Nat → Option α} {r : α} (h : Evt g r) (e : ∀ k, f k = g k) : Evt f r := by
  obtain ⟨k0, h⟩ := h
  exact ⟨k0, fun k hk => by rw [e, h k hk]⟩
theorem Evt.bind {α β : Type} {f : Nat → Option α} {g : Nat → α → Option β} {a : α} {b : β} (hf : Evt f a) (hg : Evt (fun k => g k a) b) : Evt (fun k => (f k).bind (g k)) b := by
  obtain ⟨k0, hf⟩ := hf
  obtain ⟨k1, hg⟩ := hg
  exact ⟨max k0 k1, fun k hk => by show (f k).bind (g k) = _; rw [hf k (by omega)]; exact hg k (by omega)⟩
theorem Evt.get {α : Type} {f : Nat → Option α} {r : α} (h : Evt f r) : ∃ k, f k = some r := by
  obtain ⟨k0, h⟩ := h
  exact ⟨k0, h k0 (Nat.le_refl _)⟩
theorem w64 (i n : Nat) (h : i < n) (hn : n ≤ 9223372036854775807) : wrap64 ((i : Int) + 1) = ((i + 1 : Nat) : Int) := by
  unfold wrap64
  omega

section few
variable {l0 l1 l2 l3 l4 l5 l6 l7 l8 l9 : List (List Int)}
theorem few_l1 (h5 : l5.length ≤ 9223372036854775807) : ∀ (n i : Nat), l5.length - i ≤ n → i ≤ l5.length → ∃ b, Evt (fun k => clepsydralaw23_few.l1 k i l0 l1 l2 l3 l4 l5 l6 l7 l8 l9) b ∧ (b = true → (∀ j : Nat, i ≤ j → j < l5.length → (rd_L1 l5 j).length ≤ 100) ∧ l4.length ≤ 100 ∧ l5.length ≤ 100) := by
  intro n
  induction n with
  | zero =>
    intro i h1 h2
    by_cases h : l4.length ≤ 100
    · refine ⟨decide ((l5.length : Int) ≤ 100), Evt.step (Evt.now _) (fun k => ?_), fun hb => ⟨fun j h3 h4 => by omega, h, by have := of_decide_eq_true hb; omega⟩⟩
      rw [clepsydralaw23_few.l1, if_neg (by omega), if_pos (by omega)]
    · refine ⟨false, Evt.step (Evt.now _) (fun k => ?_), fun hb => by cases hb⟩
      rw [clepsydralaw23_few.l1, if_neg (by omega), if_neg (by omega)]
  | succ n ih =>
    intro i h1 h2
    by_cases hlt : i < l5.length
    · by_cases hr : (rd_L1 l5 i).length ≤ 100
      · obtain ⟨b, hb, hB⟩ := ih (i + 1) (by omega) (by omega)
        refine ⟨b, Evt.step hb (fun k => ?_), fun e => ⟨fun j h3 h4 => ?_, (hB e).2⟩⟩
        · rw [clepsydralaw23_few.l1, if_pos (by omega), if_pos (by omega), if_neg (by omega), w64 i _ hlt h5]
        · rcases Nat.eq_or_lt_of_le h3 with rfl | h
          · exact hr
          · exact (hB e).1 j h h4
      · refine ⟨false, Evt.step (Evt.now _) (fun k => ?_), fun hb => by cases hb⟩
        rw [clepsydralaw23_few.l1, if_pos (by omega), if_pos (by omega), if_pos (by omega)]
    · by_cases h : l4.length ≤ 100
      · refine ⟨decide ((l5.length : Int) ≤ 100), Evt.step (Evt.now _) (fun k => ?_), fun hb => ⟨fun j h3 h4 => by omega, h, by have := of_decide_eq_true hb; omega⟩⟩
        rw [clepsydralaw23_few.l1, if_neg (by omega), if_pos (by omega)]
      · refine ⟨false, Evt.step (Evt.now _) (fun k => ?_), fun hb => by cases hb⟩
        rw [clepsydralaw23_few.l1, if_neg (by omega), if_neg (by omega)]
theorem few_l0 (h4 : l4.length ≤ 9223372036854775807) (h5 : l5.length ≤ 9223372036854775807) : ∀ (n i : Nat), l4.length - i ≤ n → i ≤ l4.length → ∃ b, Evt (fun k => clepsydralaw23_few.l0 k i l0 l1 l2 l3 l4 l5 l6 l7 l8 l9) b ∧ (b = true → (∀ j : Nat, i ≤ j → j < l4.length → (rd_L1 l4 j).length ≤ 100) ∧ (∀ j : Nat, 0 ≤ j → j < l5.length → (rd_L1 l5 j).length ≤ 100) ∧ l4.length ≤ 100 ∧ l5.length ≤ 100) := by
  intro n
  induction n with
  | zero =>
    intro i h1 h2
    obtain ⟨b, hb, hB⟩ := few_l1 (l0 := l0) (l1 := l1) (l2 := l2) (l3 := l3) (l4 := l4) (l5 := l5) (l6 := l6) (l7 := l7) (l8 := l8) (l9 := l9) h5 l5.length 0 (by omega) (by omega)
    refine ⟨b, Evt.step hb (fun k => ?_), fun e => ⟨fun j h3 h4 => by omega, hB e⟩⟩
    rw [clepsydralaw23_few.l0, if_neg (by omega)]
    rfl
  | succ n ih =>
    intro i h1 h2
    by_cases hlt : i < l4.length
    · by_cases hr : (rd_L1 l4 i).length ≤ 100
      · obtain ⟨b, hb, hB⟩ := ih (i + 1) (by omega) (by omega)
        refine ⟨b, Evt.step hb (fun k => ?_), fun e => ⟨fun j h3 h4 => ?_, (hB e).2⟩⟩
        · rw [clepsydralaw23_few.l0, if_pos (by omega), if_pos (by omega), if_neg (by omega), w64 i _ hlt h4]
        · rcases Nat.eq_or_lt_of_le h3 with rfl | h
          · exact hr
          · exact (hB e).1 j h h4
      · refine ⟨false, Evt.step (Evt.now _) (fun k => ?_), fun hb => by cases hb⟩
        rw [clepsydralaw23_few.l0, if_pos (by omega), if_pos (by omega), if_pos (by omega)]
    · obtain ⟨b, hb, hB⟩ := few_l1 (l0 := l0) (l1 := l1) (l2 := l2) (l3 := l3) (l4 := l4) (l5 := l5) (l6 := l6) (l7 := l7) (l8 := l8) (l9 := l9) h5 l5.length 0 (by omega) (by omega)
      refine ⟨b, Evt.step hb (fun k => ?_), fun e => ⟨fun j h3 h4 => by omega, hB e⟩⟩
      rw [clepsydralaw23_few.l0, if_neg (by omega)]
      rfl
theorem units_l0 (l : List S44) (hl : l.length ≤ 9223372036854775807) : ∀ (n i : Nat), l.length - i ≤ n → i ≤ l.length → ∃ b, Evt (fun k => clepsydralaw23_units.l0 k l i l0 l1 l2 l3 l4 l5 l6 l7 l8 l9) b := by
  intro n
  induction n with
  | zero =>
    intro i h1 h2
    refine ⟨true, Evt.step (Evt.now _) (fun k => ?_)⟩
    rw [clepsydralaw23_units.l0, if_neg (by omega)]
  | succ n ih =>
    intro i h1 h2
    by_cases hlt : i < l.length
    · by_cases a1 : (rd_T44 l i).f0.f0 < 0
      · refine ⟨false, Evt.step (Evt.now _) (fun k => ?_)⟩
        rw [clepsydralaw23_units.l0, if_pos (by omega), if_pos (by omega), if_pos a1]
      · by_cases a2 : (rd_T44 l i).f0.f0 ≥ (l4.length : Int)
        · refine ⟨false, Evt.step (Evt.now _) (fun k => ?_)⟩
          rw [clepsydralaw23_units.l0, if_pos (by omega), if_pos (by omega), if_neg a1, if_pos a2]
        · by_cases a3 : (rd_T44 l i).f0.f0 ≥ (l5.length : Int)
          · refine ⟨false, Evt.step (Evt.now _) (fun k => ?_)⟩
            rw [clepsydralaw23_units.l0, if_pos (by omega), if_pos (by omega), if_neg a1, if_neg a2, if_pos a3]
          · obtain ⟨b, hb⟩ := ih (i + 1) (by omega) (by omega)
            refine ⟨b, Evt.step hb (fun k => ?_)⟩
            rw [clepsydralaw23_units.l0, if_pos (by omega), if_pos (by omega), if_neg a1, if_neg a2, if_neg a3, w64 i _ hlt hl]
    · refine ⟨true, Evt.step (Evt.now _) (fun k => ?_)⟩
      rw [clepsydralaw23_units.l0, if_neg (by omega)]
end few

def cv (x : S44) : S49 := ⟨x.f0.f0, x.f0.f1, x.f1⟩
theorem items_l0 (l : List S44) (hl : l.length ≤ 1000) : ∀ (n i : Nat) (out : List S49), l.length - i ≤ n → i ≤ l.length → out.length ≤ i → Evt (fun k => clepsydralaw23_items.l0 k l out i) (out ++ (l.drop i).map cv) := by
  intro n
  induction n with
  | zero =>
    intro i out h1 h2 h3
    rw [List.drop_of_length_le (by omega), List.map_nil, List.append_nil]
    refine Evt.step (Evt.now _) (fun k => ?_)
    rw [clepsydralaw23_items.l0, if_neg (by omega)]
  | succ n ih =>
    intro i out h1 h2 h3
    by_cases hlt : i < l.length
    · have hd : l.drop i = l[i] :: l.drop (i + 1) := List.drop_eq_getElem_cons hlt
      have hx : rd_T44 l i = l[i] := by unfold rd_T44; rw [Int.toNat_natCast, List.getD_eq_getElem?_getD, List.getElem?_eq_getElem hlt]; rfl
      have := ih (i + 1) (out ++ [cv l[i]]) (by omega) (by omega) (by simp; omega)
      rw [hd, List.map_cons, show out ++ cv l[i] :: (l.drop (i + 1)).map cv = (out ++ [cv l[i]]) ++ (l.drop (i + 1)).map cv by simp]
      refine Evt.step this (fun k => ?_)
      rw [clepsydralaw23_items.l0, if_pos (by omega), if_pos (by omega), if_pos (by omega), hx, w64 i _ hlt (by omega)]
      rfl
    · rw [List.drop_of_length_le (by omega), List.map_nil, List.append_nil]
      refine Evt.step (Evt.now _) (fun k => ?_)
      rw [clepsydralaw23_items.l0, if_neg (by omega)]
theorem items_e (l : List S44) (hl : l.length ≤ 1000) : Evt (fun k => clepsydralaw23_items.f k l) (l.map cv) := by
  have := items_l0 l hl l.length 0 [] (by omega) (by omega) (by simp)
  exact this
theorem same_l0 (l : List Int) (hl : l.length ≤ 9223372036854775807) : ∀ (n i : Nat), l.length - i ≤ n → i ≤ l.length → Evt (fun k => clepsydrakit_SameInts.l0 k l l i) true := by
  intro n
  induction n with
  | zero =>
    intro i h1 h2
    refine Evt.step (Evt.now _) (fun k => ?_)
    rw [clepsydrakit_SameInts.l0, if_neg (by omega)]
  | succ n ih =>
    intro i h1 h2
    by_cases hlt : i < l.length
    · refine Evt.step (ih (i + 1) (by omega) (by omega)) (fun k => ?_)
      rw [clepsydrakit_SameInts.l0, if_pos (by omega), if_pos (by omega), if_pos (by omega), if_pos rfl, w64 i _ hlt hl]
    · refine Evt.step (Evt.now _) (fun k => ?_)
      rw [clepsydrakit_SameInts.l0, if_neg (by omega)]
theorem same_e (l : List Int) (hl : l.length ≤ 9223372036854775807) : Evt (fun k => clepsydrakit_SameInts.f k l l) true := by
  refine Evt.of (same_l0 l hl l.length 0 (by omega) (by omega)) (fun k => ?_)
  unfold clepsydrakit_SameInts.f
  rw [if_pos rfl]
  rfl

theorem has_l0 (l : List (List Int)) (u x : Int) (h0 : 0 ≤ u) (h1 : u < l.length) (hr : (rd_L1 l u).length ≤ 1000) : ∀ (n j : Nat), (rd_L1 l u).length - j ≤ n → j ≤ (rd_L1 l u).length → Evt (fun k => clepsydraref23_has.l0 k l u x j) (decide (x ∈ (rd_L1 l u).drop j)) := by
  intro n
  induction n with
  | zero =>
    intro j h2 h3
    rw [List.drop_of_length_le (by omega)]
    refine Evt.step (Evt.now _) (fun k => ?_)
    rw [clepsydraref23_has.l0, if_pos h0, if_pos h1, if_neg (by omega)]
    simp
  | succ n ih =>
    intro j h2 h3
    by_cases hlt : j < (rd_L1 l u).length
    · have hx : rd (rd_L1 l u) j = (rd_L1 l u)[j] := by unfold rd; rw [Int.toNat_natCast, List.getD_eq_getElem?_getD, List.getElem?_eq_getElem hlt]; rfl
      rw [List.drop_eq_getElem_cons hlt]
      by_cases he : (rd_L1 l u)[j] = x
      · refine Evt.step (Evt.now _) (fun k => ?_)
        rw [clepsydraref23_has.l0, if_pos h0, if_pos h1, if_pos (by omega), if_pos (by omega), hx, if_pos he]
        simp [he]
      · have e : decide (x ∈ (rd_L1 l u)[j] :: (rd_L1 l u).drop (j + 1)) = decide (x ∈ (rd_L1 l u).drop (j + 1)) := by
          have : ¬ x = (rd_L1 l u)[j] := fun h => he h.symm
          refine decide_eq_decide.2 ?_
          rw [List.mem_cons]
          exact ⟨fun h => h.resolve_left this, .inr⟩
        rw [e]
        refine Evt.step (ih (j + 1) (by omega) (by omega)) (fun k => ?_)
        rw [clepsydraref23_has.l0, if_pos h0, if_pos h1, if_pos (by omega), if_pos (by omega), hx, if_neg he, w64 j _ hlt (by omega)]
    · rw [List.drop_of_length_le (by omega)]
      refine Evt.step (Evt.now _) (fun k => ?_)
      rw [clepsydraref23_has.l0, if_pos h0, if_pos h1, if_neg (by omega)]
      simp
theorem has_e (l : List (List Int)) (u x : Int) (hr : ∀ i, (rd_L1 l i).length ≤ 1000) : Evt (fun k => clepsydraref23_has.f k l u x) (hasB l u x) := by
  unfold hasB
  by_cases h0 : u < 0
  · rw [decide_eq_false (show ¬ 0 ≤ u by omega), Bool.false_and]
    have : Evt (fun k => clepsydraref23_has.j0 k l u x true) false := Evt.step (Evt.now _) (fun k => by rw [clepsydraref23_has.j0, if_pos rfl])
    exact Evt.of this (fun k => by unfold clepsydraref23_has.f; rw [if_pos h0])
  · rw [decide_eq_true (show 0 ≤ u by omega), Bool.true_and]
    by_cases h1 : u < l.length
    · rw [decide_eq_true h1, Bool.true_and]
      have h2 := has_l0 l u x (by omega) h1 (hr u) _ 0 (Nat.le_refl _) (by omega)
      have : Evt (fun k => clepsydraref23_has.j0 k l u x false) (decide (x ∈ rd_L1 l u)) := Evt.step h2 (fun k => by rw [clepsydraref23_has.j0, if_neg (by decide)]; rfl)
      exact Evt.of this (fun k => by unfold clepsydraref23_has.f; rw [if_neg h0, decide_eq_false (by omega)])
    · rw [decide_eq_false h1, Bool.false_and]
      have : Evt (fun k => clepsydraref23_has.j0 k l u x true) false := Evt.step (Evt.now _) (fun k => by rw [clepsydraref23_has.j0, if_pos rfl])
      exact Evt.of this (fun k => by unfold clepsydraref23_has.f; rw [if_neg h0, decide_eq_true (by omega)])
section ahead
variable {l4 l5 : List (List Int)} (m4 : ∀ i, (rd_L1 l4 i).length ≤ 1000) (m5 : ∀ i, (rd_L1 l5 i).length ≤ 1000)
theorem Evt.iteB {f : Nat → Option Bool} {a b : Bool} (hf : Evt f b) : Evt (fun k => if a = true then some true else (f k).bind fun t => some t) (a || b) := by
  cases a with
  | true => exact Evt.of (Evt.now _) (fun k => rfl)
  | false =>
    rw [Bool.false_or]
    refine Evt.of (Evt.bind hf (Evt.now b) (g := fun _ t => some t)) (fun k => ?_)
    rw [if_neg (by decide)]
include m4 m5
theorem up_e (a b : Int) : Evt (fun k => clepsydraref23_Graph_units.f k l4 l5 a b) (upB l4 l5 a b) := by
  unfold clepsydraref23_Graph_units.f upB
  exact Evt.bind (has_e l4 b a m4) (Evt.iteB (has_e l5 a b m5))
omit m4 m5 in
theorem some_e {f : Nat → Option Bool} {b : Bool} (hf : Evt f b) : Evt (fun k => (f k).bind fun t => some t) b := Evt.bind hf (Evt.now b) (g := fun _ t => some t)
theorem ahead_e (ua ta ub tb : Int) (ma mb : Bool) : Evt (fun k => clepsydraref23_Ahead.f k l4 l5 ua ta ma ub tb mb) (aheadB l4 l5 ua ta ub tb) := by
  unfold aheadB
  by_cases h0 : ua = ub
  · rw [if_pos h0]
    exact Evt.of (Evt.now _) (fun k => by unfold clepsydraref23_Ahead.f; rw [if_pos h0])
  · rw [if_neg h0]
    by_cases h1 : ta = 2
    · have hj0 : ∀ {r : Bool}, Evt (fun k => clepsydraref23_Ahead.j1 k (tb == 2) l4 l5 ua ta ma ub tb mb) r → Evt (fun k => clepsydraref23_Ahead.f k l4 l5 ua ta ma ub tb mb) r := fun hr => by
        have : Evt (fun k => clepsydraref23_Ahead.j0 k false l4 l5 ua ta ma ub tb mb) _ := Evt.step hr (fun k => by rw [clepsydraref23_Ahead.j0, if_neg (by decide), if_pos h1])
        exact Evt.of this (fun k => by unfold clepsydraref23_Ahead.f; rw [if_neg h0, if_pos h1])
      refine hj0 ?_
      by_cases h2 : tb = 2
      · rw [if_pos ⟨h1, h2⟩]
        refine Evt.step (some_e (up_e m4 m5 ub ua)) (fun k => ?_)
        rw [clepsydraref23_Ahead.j1, if_pos (by simp [h2])]
      · rw [if_neg (fun h => h2 h.2), if_pos h1]
        refine Evt.step (Evt.bind (up_e m4 m5 ua ub) (Evt.iteB (up_e m4 m5 ub ua)) (g := fun k t => if t = true then some true else (clepsydraref23_Graph_units.f k l4 l5 ub ua).bind fun t => some t)) (fun k => ?_)
        rw [clepsydraref23_Ahead.j1, if_neg (by simp [h2]), if_pos h1]
    · rw [if_neg (fun h => h1 h.1), if_neg h1]
      by_cases h2 : tb = 2
      · rw [if_pos h2]
        have h3 : Evt (fun k => clepsydraref23_Ahead.j1 k false l4 l5 ua ta ma ub tb mb) false := Evt.step (Evt.now _) (fun k => by rw [clepsydraref23_Ahead.j1, if_neg (by decide), if_neg h1])
        have h4 : Evt (fun k => clepsydraref23_Ahead.j0 k (tb != 2) l4 l5 ua ta ma ub tb mb) false := Evt.step h3 (fun k => by rw [clepsydraref23_Ahead.j0, if_neg (by simp [h2]), if_neg h1])
        exact Evt.of h4 (fun k => by unfold clepsydraref23_Ahead.f; rw [if_neg h0, if_neg h1])
      · rw [if_neg h2]
        have h4 : Evt (fun k => clepsydraref23_Ahead.j0 k (tb != 2) l4 l5 ua ta ma ub tb mb) _ := Evt.step (some_e (up_e m4 m5 ua ub)) (fun k => by rw [clepsydraref23_Ahead.j0, if_pos (by simp [h2])])
        exact Evt.of h4 (fun k => by unfold clepsydraref23_Ahead.f; rw [if_neg h0, if_neg h1])

/-- The table, row by row. -/
def tabRow (E : Int → Int → Bool) (m i j : Nat) : List Bool := (List.range m).map fun k => if k < j then E i k else false
def tabT (E : Int → Int → Bool) (m n : Nat) : List (List Bool) := (List.range n).map fun i => tabRow E m i m
omit m4 m5 in
theorem tabRow_set (E : Int → Int → Bool) (m i j : Nat) (hj : j < m) : (tabRow E m i j).set j (E i j) = tabRow E m i (j + 1) := by
  apply List.ext_getElem?
  intro k
  rw [List.getElem?_set]
  unfold tabRow
  by_cases hk : j = k
  · subst hk
    rw [if_pos rfl, if_pos (by simpa using hj), List.getElem?_map, List.getElem?_range hj]
    simp
  · rw [if_neg hk]
    rcases Nat.lt_or_ge k m with h | h
    · rw [List.getElem?_map, List.getElem?_map, List.getElem?_range h]
      simp only [Option.map_some]
      by_cases h2 : k < j
      · rw [if_pos h2, if_pos (by omega)]
      · rw [if_neg h2, if_neg (by omega)]
    · rw [List.getElem?_eq_none (by simpa using h), List.getElem?_eq_none (by simpa using h)]
omit m4 m5 in
theorem rd_cv (l : List S44) (i : Nat) (h : i < l.length) : rd_T49 (l.map cv) i = cv (rd_T44 l i) := by
  unfold rd_T49 rd_T44
  rw [Int.toNat_natCast, List.getD_eq_getElem?_getD, List.getD_eq_getElem?_getD, List.getElem?_map, List.getElem?_eq_getElem h]
  rfl
theorem table_l1 (l : List S44) (hl : l.length ≤ 1000) (i : Nat) (hi : i < l.length) (out : List (List Bool)) (ho : out.length ≤ 1000) {r : List (List Bool)} (hnext : Evt (fun k => clepsydraref23_table.l0 k (l.map cv) (out ++ [tabRow (tabE l4 l5 l) l.length i l.length]) ((i + 1 : Nat) : Int) l4 l5) r) : ∀ (n j : Nat), l.length - j ≤ n → j ≤ l.length → Evt (fun k => clepsydraref23_table.l1 k (l.map cv) out i (tabRow (tabE l4 l5 l) l.length i j) j l4 l5) r := by
  have fin : ∀ j : Nat, j = l.length → Evt (fun k => clepsydraref23_table.l1 k (l.map cv) out i (tabRow (tabE l4 l5 l) l.length i j) j l4 l5) r := fun j hj => by
    subst hj
    refine Evt.step hnext (fun k => ?_)
    rw [clepsydraref23_table.l1, if_neg (by simp), if_pos (by omega), w64 i _ hi (by omega)]
  intro n
  induction n with
  | zero => intro j h1 h2; exact fin j (by omega)
  | succ n ih =>
    intro j h1 h2
    by_cases hj : j = l.length
    · exact fin j hj
    · have hlt : j < l.length := by omega
      have hih := ih (j + 1) (by omega) (by omega)
      have he := ahead_e m4 m5 (cv (rd_T44 l i)).f0 (cv (rd_T44 l i)).f1 (cv (rd_T44 l j)).f0 (cv (rd_T44 l j)).f1 (cv (rd_T44 l i)).f2 (cv (rd_T44 l j)).f2
      refine Evt.step (Evt.bind he (g := fun k t138 => (if (j : Int) < ((tabRow (tabE l4 l5 l) l.length i j).length : Int) then (clepsydraref23_table.l1 k (l.map cv) out i ((tabRow (tabE l4 l5 l) l.length i j).set ((j : Int) : Int).toNat t138) (wrap64 ((j : Int) + 1)) l4 l5) else none)) (Evt.of hih (fun k => ?_))) (fun k => ?_)
      · show (if (j : Int) < ((tabRow (tabE l4 l5 l) l.length i j).length : Int) then _ else none) = _
        rw [if_pos (by simp [tabRow]; omega), Int.toNat_natCast, w64 j _ hlt (by omega)]
        have := tabRow_set (tabE l4 l5 l) l.length i j hlt
        unfold tabE aheadI at this
        rw [show (cv (rd_T44 l i)).f0 = (rd_T44 l i).f0.f0 from rfl, show (cv (rd_T44 l i)).f1 = (rd_T44 l i).f0.f1 from rfl, show (cv (rd_T44 l j)).f0 = (rd_T44 l j).f0.f0 from rfl, show (cv (rd_T44 l j)).f1 = (rd_T44 l j).f0.f1 from rfl]
        unfold tabE aheadI
        rw [this]
      · rw [clepsydraref23_table.l1, if_pos (by simp; omega), if_pos (by omega), if_pos (by simp; omega), if_pos (by omega), rd_cv l i hi, rd_cv l j hlt]
theorem table_l0 (l : List S44) (hl : l.length ≤ 1000) : ∀ (n i : Nat), l.length - i ≤ n → i ≤ l.length → Evt (fun k => clepsydraref23_table.l0 k (l.map cv) (tabT (tabE l4 l5 l) l.length i) i l4 l5) (tabT (tabE l4 l5 l) l.length l.length) := by
  have fin : ∀ i : Nat, i = l.length → Evt (fun k => clepsydraref23_table.l0 k (l.map cv) (tabT (tabE l4 l5 l) l.length i) i l4 l5) (tabT (tabE l4 l5 l) l.length l.length) := fun i hi => by
    subst hi
    refine Evt.step (Evt.now _) (fun k => ?_)
    rw [clepsydraref23_table.l0, if_neg (by simp)]
  intro n
  induction n with
  | zero => intro i h1 h2; exact fin i (by omega)
  | succ n ih =>
    intro i h1 h2
    by_cases hi : i = l.length
    · exact fin i hi
    · have hlt : i < l.length := by omega
      have hih := ih (i + 1) (by omega) (by omega)
      have e : tabT (tabE l4 l5 l) l.length (i + 1) = tabT (tabE l4 l5 l) l.length i ++ [tabRow (tabE l4 l5 l) l.length i l.length] := by simp [tabT, List.range_succ]
      rw [e] at hih
      have h3 := table_l1 m4 m5 l hl i hlt (tabT (tabE l4 l5 l) l.length i) (by simp [tabT]; omega) hih l.length 0 (by omega) (by omega)
      refine Evt.step h3 (fun k => ?_)
      rw [clepsydraref23_table.l0, if_pos (by simp; omega), if_pos (by omega), if_pos (by simp; omega)]
      have e2 : List.replicate ((((l.map cv).length : Int) : Int)).toNat false = tabRow (tabE l4 l5 l) l.length i 0 := by
        unfold tabRow
        simp [List.map_const']
      rw [e2]
      rfl
theorem table_e (l : List S44) (hl : l.length ≤ 1000) : Evt (fun k => clepsydraref23_table.f k l4 l5 (l.map cv)) (tabT (tabE l4 l5 l) l.length l.length) := by
  have := table_l0 m4 m5 l hl l.length 0 (by omega) (by omega)
  exact this
end ahead
end Go.Proofs.Ytccngacadolgfaa.P

namespace Go.Proofs.Ytccngacadolgfaa.P
open Go.RowKit Go.Proofs.YtccngacadolgfaaW.PrintWords Go.Proofs.YtccngacadolgfaaW.PrintLast Go.Proofs.YtccngacadolgfaaW.PrintMore

theorem firstNE_cons (x : Int) (l : List Int) (f : Int → List Int) : firstNE (x :: l) f = if f x ≠ [] then f x else firstNE l f := by
  unfold firstNE
  rw [List.find?_cons]
  by_cases h : f x = []
  · rw [if_neg (by simpa using h)]
    simp [h]
  · rw [if_pos h]
    simp [h]
theorem nodes_drop (m c : Nat) (h : c < m) : (nodes m).drop c = (c : Int) :: (nodes m).drop (c + 1) := by
  rw [List.drop_eq_getElem_cons (by simpa [nodes] using h)]
  simp [nodes]
theorem firstNE_skip (f : Int → List Int) (m c : Nat) (h : ∀ k : Int, k < c → f k = []) : firstNE (nodes m) f = firstNE ((nodes m).drop c) f := by
  induction c with
  | zero => rw [List.drop_zero]
  | succ c ih =>
    rw [ih (fun k hk => h k (by omega))]
    rcases Nat.lt_or_ge c m with hc | hc
    · rw [nodes_drop m c hc, firstNE_cons, if_neg (by simp [h c (by omega)])]
    · rw [List.drop_of_length_le (by simp [nodes]; omega), List.drop_of_length_le (by simp [nodes]; omega)]

variable {m : Nat} {E : Int → Int → Bool}
theorem tab_row (i : Int) (h0 : 0 ≤ i) (h1 : i < m) : rd_L7 (tabT E m m) i = tabRow E m i.toNat m := by
  unfold rd_L7 tabT
  rw [List.getD_eq_getElem?_getD, List.getElem?_map, List.getElem?_range (by omega)]
  rfl
theorem tab_len (i : Nat) : (tabRow E m i m).length = m := by simp [tabRow]
theorem tab_at (i : Nat) (k : Int) (h0 : 0 ≤ k) (h1 : k < m) : rdOf false (tabRow E m i m) k = E i k := by
  unfold rdOf tabRow
  rw [List.getD_eq_getElem?_getD, List.getElem?_map, List.getElem?_range (by omega)]
  simp only [Option.map_some, Option.getD_some]
  rw [if_pos (by omega)]
  congr 1
  omega
theorem tabT_len : (tabT E m m).length = m := by simp [tabT]
theorem w64p (n : Nat) (h0 : 0 < n) (h : n ≤ 9223372036854775807) : wrap64 ((n : Int) - 1) = ((n - 1 : Nat) : Int) := by
  unfold wrap64
  omega
theorem last_mem (way : List Int) (h : way ≠ []) : way.getLastD 0 ∈ way := by
  cases way with
  | nil => exact absurd rfl h
  | cons a l => rw [List.getLastD_cons]; rw [← List.getLastD_cons (a := 0), List.getLastD_eq_getLast?, List.getLast?_eq_some_getLast (by simp)]; exact List.getLast_mem _
theorem last_rd (way : List Int) (h : way ≠ []) (hl : way.length ≤ 1000) : rd way (wrap64 ((way.length : Int) - 1)) = way.getLastD 0 := by
  have hp := List.length_pos_iff.2 h
  rw [w64p _ hp (by omega)]
  unfold rd
  rw [Int.toNat_natCast, List.getD_eq_getElem?_getD, List.getLastD_eq_getLast?, List.getLast?_eq_getElem?]

section goes
variable (hm : m ≤ 500) {dest low : Int} (hd0 : 0 ≤ dest) (hd1 : dest < m) (hl0 : 0 ≤ low) (hl1 : low < m)
theorem mem_take_succ (way : List Int) (i : Nat) (h : i < way.length) (c : Int) : decide (c ∈ way.take (i + 1)) = if decide (c ∈ way.take i) = true then true else (rd way i == c) := by
  have hx : rd way i = way[i] := by unfold rd; rw [Int.toNat_natCast, List.getD_eq_getElem?_getD, List.getElem?_eq_getElem h]; rfl
  rw [List.take_add_one, List.getElem?_eq_getElem h, hx, Option.toList_some]
  by_cases h1 : c ∈ way.take i
  · rw [if_pos (decide_eq_true h1)]
    exact decide_eq_true (List.mem_append_left _ h1)
  · rw [if_neg (by rw [decide_eq_false h1]; decide)]
    by_cases h2 : way[i] = c
    · rw [decide_eq_true (List.mem_append_right _ (by rw [h2]; exact List.mem_singleton.2 rfl)), h2, beq_self_eq_true]
    · rw [decide_eq_false (fun h3 => (List.mem_append.1 h3).elim h1 (fun h4 => h2 (List.mem_singleton.1 h4).symm))]
      exact (beq_eq_false_iff_ne.2 h2).symm
theorem goes_seen (way : List Int) (hw : way.length ≤ 1000) (st at_ : Int) (c : Nat) {r : List Int} (hend : Evt (fun k => clepsydraref23_goes.l1 k (tabT E m m) way dest st low at_ c (decide ((c : Int) ∈ way)) (way.length : Int)) r) : ∀ (n i : Nat), way.length - i ≤ n → i ≤ way.length → Evt (fun k => clepsydraref23_goes.l1 k (tabT E m m) way dest st low at_ c (decide ((c : Int) ∈ way.take i)) i) r := by
  have fin : ∀ i : Nat, i = way.length → Evt (fun k => clepsydraref23_goes.l1 k (tabT E m m) way dest st low at_ c (decide ((c : Int) ∈ way.take i)) i) r := fun i hi => by
    subst hi
    rw [List.take_length]
    exact hend
  intro n
  induction n with
  | zero => intro i h1 h2; exact fin i (by omega)
  | succ n ih =>
    intro i h1 h2
    by_cases hi : i = way.length
    · exact fin i hi
    · have hlt : i < way.length := by omega
      have hih := ih (i + 1) (by omega) (by omega)
      rw [mem_take_succ way i hlt c] at hih
      refine Evt.step hih (fun k => ?_)
      by_cases hs : decide ((c : Int) ∈ way.take i) = true
      · rw [if_pos hs, hs, clepsydraref23_goes.l1, if_pos (by omega), if_pos rfl, w64 i _ hlt (by omega)]
      · rw [if_neg hs, clepsydraref23_goes.l1, if_pos (by omega), if_neg hs, if_pos (by omega), w64 i _ hlt (by omega)]
include hm
theorem goes_l0 (way : List Int) (hne : way ≠ []) (hb : ∀ x ∈ way, 0 ≤ x ∧ x < m) (hw : way.length ≤ 1000) (n : Nat) (hn5 : n ≤ 1000) (hrec : ∀ c : Nat, c < m → Evt (fun k => clepsydraref23_goes.f k (tabT E m m) (way ++ [(c : Int)]) dest (((n + 1 : Nat)) : Int) low) (goesS m E dest low (n + 1) (way ++ [(c : Int)]))) :
    ∀ (q c : Nat), m - c ≤ q → low < c → Evt (fun k => clepsydraref23_goes.l0 k (tabT E m m) way dest ((n + 2 : Nat) : Int) low (way.getLastD 0) c) (firstNE ((nodes m).drop c) fun k => if low < k ∧ E (way.getLastD 0) k = true ∧ k ∉ way then goesS m E dest low (n + 1) (way ++ [k]) else []) := by
  have hat : 0 ≤ way.getLastD 0 ∧ way.getLastD 0 < m := hb _ (last_mem way hne)
  have fin : ∀ c : Nat, m ≤ c → Evt (fun k => clepsydraref23_goes.l0 k (tabT E m m) way dest ((n + 2 : Nat) : Int) low (way.getLastD 0) c) (firstNE ((nodes m).drop c) fun k => if low < k ∧ E (way.getLastD 0) k = true ∧ k ∉ way then goesS m E dest low (n + 1) (way ++ [k]) else []) := fun c hc => by
    rw [List.drop_of_length_le (by simp [nodes]; omega)]
    refine Evt.step (Evt.now _) (fun k => ?_)
    rw [clepsydraref23_goes.l0, if_neg (by rw [tabT_len]; omega)]
    rfl
  intro q
  induction q with
  | zero => intro c h1 h2; exact fin c (by omega)
  | succ q ih =>
    intro c h1 h2
    by_cases hc : c < m
    · have hnext := ih (c + 1) (by omega) (by omega)
      obtain ⟨r, hr⟩ : ∃ r, r = firstNE ((nodes m).drop (c + 1)) fun k => if low < k ∧ E (way.getLastD 0) k = true ∧ k ∉ way then goesS m E dest low (n + 1) (way ++ [k]) else [] := ⟨_, rfl⟩
      rw [← hr] at hnext
      rw [nodes_drop m c hc, firstNE_cons, ← hr]
      obtain ⟨at_, hat_⟩ : ∃ a, a = way.getLastD 0 := ⟨_, rfl⟩
      rw [← hat_] at hat hnext ⊢
      have hj2f : Evt (fun k => clepsydraref23_goes.j2 k (tabT E m m) way dest ((n + 2 : Nat) : Int) low at_ c false) r := Evt.step hnext (fun k => by rw [clepsydraref23_goes.j2, if_neg (by decide), w64 c m hc (by omega)])
      have hstart : ∀ {r' : List Int}, Evt (fun k => clepsydraref23_goes.l1 k (tabT E m m) way dest ((n + 2 : Nat) : Int) low at_ c (decide ((c : Int) ∈ way)) (way.length : Int)) r' → Evt (fun k => clepsydraref23_goes.l0 k (tabT E m m) way dest ((n + 2 : Nat) : Int) low at_ c) r' := fun h => by
        have h3 := goes_seen way hw ((n + 2 : Nat) : Int) at_ c h way.length 0 (by omega) (by omega)
        refine Evt.step h3 (fun k => ?_)
        rw [clepsydraref23_goes.l0, if_pos (by rw [tabT_len]; omega)]
        rfl
      refine hstart ?_
      have hend : ∀ {r' : List Int}, Evt (fun k => clepsydraref23_goes.j2 k (tabT E m m) way dest ((n + 2 : Nat) : Int) low at_ c (E at_ c && !decide ((c : Int) ∈ way))) r' → Evt (fun k => clepsydraref23_goes.l1 k (tabT E m m) way dest ((n + 2 : Nat) : Int) low at_ c (decide ((c : Int) ∈ way)) (way.length : Int)) r' := fun h => by
        refine Evt.step h (fun k => ?_)
        have hn : at_ = (at_.toNat : Int) := by omega
        rw [clepsydraref23_goes.l1, if_neg (by omega), if_pos hat.1, if_pos (by rw [tabT_len]; exact hat.2), if_pos (by omega), tab_row at_ hat.1 hat.2, tab_len, if_pos (by omega), tab_at _ _ (by omega) (by omega), ← hn]
        cases E at_ c with
        | true => rw [if_pos rfl]; rfl
        | false => rw [if_neg (by decide)]; rfl
      refine hend ?_
      by_cases hcond : E at_ c = true ∧ (c : Int) ∉ way
      · have e1 : (E at_ c && !decide ((c : Int) ∈ way)) = true := by simp [hcond.1, hcond.2]
        rw [e1]
        obtain ⟨g, hg⟩ : ∃ g, g = goesS m E dest low (n + 1) (way ++ [(c : Int)]) := ⟨_, rfl⟩
        have hrc := hrec c hc
        rw [← hg] at hrc
        have e2 : (if low < (c : Int) ∧ E at_ c = true ∧ (c : Int) ∉ way then goesS m E dest low (n + 1) (way ++ [(c : Int)]) else []) = g := by rw [if_pos ⟨h2, hcond.1, hcond.2⟩, hg]
        rw [e2]
        refine Evt.step (Evt.bind hrc (g := fun k t155 => if (t155.length : Int) > 0 then some t155 else clepsydraref23_goes.l0 k (tabT E m m) way dest ((n + 2 : Nat) : Int) low at_ (wrap64 ((c : Int) + 1))) ?_) (fun k => ?_)
        · by_cases hge : g = []
          · rw [if_neg (by simpa using hge)]
            refine Evt.of hnext (fun k => ?_)
            rw [hge, if_neg (by simp), w64 c m hc (by omega)]
          · rw [if_pos hge]
            refine Evt.of (Evt.now g) (fun k => ?_)
            rw [if_pos (by have := List.length_pos_iff.2 hge; omega)]
        · rw [clepsydraref23_goes.j2, if_pos rfl, if_pos (by simp; omega)]
          show (if (way.length) < 17592186044416 then _ else none) = _
          rw [if_pos (by omega)]
          have : wrap64 ((((n + 2 : Nat)) : Int) - 1) = ((n + 1 : Nat) : Int) := by rw [w64p _ (by omega) (by omega)]; rfl
          rw [this]
          rfl
      · have e1 : (E at_ c && !decide ((c : Int) ∈ way)) = false := by
          by_cases h : E at_ c = true
          · have : (c : Int) ∈ way := Classical.byContradiction fun h' => hcond ⟨h, h'⟩
            simp [this]
          · simp [h]
        rw [e1]
        have e2 : (if low < (c : Int) ∧ E at_ c = true ∧ (c : Int) ∉ way then goesS m E dest low (n + 1) (way ++ [(c : Int)]) else []) = [] := if_neg fun h => hcond h.2
        rw [e2, if_neg (by simp)]
        exact hj2f
    · exact fin c (by omega)
include hd0 hd1 hl0 hl1
theorem goes_e : ∀ (n : Nat) (way : List Int), n + way.length ≤ 1000 → way ≠ [] → (∀ x ∈ way, 0 ≤ x ∧ x < m) → Evt (fun k => clepsydraref23_goes.f k (tabT E m m) way dest ((n + 1 : Nat) : Int) low) (goesS m E dest low (n + 1) way) := by
  intro n
  induction n with
  | zero =>
    intro way hw hne hb
    have hat := hb _ (last_mem way hne)
    have hp := List.length_pos_iff.2 hne
    show Evt _ (if E (way.getLastD 0) dest = true then way else [])
    refine Evt.step (Evt.now _) (fun k => ?_)
    have hi := w64p way.length hp (by omega)
    have hn : way.getLastD 0 = ((way.getLastD 0).toNat : Int) := by omega
    rw [clepsydraref23_goes.f, last_rd way hne (by omega), hi, if_pos (by omega), if_pos (by omega), if_pos (by rfl), if_pos hat.1, if_pos (by rw [tabT_len]; exact hat.2), if_pos hd0, tab_row _ hat.1 hat.2, tab_len, if_pos hd1, tab_at _ _ hd0 hd1, ← hn]
    by_cases h : E (way.getLastD 0) dest = true
    · rw [if_pos h, if_pos h]
    · rw [if_neg h, if_neg h]
  | succ n ih =>
    intro way hw hne hb
    have hp := List.length_pos_iff.2 hne
    have hrec : ∀ c : Nat, c < m → Evt (fun k => clepsydraref23_goes.f k (tabT E m m) (way ++ [(c : Int)]) dest (((n + 1 : Nat)) : Int) low) (goesS m E dest low (n + 1) (way ++ [(c : Int)])) := fun c hc =>
      ih _ (by simp; omega) (by simp) (fun x hx => by
        rcases List.mem_append.1 hx with h | h
        · exact hb x h
        · rw [List.mem_singleton.1 h]
          exact ⟨by omega, by omega⟩)
    have h0 := goes_l0 hm way hne hb (by omega) n (by omega) hrec m (low.toNat + 1) (by omega) (by omega)
    rw [← firstNE_skip _ m (low.toNat + 1) (fun k hk => if_neg (fun h => by omega))] at h0
    show Evt _ (firstNE (nodes m) fun k => if low < k ∧ E (way.getLastD 0) k = true ∧ k ∉ way then goesS m E dest low (n + 1) (way ++ [k]) else [])
    refine Evt.step h0 (fun k => ?_)
    have hi := w64p way.length hp (by omega)
    have hlow : wrap64 (low + 1) = ((low.toNat + 1 : Nat) : Int) := by
      unfold wrap64
      omega
    rw [clepsydraref23_goes.f, last_rd way hne (by omega), hi, if_pos (by omega), if_pos (by omega), if_neg (by omega), hlow]
end goes

section ring
variable (hm : m ≤ 500)
include hm
theorem ring_l1 (s : List S49) (hs : s.length = m) (n : Nat) (hn : 1 ≤ n) (hn5 : n ≤ 501) {r : List Int} (hnext : Evt (fun k => clepsydraref23_Ring.l0 k s (tabT E m m) ((n + 1 : Nat) : Int)) r) : ∀ (q i : Nat), m - i ≤ q → i ≤ m → Evt (fun k => clepsydraref23_Ring.l1 k s (tabT E m m) (n : Int) i) (if firstNE ((nodes m).drop i) (fun i => goesS m E i i n [i]) ≠ [] then firstNE ((nodes m).drop i) (fun i => goesS m E i i n [i]) else r) := by
  have fin : ∀ i : Nat, i = m → Evt (fun k => clepsydraref23_Ring.l1 k s (tabT E m m) (n : Int) i) (if firstNE ((nodes m).drop i) (fun i => goesS m E i i n [i]) ≠ [] then firstNE ((nodes m).drop i) (fun i => goesS m E i i n [i]) else r) := fun i hi => by
    subst hi
    rw [List.drop_of_length_le (by simp [nodes]), if_neg (by simp [firstNE])]
    refine Evt.step hnext (fun k => ?_)
    rw [clepsydraref23_Ring.l1, if_neg (by omega), w64 n 1000 (by omega) (by omega)]
  intro q
  induction q with
  | zero => intro i h1 h2; exact fin i (by omega)
  | succ q ih =>
    intro i h1 h2
    by_cases hi : i = m
    · exact fin i hi
    · have hlt : i < m := by omega
      have hih := ih (i + 1) (by omega) (by omega)
      rw [nodes_drop m i hlt, firstNE_cons]
      obtain ⟨g, hg⟩ : ∃ g, g = goesS m E (i : Int) (i : Int) n [(i : Int)] := ⟨_, rfl⟩
      have he := goes_e (E := E) hm (dest := (i : Int)) (low := (i : Int)) (by omega) (by omega) (by omega) (by omega) (n - 1) [(i : Int)] (by simp; omega) (by simp) (fun x hx => by rw [List.mem_singleton.1 hx]; exact ⟨by omega, by omega⟩)
      rw [show n - 1 + 1 = n by omega, ← hg] at he
      rw [← hg]
      refine Evt.step (Evt.bind he (g := fun k t165 => if (t165.length : Int) > 0 then some t165 else clepsydraref23_Ring.l1 k s (tabT E m m) (n : Int) (wrap64 ((i : Int) + 1))) ?_) (fun k => ?_)
      · by_cases hge : g = []
        · rw [if_neg (show ¬ g ≠ [] by simpa using hge)]
          refine Evt.of hih (fun k => ?_)
          rw [hge, if_neg (by simp), w64 i m hlt (by omega)]
        · rw [if_pos hge, if_pos hge]
          refine Evt.of (Evt.now g) (fun k => ?_)
          rw [if_pos (by have := List.length_pos_iff.2 hge; omega)]
      · rw [clepsydraref23_Ring.l1, if_pos (by omega)]
theorem ring_l0 (s : List S49) (hs : s.length = m) : ∀ (f n : Nat), m + 1 ≤ f + n → 1 ≤ n → n ≤ m + 2 → Evt (fun k => clepsydraref23_Ring.l0 k s (tabT E m m) (n : Int)) (refFrom m E f n) := by
  intro f
  induction f with
  | zero =>
    intro n h1 h2 h3
    refine Evt.step (Evt.now _) (fun k => ?_)
    rw [clepsydraref23_Ring.l0, if_neg (by omega)]
    rfl
  | succ f ih =>
    intro n h1 h2 h3
    unfold refFrom
    by_cases hn : n ≤ m
    · rw [if_pos hn]
      have h4 := ring_l1 (E := E) hm s hs n h2 (by omega) (ih (n + 1) (by omega) (by omega) (by omega)) m 0 (by omega) (by omega)
      rw [List.drop_zero] at h4
      refine Evt.step h4 (fun k => ?_)
      rw [clepsydraref23_Ring.l0, if_pos (by omega)]
      rfl
    · rw [if_neg hn]
      refine Evt.step (Evt.now _) (fun k => ?_)
      rw [clepsydraref23_Ring.l0, if_neg (by omega)]

/-! ### The order -/
def goneT (m : Nat) (out : List Int) : List Bool := (List.range m).map fun i : Nat => decide ((i : Int) ∈ out)
omit hm in
theorem gone_at (out : List Int) (i : Nat) (h : i < m) : rdOf false (goneT m out) (i : Int) = decide ((i : Int) ∈ out) := by
  unfold rdOf goneT
  rw [Int.toNat_natCast, List.getD_eq_getElem?_getD, List.getElem?_map, List.getElem?_range h]
  rfl
omit hm in
theorem gone_len (out : List Int) : (goneT m out).length = m := by simp [goneT]
omit hm in
theorem gone_set (out : List Int) (b : Nat) (h : b < m) : (goneT m out).set b true = goneT m (out ++ [(b : Int)]) := by
  apply List.ext_getElem?
  intro k
  rw [List.getElem?_set]
  unfold goneT
  by_cases hk : b = k
  · subst hk
    rw [if_pos rfl, if_pos (by simpa using h), List.getElem?_map, List.getElem?_range h]
    simp
  · rw [if_neg hk]
    rcases Nat.lt_or_ge k m with h1 | h1
    · rw [List.getElem?_map, List.getElem?_map, List.getElem?_range h1]
      simp only [Option.map_some]
      congr 1
      refine decide_eq_decide.2 ?_
      rw [List.mem_append, List.mem_singleton]
      exact ⟨.inl, fun h => h.resolve_right (by omega)⟩
    · rw [List.getElem?_eq_none (by simpa using h1), List.getElem?_eq_none (by simpa using h1)]
def freeTo (m : Nat) (E : Int → Int → Bool) (out : List Int) (i : Int) (j : Nat) : Bool := decide (i ∉ out) && (nodes j).all fun k => decide (k ∈ out) || !E k i
omit hm in
theorem freeTo_succ (out : List Int) (i : Int) (j : Nat) : freeTo m E out i (j + 1) = if freeTo m E out i j = true then (if decide ((j : Int) ∈ out) = true then true else !E j i) else false := by
  unfold freeTo
  rw [nodes_succ, List.all_append, ← Bool.and_assoc]
  by_cases h : (decide (i ∉ out) && (nodes j).all fun k => decide (k ∈ out) || !E k i) = true
  · rw [if_pos h, h, Bool.true_and, List.all_cons, List.all_nil, Bool.and_true]
    by_cases h2 : (j : Int) ∈ out
    · rw [if_pos (decide_eq_true h2), decide_eq_true h2, Bool.true_or]
    · rw [if_neg (by rw [decide_eq_false h2]; decide), decide_eq_false h2, Bool.false_or]
  · rw [if_neg h, Bool.not_eq_true] at *
    rw [h, Bool.false_and]
theorem order_l2 (s : List S49) (hs : s.length = m) (out : List Int) (best : Int) (i : Nat) (hi : i < m) {r : List Int} (hnext : Evt (fun k => clepsydraref23_Order.l1 k s (tabT E m m) out (goneT m out) (if freeB m E out i = true then (i : Int) else best) (wrap64 ((i : Int) - 1))) r) :
    ∀ (q j : Nat), m - j ≤ q → j ≤ m → Evt (fun k => clepsydraref23_Order.l2 k s (tabT E m m) out (goneT m out) best i (freeTo m E out i j) j) r := by
  have fin : ∀ j : Nat, j = m → Evt (fun k => clepsydraref23_Order.l2 k s (tabT E m m) out (goneT m out) best i (freeTo m E out i j) j) r := fun j hj => by
    subst hj
    have e : freeTo j E out i j = freeB j E out i := rfl
    rw [e]
    refine Evt.step hnext (fun k => ?_)
    rw [clepsydraref23_Order.l2, if_neg (by omega)]
    by_cases h : freeB j E out i = true
    · rw [if_pos h, if_pos h]
    · rw [if_neg h, if_neg h]
  intro q
  induction q with
  | zero => intro j h1 h2; exact fin j (by omega)
  | succ q ih =>
    intro j h1 h2
    by_cases hj : j = m
    · exact fin j hj
    · have hlt : j < m := by omega
      have hih := ih (j + 1) (by omega) (by omega)
      rw [freeTo_succ] at hih
      refine Evt.step hih (fun k => ?_)
      by_cases h : freeTo m E out i j = true
      · rw [if_pos h, h, clepsydraref23_Order.l2, if_pos (by omega), if_pos rfl, if_pos (by omega), if_pos (by rw [gone_len]; omega), gone_at out j hlt]
        by_cases h3 : decide ((j : Int) ∈ out) = true
        · rw [if_pos h3, if_pos h3, w64 j m hlt (by omega)]
        · rw [if_neg h3, if_neg h3, if_pos (by rw [tabT_len]; omega), if_pos (by omega), tab_row _ (by omega) (by omega), tab_len, if_pos (by omega), tab_at _ _ (by omega) (by omega), w64 j m hlt (by omega), Int.toNat_natCast]
      · rw [if_neg h, clepsydraref23_Order.l2, if_pos (by omega), if_neg h, w64 j m hlt (by omega)]
def bestOf : Option Int → Int
  | some i => i
  | none => -1
theorem order_l1 (s : List S49) (hs : s.length = m) (out : List Int) {r : List Int} (hdone : Evt (fun k => clepsydraref23_Order.l1 k s (tabT E m m) out (goneT m out) (bestOf ((nodes m).find? (freeB m E out))) (-1)) r) :
    ∀ (i : Nat), i ≤ m → Evt (fun k => clepsydraref23_Order.l1 k s (tabT E m m) out (goneT m out) (bestOf (((nodes m).drop i).find? (freeB m E out))) ((i : Int) - 1)) r := by
  intro i
  induction i with
  | zero => intro _; simpa using hdone
  | succ i ih =>
    intro h1
    have hlt : i < m := by omega
    have hih := ih (by omega)
    rw [nodes_drop m i hlt, List.find?_cons] at hih
    have e : ((i + 1 : Nat) : Int) - 1 = (i : Int) := by omega
    rw [e]
    obtain ⟨b, hb⟩ : ∃ b, b = bestOf (((nodes m).drop (i + 1)).find? (freeB m E out)) := ⟨_, rfl⟩
    rw [← hb]
    have h3 : Evt (fun k => clepsydraref23_Order.l1 k s (tabT E m m) out (goneT m out) (if freeB m E out i = true then (i : Int) else b) (wrap64 ((i : Int) - 1))) r := by
      have hw : wrap64 ((i : Int) - 1) = (i : Int) - 1 := by unfold wrap64; omega
      rw [hw]
      by_cases h : freeB m E out i = true
      · rw [if_pos h]
        rw [h] at hih
        exact hih
      · rw [if_neg h, hb]
        rw [Bool.not_eq_true] at h
        rw [h] at hih
        exact hih
    have h4 := order_l2 (E := E) hm s hs out b i hlt h3 m 0 (by omega) (by omega)
    refine Evt.step h4 (fun k => ?_)
    rw [clepsydraref23_Order.l1, if_pos (by omega), if_pos (by omega), if_pos (by rw [gone_len]; omega), gone_at out i hlt]
    have e5 : (!decide ((i : Int) ∈ out)) = freeTo m E out i 0 := by simp [freeTo, nodes]
    rw [e5]
    rfl
theorem order_l0 (s : List S49) (hs : s.length = m) : ∀ (f : Nat) (out : List Int), out.length + f = m → Evt (fun k => clepsydraref23_Order.l0 k s (tabT E m m) out (goneT m out)) (refOrd m E f out) := by
  intro f
  induction f with
  | zero =>
    intro out h
    refine Evt.step (Evt.now _) (fun k => ?_)
    rw [clepsydraref23_Order.l0, if_neg (by omega)]
    rfl
  | succ f ih =>
    intro out h
    have hdone : Evt (fun k => clepsydraref23_Order.l1 k s (tabT E m m) out (goneT m out) (bestOf ((nodes m).find? (freeB m E out))) (-1)) (refOrd m E (f + 1) out) := by
      unfold refOrd
      cases hf : (nodes m).find? (freeB m E out) with
      | none =>
        refine Evt.step (Evt.now _) (fun k => ?_)
        rw [clepsydraref23_Order.l1, if_neg (by decide), if_pos (by decide)]
      | some b =>
        obtain ⟨c, hc, hcb⟩ := List.mem_map.1 (List.mem_of_find?_eq_some hf)
        have hc' := List.mem_range.1 hc
        have hb0 : b = (c : Int) := hcb.symm
        subst hb0
        refine Evt.step (ih (out ++ [(c : Int)]) (by simp; omega)) (fun k => ?_)
        show clepsydraref23_Order.l1 (k + 1) s (tabT E m m) out (goneT m out) (c : Int) (-1) = _
        rw [clepsydraref23_Order.l1, if_neg (by decide), if_neg (by omega), if_pos (by omega), if_pos (by rw [gone_len]; omega), if_pos (by omega), Int.toNat_natCast, gone_set out c hc']
    have h1 := order_l1 (E := E) hm s hs out hdone m (Nat.le_refl _)
    rw [List.drop_of_length_le (by simp [nodes])] at h1
    refine Evt.step h1 (fun k => ?_)
    have hw : wrap64 ((s.length : Int) - 1) = (m : Int) - 1 := by rw [hs]; unfold wrap64; omega
    rw [clepsydraref23_Order.l0, if_pos (by omega), hw]
    rfl
end ring

theorem ring_e {l4 l5 : List (List Int)} (m4 : ∀ i, (rd_L1 l4 i).length ≤ 1000) (m5 : ∀ i, (rd_L1 l5 i).length ≤ 1000) (l : List S44) (hl : l.length ≤ 500) : Evt (fun k => clepsydraref23_Ring.f k l4 l5 (l.map cv)) (refRing l.length (tabE l4 l5 l)) := by
  unfold clepsydraref23_Ring.f
  refine Evt.bind (table_e m4 m5 l (by omega)) (g := fun k t159 => clepsydraref23_Ring.l0 k (l.map cv) t159 2) ?_
  exact ring_l0 (E := tabE l4 l5 l) hl (l.map cv) (by simp) (l.length + 1) 2 (by omega) (by omega) (by omega)
theorem order_e {l4 l5 : List (List Int)} (m4 : ∀ i, (rd_L1 l4 i).length ≤ 1000) (m5 : ∀ i, (rd_L1 l5 i).length ≤ 1000) (l : List S44) (hl : l.length ≤ 500) : Evt (fun k => clepsydraref23_Order.f k l4 l5 (l.map cv)) (refOrd l.length (tabE l4 l5 l) l.length []) := by
  unfold clepsydraref23_Order.f
  refine Evt.bind (table_e m4 m5 l (by omega)) (g := fun k t169 => (if 0 ≤ ((l.map cv).length : Int) then (if (((l.map cv).length : Int) : Int).toNat ≤ 281474976710656 then (clepsydraref23_Order.l0 k (l.map cv) t169 ([] : List Int) (List.replicate (((l.map cv).length : Int) : Int).toNat false)) else (none)) else (none))) ?_
  have h := order_l0 (E := tabE l4 l5 l) hl (l.map cv) (by simp) l.length [] (by simp)
  refine Evt.of h (fun k => ?_)
  rw [if_pos (by omega), if_pos (by simp; omega)]
  congr 1
  simp [goneT, List.map_const']
end Go.Proofs.Ytccngacadolgfaa.P
