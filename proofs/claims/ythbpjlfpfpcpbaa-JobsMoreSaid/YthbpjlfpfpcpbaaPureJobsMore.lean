/- The pure statement of JobsMore: one item more says nothing of other units; of its own what does not merge stays so. No condition. -/
import Derived.Test.YthbpjlfpfpcpbaaOpJobsMore
import Derived.Test.YthbpjlfpfpcpbaaJobsQ
set_option linter.unusedVariables false
set_option linter.unusedSimpArgs false
namespace Go.Proofs.Ythbpjlfpfpcpbaa.Pure
open Go.Sort Go.RowKit Go.Proofs.Ythbpjlfpfpcpbaa.P Go.Proofs.YthbpjlfpfpcpbaaW.PrintWords Go.Proofs.YthbpjlfpfpcpbaaW.PrintLast Go.Proofs.YthbpjlfpfpcpbaaW.PrintMore

theorem works_five : clepsydralaw20_works.f 5 = some true := by
  unfold clepsydralaw20_works.f jobs_Whole.f wholeF
  rw [sortedF_isort]
  decide +kernel
theorem works_true (k : Nat) (h : 5 ≤ k) : clepsydralaw20_works.f k = some true := at_rounds clepsydralaw20_works.mono h works_five

theorem drop_step {α : Type} (l : List α) (j : Nat) (d : α) (h : j < l.length) : l.drop j = l.getD j d :: l.drop (j + 1) := by
  rw [List.drop_eq_getElem_cons h, List.getD_eq_getElem?_getD, List.getElem?_eq_getElem h]
  rfl
theorem wrap_next (j : Nat) (h : j ≤ 1000000) : wrap64 ((j : Int) + 1) = ((j + 1 : Nat) : Int) := by
  unfold wrap64
  omega
theorem rd26 (l : List S26) (j : Nat) : rd_T26 l (j : Int) = l.getD j z26 := rfl
theorem rd24 (l : List S24) (j : Nat) : rd_T24 l (j : Int) = l.getD j z24 := rfl

theorem others_loop (l : List S26) (u : Int) (hl : l.length ≤ 1000000) : ∀ (d k j : Nat) (acc : List S26), j + d = l.length → d < k → acc.length + d ≤ 1000000 →
    clepsydralaw20_others.l0 k l u acc (j : Int) = some (acc ++ (l.drop j).filter fun x => x.f0.f0 != u)
  | 0, k, j, acc, hj, hk, _ => by
    obtain ⟨k, rfl⟩ : ∃ m, k = m + 1 := ⟨k - 1, by omega⟩
    simp only [clepsydralaw20_others.l0]
    rw [if_neg (by omega), List.drop_of_length_le (by omega)]
    simp
  | d + 1, k, j, acc, hj, hk, ha => by
    obtain ⟨k, rfl⟩ : ∃ m, k = m + 1 := ⟨k - 1, by omega⟩
    have hjl : j < l.length := by omega
    simp only [clepsydralaw20_others.l0]
    rw [if_pos (by omega), if_pos (by omega), rd26, wrap_next j (by omega), drop_step l j z26 hjl]
    generalize l.getD j z26 = x
    by_cases hx : x.f0.f0 = u
    · rw [if_pos hx, others_loop l u hl d k (j + 1) acc (by omega) (by omega) (by omega), List.filter_cons_of_neg (by simp [hx])]
    · rw [if_neg hx, if_pos (by omega), others_loop l u hl d k (j + 1) _ (by omega) (by omega) (by simp; omega), List.filter_cons_of_pos (by simpa using hx)]
      simp
theorem others_some (l : List S26) (u : Int) (k : Nat) (hl : l.length ≤ 1000000) (hk : l.length < k) : clepsydralaw20_others.f k l u = some (l.filter fun x => x.f0.f0 != u) := by
  unfold clepsydralaw20_others.f
  have := others_loop l u hl l.length k 0 [] (by omega) hk (by simpa using hl)
  simpa using this

def refI (x : S26) : S40 := ⟨x.f0.f0, x.f0.f1, x.f1⟩
theorem plain_loop (l : List S26) (hl : l.length ≤ 1000000) : ∀ (d k j : Nat) (acc : List S40), j + d = l.length → d < k → acc.length + d ≤ 1000000 →
    clepsydralaw20_plain.l0 k l acc (j : Int) = some (acc ++ (l.drop j).map refI)
  | 0, k, j, acc, hj, hk, _ => by
    obtain ⟨k, rfl⟩ : ∃ m, k = m + 1 := ⟨k - 1, by omega⟩
    simp only [clepsydralaw20_plain.l0]
    rw [if_neg (by omega), List.drop_of_length_le (by omega)]
    simp
  | d + 1, k, j, acc, hj, hk, ha => by
    obtain ⟨k, rfl⟩ : ∃ m, k = m + 1 := ⟨k - 1, by omega⟩
    have hjl : j < l.length := by omega
    simp only [clepsydralaw20_plain.l0]
    rw [if_pos (by omega), if_pos (by omega), rd26, wrap_next j (by omega), drop_step l j z26 hjl, if_pos (by omega), plain_loop l hl d k (j + 1) _ (by omega) (by omega) (by simp; omega)]
    simp [refI]
theorem plain_some (l : List S26) (k : Nat) (hl : l.length ≤ 1000000) (hk : l.length < k) : clepsydralaw20_plain.f k l = some (l.map refI) := by
  unfold clepsydralaw20_plain.f
  have := plain_loop l hl l.length k 0 [] (by omega) hk (by simpa using hl)
  simpa using this
theorem same_loop (l : List S40) (hl : l.length ≤ 1000000) : ∀ (d k j : Nat), j + d = l.length → d < k → clepsydralaw20_same.l0 k l l (j : Int) = some true
  | 0, k, j, hj, hk => by
    obtain ⟨k, rfl⟩ : ∃ m, k = m + 1 := ⟨k - 1, by omega⟩
    simp only [clepsydralaw20_same.l0]
    rw [if_neg (by omega)]
  | d + 1, k, j, hj, hk => by
    obtain ⟨k, rfl⟩ : ∃ m, k = m + 1 := ⟨k - 1, by omega⟩
    simp only [clepsydralaw20_same.l0]
    rw [if_pos (by omega), if_pos (by omega), if_pos (by omega), wrap_next j (by omega), if_neg (by simp)]
    exact same_loop l hl d k (j + 1) (by omega) (by omega)
theorem same_some (l : List S40) (k : Nat) (hl : l.length ≤ 1000000) (hk : l.length < k) : clepsydralaw20_same.f k l l = some true := by
  unfold clepsydralaw20_same.f
  rw [if_pos rfl]
  exact same_loop l hl l.length k 0 (by omega) hk

/-! ### the two counts -/
def cnt (u : Int) (l : List S24) : Nat := (l.filter fun x => x.f0 == u).length
theorem cnt_le (u : Int) (l : List S24) : cnt u l ≤ l.length := List.length_filter_le _ _
theorem cnt_cons (u : Int) (x : S24) (l : List S24) : cnt u (x :: l) = (if x.f0 = u then 1 else 0) + cnt u l := by
  unfold cnt
  by_cases h : x.f0 = u
  · simp [h, Nat.add_comm]
  · simp [h]
/-- What the two counts have to be. -/
def CntOk (m n lb lw : Nat) : Prop := m ≤ n ∧ (m = 0 ∨ 0 < n) ∧ lw - n = lb - m ∧ m ≤ lb ∧ n ≤ lw
theorem l1_loop (bad worse : List S24) (u a1 : Int) (a2 : Bool) (m : Nat) (hb : bad.length ≤ 1000000) (hw : worse.length ≤ 1000000) (hm : m ≤ 1000000) : ∀ (d k j c : Nat), j + d = worse.length → d + 5 < k → c + d ≤ 1000000 → CntOk m (c + cnt u (worse.drop j)) bad.length worse.length →
    clepsydralaw20_JobsMore.l1 k bad worse (m : Int) (c : Int) (j : Int) u a1 a2 = some true
  | 0, k, j, c, hj, hk, _, hc => by
    obtain ⟨k, rfl⟩ : ∃ m, k = m + 1 := ⟨k - 1, by omega⟩
    rw [List.drop_of_length_le (by omega)] at hc
    obtain ⟨h1, h2, h3, h4, h5⟩ := hc
    simp only [cnt, List.filter_nil, List.length_nil, Nat.add_zero] at h1 h2 h3 h4 h5
    simp only [clepsydralaw20_JobsMore.l1]
    have e : wrap64 ((worse.length : Int) - c) = wrap64 ((bad.length : Int) - m) := by
      have : (worse.length : Int) - c = (bad.length : Int) - m := by omega
      rw [this]
    rw [if_neg (by omega), if_pos (by omega), if_pos e, works_true k (by omega)]
    by_cases h0 : (m : Int) = 0
    · rw [if_pos h0]; rfl
    · rw [if_neg h0, if_pos (by omega)]; rfl
  | d + 1, k, j, c, hj, hk, hcd, hc => by
    obtain ⟨k, rfl⟩ : ∃ m, k = m + 1 := ⟨k - 1, by omega⟩
    have hjl : j < worse.length := by omega
    rw [drop_step worse j z24 hjl, cnt_cons] at hc
    simp only [clepsydralaw20_JobsMore.l1]
    rw [if_pos (by omega), if_pos (by omega), rd24, wrap_next j (by omega), wrap_next c (by omega)]
    by_cases hx : (worse.getD j z24).f0 = u
    · rw [if_pos hx] at hc ⊢
      refine l1_loop bad worse u a1 a2 m hb hw hm d k (j + 1) (c + 1) (by omega) (by omega) (by omega) ?_
      rw [Nat.add_assoc]
      exact hc
    · rw [if_neg hx] at hc ⊢
      refine l1_loop bad worse u a1 a2 m hb hw hm d k (j + 1) c (by omega) (by omega) (by omega) ?_
      rw [Nat.zero_add] at hc
      exact hc
theorem l0_loop (bad worse : List S24) (u a1 : Int) (a2 : Bool) (hb : bad.length ≤ 1000000) (hw : worse.length ≤ 1000000) : ∀ (d k j c : Nat), j + d = bad.length → d + worse.length + 10 < k → c + d ≤ 1000000 → CntOk (c + cnt u (bad.drop j)) (cnt u worse) bad.length worse.length →
    clepsydralaw20_JobsMore.l0 k bad worse (c : Int) 0 (j : Int) u a1 a2 = some true
  | 0, k, j, c, hj, hk, hcd, hc => by
    obtain ⟨k, rfl⟩ : ∃ m, k = m + 1 := ⟨k - 1, by omega⟩
    rw [List.drop_of_length_le (by omega)] at hc
    simp only [clepsydralaw20_JobsMore.l0]
    rw [if_neg (by omega)]
    have hc' : CntOk c (0 + cnt u (worse.drop 0)) bad.length worse.length := by simpa [cnt] using hc
    exact l1_loop bad worse u a1 a2 c hb hw (by omega) worse.length k 0 0 (by omega) (by omega) (by omega) hc'
  | d + 1, k, j, c, hj, hk, hcd, hc => by
    obtain ⟨k, rfl⟩ : ∃ m, k = m + 1 := ⟨k - 1, by omega⟩
    have hjl : j < bad.length := by omega
    rw [drop_step bad j z24 hjl, cnt_cons] at hc
    simp only [clepsydralaw20_JobsMore.l0]
    rw [if_pos (by omega), if_pos (by omega), rd24, wrap_next j (by omega), wrap_next c (by omega)]
    by_cases hx : (bad.getD j z24).f0 = u
    · rw [if_pos hx] at hc ⊢
      refine l0_loop bad worse u a1 a2 hb hw d k (j + 1) (c + 1) (by omega) (by omega) (by omega) ?_
      rw [Nat.add_assoc]
      exact hc
    · rw [if_neg hx] at hc ⊢
      refine l0_loop bad worse u a1 a2 hb hw d k (j + 1) c (by omega) (by omega) (by omega) ?_
      rw [Nat.zero_add] at hc
      exact hc

/-! ### what is whole, of the unit and of the others -/
theorem wholeGo_length : ∀ (k : Nat) (s out : List S26) (bad : List S24), (wholeGo k s out bad).1.length ≤ out.length + s.length ∧ (wholeGo k s out bad).2.length ≤ bad.length + s.length
  | 0, s, out, bad => by simp [wholeGo]
  | k + 1, [], out, bad => by simp [wholeGo]
  | k + 1, x :: s, out, bad => by
    have hp := unitLen_pos x s
    have hle := unitLen_le x.f0.f0 (x :: s)
    simp only [wholeGo]
    generalize unitLen x.f0.f0 (x :: s) = n at hp hle ⊢
    have hd : ((x :: s).drop n).length = (x :: s).length - n := List.length_drop
    have ht : (((x :: s).take n).map (·.f0)).length = n := by rw [List.length_map, List.length_take]; omega
    generalize mergeG x ((x :: s).take n) = m
    split
    · have h := wholeGo_length k ((x :: s).drop n) (out ++ [⟨⟨x.f0.f0, m.1⟩, m.2.1⟩]) bad
      have ha : (out ++ [(⟨⟨x.f0.f0, m.1⟩, m.2.1⟩ : S26)]).length = out.length + 1 := by simp
      rw [ha, hd] at h
      generalize wholeGo k ((x :: s).drop n) (out ++ [⟨⟨x.f0.f0, m.1⟩, m.2.1⟩]) bad = r at h ⊢
      omega
    · have h := wholeGo_length k ((x :: s).drop n) out (bad ++ ((x :: s).take n).map (·.f0))
      have ha : (bad ++ ((x :: s).take n).map (·.f0)).length = bad.length + n := by rw [List.length_append, ht]
      rw [ha, hd] at h
      generalize wholeGo k ((x :: s).drop n) out (bad ++ ((x :: s).take n).map (·.f0)) = r at h ⊢
      omega
theorem wholeF_length (l : List S26) : (wholeF l).1.length ≤ l.length ∧ (wholeF l).2.length ≤ l.length := by
  have h := wholeGo_length (sortedF l).length (sortedF l) [] []
  have := sortedF_length l
  unfold wholeF
  simp at h
  omega
theorem filter_split {α : Type} (p q : α → Bool) (h : ∀ x, q x = !p x) : ∀ l : List α, l.length = (l.filter p).length + (l.filter q).length
  | [] => rfl
  | x :: l => by
    have ih := filter_split p q h l
    have hx := h x
    cases hp : p x <;> simp [hp, hx] <;> omega
theorem one_unit (u : Int) (l : List S26) (h : ∀ x ∈ l, x.f0.f0 = u) : (wholeF l).1.length ≤ 1 ∧ ((wholeF l).2 = [] ∧ (sortedF l = [] ∨ ∃ x s, sortedF l = x :: s ∧ OkT x.f0.f1 (x :: s)) ∨ (wholeF l).2 = (sortedF l).map (·.f0) ∧ ∃ x s, sortedF l = x :: s ∧ ¬ OkT x.f0.f1 (x :: s)) := by
  have hs : ∀ y ∈ sortedF l, y.f0.f0 = u := by
    intro y hy
    have e := sortedF_filter (fun j => j.f0 == u) l
    have e2 : l.filter (fun x => x.f0.f0 == u) = l := by
      rw [List.filter_eq_self]
      intro x hx
      simpa using h x hx
    rw [e2] at e
    rw [← e] at hy
    simpa using (List.mem_filter.1 hy).2
  unfold wholeF
  cases hq : sortedF l with
  | nil => exact ⟨by simp [wholeGo], .inl ⟨rfl, .inl rfl⟩⟩
  | cons x s =>
    rw [hq] at hs
    rw [wholeGo_one u x s hs]
    by_cases hm : (mergeG x (x :: s)).2.2 = true
    · rw [if_pos hm]
      exact ⟨by simp, .inl ⟨rfl, .inr ⟨x, s, rfl, (mergeG_ok x (x :: s)).1 hm⟩⟩⟩
    · rw [if_neg hm]
      exact ⟨by simp, .inr ⟨rfl, x, s, rfl, fun h => hm ((mergeG_ok x (x :: s)).2 h)⟩⟩
/-- That all types of a row merge, whatever their order. -/
def OkAll (l : List S24) : Prop := ∀ a ∈ l, known a.f1 = true ∧ ∀ b ∈ l, (a.f1 = 2 ↔ b.f1 = 2)
theorem okT_all (x : S26) (s : List S26) : OkT x.f0.f1 (x :: s) ↔ OkAll ((x :: s).map (·.f0)) := by
  unfold OkT OkAll
  constructor
  · rintro ⟨h1, h2⟩ a ha
    obtain ⟨y, hy, rfl⟩ := List.mem_map.1 ha
    refine ⟨(h2 y hy).1, fun b hb => ?_⟩
    obtain ⟨z, hz, rfl⟩ := List.mem_map.1 hb
    rw [(h2 y hy).2, (h2 z hz).2]
  · intro h
    have hx := h x.f0 (by simp)
    refine ⟨hx.1, fun y hy => ?_⟩
    have hy' := h y.f0 (List.mem_map.2 ⟨y, hy, rfl⟩)
    exact ⟨hy'.1, hy'.2 x.f0 (by simp)⟩
theorem mem_sorted (l : List S26) (j : S24) : j ∈ (sortedF l).map (·.f0) ↔ j ∈ Mp.keys (mustOf l) := by
  rw [sortedF_jobs]
  exact (sortJobs_perm' _).mem_iff
theorem len_sorted (l : List S26) : ((sortedF l).map (·.f0)).length = (Mp.keys (mustOf l)).length := by
  rw [sortedF_jobs, sortJobs_length]
theorem counts (l : List S26) (x : S26) : CntOk (cnt x.f0.f0 (wholeF l).2) (cnt x.f0.f0 (wholeF (l ++ [x])).2) (wholeF l).2.length (wholeF (l ++ [x])).2.length := by
  obtain ⟨u, hu⟩ : ∃ u, u = x.f0.f0 := ⟨_, rfl⟩
  rw [← hu]
  have h1 := (wholeF_filter (fun i => i == u) l).2
  have h2 := (wholeF_filter (fun i => i == u) (l ++ [x])).2
  have h3 := (wholeF_filter (fun i => i != u) l).2
  have h4 := (wholeF_filter (fun i => i != u) (l ++ [x])).2
  have e1 : (l ++ [x]).filter (fun y => y.f0.f0 != u) = l.filter (fun y => y.f0.f0 != u) := by simp [hu]
  have e2 : (l ++ [x]).filter (fun y => y.f0.f0 == u) = l.filter (fun y => y.f0.f0 == u) ++ [x] := by simp [hu]
  rw [e1] at h4
  rw [e2] at h2
  have s1 := filter_split (fun y : S24 => y.f0 == u) (fun y => y.f0 != u) (fun _ => rfl) (wholeF l).2
  have s2 := filter_split (fun y : S24 => y.f0 == u) (fun y => y.f0 != u) (fun _ => rfl) (wholeF (l ++ [x])).2
  rw [h3] at s1
  rw [h4] at s2
  have hone : ∀ y ∈ l.filter (fun y => y.f0.f0 == u), y.f0.f0 = u := fun y hy => by simpa using (List.mem_filter.1 hy).2
  have hone2 : ∀ y ∈ l.filter (fun y => y.f0.f0 == u) ++ [x], y.f0.f0 = u := fun y hy => by
    rcases List.mem_append.1 hy with hy | hy
    · exact hone y hy
    · rw [List.mem_singleton.1 hy, hu]
  have o1 := (one_unit u _ hone).2
  have o2 := (one_unit u _ hone2).2
  unfold CntOk cnt
  rw [h1] at s1 ⊢
  rw [h2] at s2 ⊢
  generalize l.filter (fun y => y.f0.f0 == u) = g at *
  have hkeys : ∀ j, j ∈ Mp.keys (mustOf g) → j ∈ Mp.keys (mustOf (g ++ [x])) := fun j hj => by
    rw [mustOf_snoc, Mp.mem_keys_put]
    exact .inr hj
  have hklen : (Mp.keys (mustOf g)).length ≤ (Mp.keys (mustOf (g ++ [x]))).length := by
    rw [mustOf_snoc, Mp.keys_put]
    split
    · exact Nat.le_refl _
    · simp
  rcases o1 with ⟨o1, _⟩ | ⟨o1, y, s, hs, hno⟩
  · rw [o1] at s1 ⊢
    simp only [List.length_nil] at s1 ⊢
    exact ⟨by omega, .inl trivial, by omega, by omega, by omega⟩
  · have hw : (wholeF (g ++ [x])).2 = (sortedF (g ++ [x])).map (·.f0) := by
      rcases o2 with ⟨_, hok⟩ | ⟨o2, _⟩
      · exfalso
        apply hno
        rw [okT_all, ← hs]
        have hall : OkAll ((sortedF (g ++ [x])).map (·.f0)) := by
          rcases hok with hok | ⟨z, s', hz, hok⟩
          · rw [hok]
            intro a ha
            simp at ha
          · rw [hz]
            exact (okT_all z s').1 hok
        intro a ha
        have ha' := (mem_sorted (g ++ [x]) a).2 (hkeys a ((mem_sorted g a).1 ha))
        refine ⟨(hall a ha').1, fun b hb => (hall a ha').2 b ((mem_sorted (g ++ [x]) b).2 (hkeys b ((mem_sorted g b).1 hb)))⟩
      · exact o2
    have l1 := len_sorted g
    have l2 := len_sorted (g ++ [x])
    have hpos : 0 < ((sortedF g).map (·.f0)).length := by rw [hs]; simp
    rw [o1] at s1 ⊢
    rw [hw] at s2 ⊢
    omega

theorem JobsMore : P.JobsMore.Pure := by
  intro l x hl hx
  by_cases h60 : (l.length : Int) > 60
  · refine ⟨5, ?_⟩
    unfold clepsydralaw20_JobsMore.f
    rw [if_pos h60, works_five]
    rfl
  have hle : l.length ≤ 60 := by omega
  obtain ⟨x1, x2⟩ := wholeF_length l
  obtain ⟨y1, y2⟩ := wholeF_length (l ++ [x])
  rw [List.length_append, List.length_singleton] at y1 y2
  refine ⟨400, ?_⟩
  unfold clepsydralaw20_JobsMore.f
  have w1 : jobs_Whole.f l = some (wholeF l) := by unfold jobs_Whole.f; rw [if_pos (by omega)]
  have w2 : jobs_Whole.f (l ++ [x]) = some (wholeF (l ++ [x])) := by unfold jobs_Whole.f; rw [if_pos (by simp; omega)]
  have hex : (⟨(⟨x.f0.f0, x.f0.f1⟩ : S24), x.f1⟩ : S26) = x := rfl
  rw [if_neg h60, w1]
  simp only [Option.bind_some, List.nil_append, List.length_nil]
  rw [if_pos (by omega), if_pos (by omega), hex, w2]
  simp only [Option.bind_some]
  have f1 : ((wholeF l).1.filter fun y => y.f0.f0 != x.f0.f0) = (wholeF (l ++ [x])).1.filter fun y => y.f0.f0 != x.f0.f0 := by
    have h3 := (wholeF_filter (fun i => i != x.f0.f0) l).1
    have h4 := (wholeF_filter (fun i => i != x.f0.f0) (l ++ [x])).1
    have e1 : (l ++ [x]).filter (fun y => y.f0.f0 != x.f0.f0) = l.filter (fun y => y.f0.f0 != x.f0.f0) := by simp
    rw [e1] at h4
    rw [h3, h4]
  have one : ∀ m : List S26, (wholeF m).1.length ≤ 61 → wrap64 (((wholeF m).1.length : Int) - (((wholeF m).1.filter fun y => y.f0.f0 != x.f0.f0).length : Int)) ≤ 1 := by
    intro m hm
    have s1 := filter_split (fun y : S26 => y.f0.f0 == x.f0.f0) (fun y => y.f0.f0 != x.f0.f0) (fun _ => rfl) (wholeF m).1
    have h3 := (wholeF_filter (fun i => i == x.f0.f0) m).1
    have o := (one_unit x.f0.f0 (m.filter fun y => y.f0.f0 == x.f0.f0) (fun y hy => by simpa using (List.mem_filter.1 hy).2)).1
    rw [h3] at s1
    unfold wrap64
    omega
  have g1 : ((wholeF l).1.filter fun y => y.f0.f0 != x.f0.f0).length ≤ 60 := Nat.le_trans (List.length_filter_le _ _) (by omega)
  have g2 : ((wholeF (l ++ [x])).1.filter fun y => y.f0.f0 != x.f0.f0).length ≤ 61 := Nat.le_trans (List.length_filter_le _ _) (by omega)
  rw [others_some _ _ _ (by omega) (by omega)]
  simp only [Option.bind_some]
  rw [plain_some _ _ (by omega) (by omega)]
  simp only [Option.bind_some]
  rw [others_some _ _ _ (by omega) (by omega)]
  simp only [Option.bind_some]
  rw [plain_some _ _ (by omega) (by omega)]
  simp only [Option.bind_some]
  rw [f1, same_some _ _ (by simp; omega) (by simp; omega)]
  simp only [Option.bind_some, if_true]
  rw [← f1, if_neg (by have := one l (by omega); omega), f1, decide_eq_false (by have := one (l ++ [x]) (by omega); omega)]
  simp only [clepsydralaw20_JobsMore.j0, Bool.false_eq_true, if_false]
  have hc := counts l x
  exact l0_loop (wholeF l).2 (wholeF (l ++ [x])).2 x.f0.f0 x.f0.f1 x.f1 (by omega) (by omega) (wholeF l).2.length 399 0 0 (by omega) (by omega) (by omega) (by simpa using hc)
end Go.Proofs.Ythbpjlfpfpcpbaa.Pure
