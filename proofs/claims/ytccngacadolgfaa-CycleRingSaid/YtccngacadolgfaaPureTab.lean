/- The plain law of cycle.far: what its map holds. No program in sight. The plain law of cycle.far: its map holds, of each place, how many steps it is to home. The plain law of cycle.ring: the ring told is the first, in order, of all ways of that length. The plain law of cycle.Ring: the least ring, as the document tries them. The plain law of cycle.Order: who waits for none goes next; the document's choice. There is an order just if there is no ring. The rows of cycle.next are those of a table; no job comes ahead of itself. -/
import Derived.Test.YtccngacadolgfaaRing2
import Derived.Test.YtccngacadolgfaaOrderC
set_option linter.unusedVariables false
set_option linter.unusedSimpArgs false
namespace Go.Proofs.Ytccngacadolgfaa.P
open Go.RowKit Go.Proofs.YtccngacadolgfaaW.PrintWords Go.Proofs.YtccngacadolgfaaW.PrintLast Go.Proofs.YtccngacadolgfaaW.PrintMore

theorem rdL_set_eq (b : List (List Int)) (x k : Int) (v : List Int) (hx : 0 ≤ x) (hk : 0 ≤ k) (hkl : k < b.length) : rd_L1 (b.set x.toNat v) k = if x = k then v else rd_L1 b k := by
  unfold rd_L1
  rw [List.getD_eq_getElem?_getD, List.getD_eq_getElem?_getD, List.getElem?_set]
  by_cases h : x = k
  · subst h
    rw [if_pos rfl, if_pos rfl, if_pos (by omega)]
    rfl
  · rw [if_neg h, if_neg (by omega)]
theorem backFold_mem (j : Nat) (k i : Int) (hk : 0 ≤ k) : ∀ (row : List Int) (b : List (List Int)), k < b.length → (∀ x ∈ row, 0 ≤ x) → (i ∈ rd_L1 (row.foldl (backStep j) b) k ↔ i ∈ rd_L1 b k ∨ (i = j ∧ k ∈ row))
  | [], b, _, _ => by simp
  | x :: row, b, hl, hr => by
    rw [List.foldl_cons, backFold_mem j k i hk row _ (by rw [backStep_len]; exact hl) (fun y hy => hr y (List.mem_cons_of_mem _ hy))]
    unfold backStep
    rw [rdL_set_eq b x k _ (hr x List.mem_cons_self) hk hl]
    by_cases h : x = k
    · subst h
      simp
      intro h _
      exact .inr h
    · rw [if_neg h]
      have h2 : ¬ k = x := fun e => h e.symm
      simp [h2]
theorem backTo_mem_iff {nx : List (List Int)} (ho : OkTo nx) (j : Nat) (k i : Int) (hk : 0 ≤ k) (hkl : k < nx.length) : i ∈ rd_L1 (backTo nx j) k ↔ 0 ≤ i ∧ i < j ∧ k ∈ rd_L1 nx i := by
  induction j with
  | zero =>
    unfold rd_L1 backTo
    rw [List.getD_eq_getElem?_getD, List.getElem?_replicate]
    split
    · simp; omega
    · simp; omega
  | succ j ih =>
    rw [backTo, backFold_mem j k i hk _ _ (by rw [backTo_len]; exact hkl) (fun x hx => (rdL_mem ho j x hx).1), ih]
    constructor
    · rintro (⟨h0, h1, h2⟩ | ⟨rfl, h2⟩)
      · exact ⟨h0, by omega, h2⟩
      · exact ⟨by omega, by omega, h2⟩
    · rintro ⟨h0, h1, h2⟩
      by_cases h : i = j
      · subst h
        exact .inr ⟨rfl, h2⟩
      · exact .inl ⟨h0, by omega, h2⟩

/-- A way of n steps from k to home, through places above it. -/
def Way (nx : List (List Int)) (home : Int) : Nat → Int → Prop
  | 0, _ => False
  | 1, k => home ∈ rd_L1 nx k
  | n + 2, k => ∃ j, home < j ∧ j ∈ rd_L1 nx k ∧ Way nx home (n + 1) j
/-- The least such. -/
def Dist (nx : List (List Int)) (home : Int) (n : Nat) (k : Int) : Prop := Way nx home n k ∧ ∀ m, m < n → ¬ Way nx home m k
theorem dist_unique {nx : List (List Int)} {home k : Int} {n m : Nat} (h : Dist nx home n k) (h2 : Dist nx home m k) : n = m := by
  rcases Nat.lt_trichotomy n m with h3 | h3 | h3
  · exact absurd h.1 (h2.2 n h3)
  · exact h3
  · exact absurd h2.1 (h.2 m h3)
theorem dist_step {nx : List (List Int)} {home k : Int} {n : Nat} (h : Dist nx home (n + 2) k) : ∃ j, home < j ∧ j ∈ rd_L1 nx k ∧ Dist nx home (n + 1) j := by
  obtain ⟨⟨j, h1, h2, h3⟩, h4⟩ := h
  refine ⟨j, h1, h2, h3, fun m hm hw => ?_⟩
  cases m with
  | zero => exact hw
  | succ m => exact h4 (m + 2) (by omega) ⟨j, h1, h2, hw⟩

/-- What is known when the places n - 1 steps off have been found: todo holds those of just n - 1. -/
structure Level (nx : List (List Int)) (home : Int) (n : Nat) (st : List (Int × Int)) (todo : List Int) : Prop where
  known : ∀ k d, Mp.get st k = some d ↔ home ≤ k ∧ k < nx.length ∧ ∃ m, m < n ∧ d = (m : Int) ∧ Dist nx home m k
  now : ∀ k, k ∈ todo ↔ home ≤ k ∧ k < nx.length ∧ ∃ m, n = m + 1 ∧ Dist nx home m k
theorem goes_get (home n : Int) : ∀ (row : List Int) (p : List (Int × Int) × List Int) (k : Int), Mp.get (row.foldl (goes1 home n) p).1 k = (match Mp.get p.1 k with | some d => some d | none => if home ≤ k ∧ k ∈ row then some n else none)
  | [], p, k => by
    cases h : Mp.get p.1 k <;> simp [h]
  | x :: row, p, k => by
    rw [List.foldl_cons, goes_get home n row _ k]
    unfold goes1
    by_cases hx : home ≤ x ∧ Mp.get p.1 x = none
    · rw [if_pos hx]
      simp only
      rw [Mp.get_put]
      by_cases hk : k = x
      · subst hk
        rw [if_pos rfl, hx.2]
        simp [hx.1]
      · rw [if_neg hk]
        cases Mp.get p.1 k <;> simp [hk]
    · rw [if_neg hx]
      cases hg : Mp.get p.1 k with
      | some d => rfl
      | none =>
        by_cases hk : k = x
        · subst hk
          have : ¬ home ≤ k := fun h => hx ⟨h, hg⟩
          simp [this]
        · simp [hk]
theorem goes_out (home n : Int) : ∀ (row : List Int) (p : List (Int × Int) × List Int) (k : Int), k ∈ (row.foldl (goes1 home n) p).2 ↔ k ∈ p.2 ∨ (home ≤ k ∧ k ∈ row ∧ Mp.get p.1 k = none)
  | [], p, k => by simp
  | x :: row, p, k => by
    rw [List.foldl_cons, goes_out home n row _ k]
    unfold goes1
    by_cases hx : home ≤ x ∧ Mp.get p.1 x = none
    · rw [if_pos hx]
      simp only
      rw [Mp.get_put]
      by_cases hk : k = x
      · subst hk
        simp [hx.1, hx.2]
      · rw [if_neg hk]
        simp [hk]
    · rw [if_neg hx]
      by_cases hk : k = x
      · subst hk
        simp
        constructor
        · rintro (h | h)
          · exact .inl h
          · exact absurd ⟨h.1, h.2.2⟩ hx
        · rintro (h | h)
          · exact .inl h
          · exact absurd h hx
      · simp [hk]
end Go.Proofs.Ytccngacadolgfaa.P

namespace Go.Proofs.Ytccngacadolgfaa.P
open Go.RowKit Go.Proofs.YtccngacadolgfaaW.PrintWords Go.Proofs.YtccngacadolgfaaW.PrintLast Go.Proofs.YtccngacadolgfaaW.PrintMore

theorem nodup_bound : ∀ (m : Nat) (l : List Int), l.Nodup → (∀ k ∈ l, 0 ≤ k ∧ k < (m : Int)) → l.length ≤ m
  | 0, l, _, h => by
    cases l with
    | nil => simp
    | cons x l => have := h x List.mem_cons_self; omega
  | m + 1, l, hn, h => by
    have h1 := nodup_bound m (l.erase (m : Int)) (hn.erase _) (fun k hk => by
      have h2 := (hn.mem_erase_iff).1 hk
      have h3 := h k h2.2
      have h4 := h2.1
      omega)
    have h2 : l.length ≤ (l.erase (m : Int)).length + 1 := by rw [List.length_erase]; split <;> omega
    omega
theorem expand_get (b : List (List Int)) (home n : Int) : ∀ (l : List Int) (p : List (Int × Int) × List Int) (k : Int), Mp.get (l.foldl (expandF b home n) p).1 k = (match Mp.get p.1 k with | some d => some d | none => if home ≤ k ∧ ∃ x ∈ l, x ≠ home ∧ k ∈ rd_L1 b x then some n else none)
  | [], p, k => by cases h : Mp.get p.1 k <;> simp [h]
  | x :: l, p, k => by
    rw [List.foldl_cons, expand_get b home n l _ k]
    unfold expandF
    by_cases hx : x = home
    · rw [if_pos hx]
      cases hg : Mp.get p.1 k with
      | some d => rfl
      | none => simp [hx]
    · rw [if_neg hx]
      simp only [goesF]
      rw [goes_get]
      cases hg : Mp.get p.1 k with
      | some d => rfl
      | none =>
        simp only
        by_cases hk : home ≤ k ∧ k ∈ rd_L1 b x
        · rw [if_pos hk]
          show some n = _
          rw [if_pos ⟨hk.1, x, List.mem_cons_self, hx, hk.2⟩]
        · rw [if_neg hk]
          simp only
          by_cases h2 : home ≤ k ∧ ∃ y ∈ l, y ≠ home ∧ k ∈ rd_L1 b y
          · rw [if_pos h2, if_pos ⟨h2.1, by obtain ⟨y, hy, h3⟩ := h2.2; exact ⟨y, List.mem_cons_of_mem _ hy, h3⟩⟩]
          · rw [if_neg h2, if_neg (fun h3 => by
              obtain ⟨h4, y, hy, h5, h6⟩ := h3
              rcases List.mem_cons.1 hy with rfl | hy
              · exact hk ⟨h4, h6⟩
              · exact h2 ⟨h4, y, hy, h5, h6⟩)]
theorem expand_out (b : List (List Int)) (home n : Int) : ∀ (l : List Int) (p : List (Int × Int) × List Int) (k : Int), k ∈ (l.foldl (expandF b home n) p).2 ↔ k ∈ p.2 ∨ (home ≤ k ∧ Mp.get p.1 k = none ∧ ∃ x ∈ l, x ≠ home ∧ k ∈ rd_L1 b x)
  | [], p, k => by simp
  | x :: l, p, k => by
    rw [List.foldl_cons, expand_out b home n l _ k]
    unfold expandF
    by_cases hx : x = home
    · rw [if_pos hx]
      simp [hx]
    · rw [if_neg hx]
      simp only [goesF, List.mem_append]
      rw [goes_get, goes_out]
      simp only [List.not_mem_nil, false_or]
      cases hg : Mp.get p.1 k with
      | some d => simp
      | none =>
        simp only [and_true, true_and]
        by_cases hk : home ≤ k
        · by_cases hm : k ∈ rd_L1 b x
          · simp [hk, hm, hx]
          · simp [hk, hm]
        · simp [hk]
theorem way_dist {nx : List (List Int)} {home k : Int} : ∀ (n : Nat), Way nx home n k → ∃ m, m ≤ n ∧ Dist nx home m k := by
  intro n
  induction n using Nat.strongRecOn with
  | ind n ih =>
    intro h
    by_cases h2 : ∃ m, m < n ∧ Way nx home m k
    · obtain ⟨m, hm, hw⟩ := h2
      obtain ⟨q, hq, hd⟩ := ih m hm hw
      exact ⟨q, by omega, hd⟩
    · exact ⟨n, Nat.le_refl _, h, fun m hm hw => h2 ⟨m, hm, hw⟩⟩
theorem way_lt {nx : List (List Int)} (ho : OkTo nx) {home k : Int} {n : Nat} (h : Way nx home n k) : k < nx.length := by
  have hr : ∀ {j : Int}, j ∈ rd_L1 nx k → k < nx.length := fun {j} hj => by
    unfold rd_L1 at hj
    rw [List.getD_eq_getElem?_getD] at hj
    rcases Nat.lt_or_ge k.toNat nx.length with h1 | h1
    · omega
    · rw [List.getElem?_eq_none h1] at hj
      cases hj
  match n, h with
  | 0, h => exact h.elim
  | 1, h => exact hr h
  | n + 2, ⟨j, _, hj, _⟩ => exact hr hj

variable {nx : List (List Int)} {home : Int}
theorem level_step (ho : OkTo nx) (hh0 : 0 ≤ home) {n : Nat} (hn : 1 ≤ n) {st : List (Int × Int)} {todo : List Int} (h : Level nx home (n + 1) st todo) :
    Level nx home (n + 2) (todo.foldl (expandF (backTo nx nx.length) home ((n + 1 : Nat) : Int)) (st, [])).1 (todo.foldl (expandF (backTo nx nx.length) home ((n + 1 : Nat) : Int)) (st, [])).2 := by
  have key : ∀ k, home ≤ k → (Dist nx home (n + 1) k ↔ Mp.get st k = none ∧ ∃ x ∈ todo, x ≠ home ∧ k ∈ rd_L1 (backTo nx nx.length) x) := by
    intro k hk
    constructor
    · intro hd
      refine ⟨?_, ?_⟩
      · cases hg : Mp.get st k with
        | none => rfl
        | some d =>
          obtain ⟨_, _, m, hm, _, hd2⟩ := (h.known k d).1 hg
          have := dist_unique hd hd2
          omega
      · obtain ⟨q, rfl⟩ : ∃ q, n = q + 1 := ⟨n - 1, by omega⟩
        obtain ⟨j, hj, hjm, hjd⟩ := dist_step hd
        have hjr := rdL_mem ho k j hjm
        have hkl := way_lt ho hd.1
        exact ⟨j, (h.now j).2 ⟨by omega, hjr.2, q + 1, rfl, hjd⟩, by omega, (backTo_mem_iff ho nx.length j k hjr.1 hjr.2).2 ⟨by omega, hkl, hjm⟩⟩
    · rintro ⟨hg, x, hx, hxh, hkx⟩
      obtain ⟨hx1, hx2, m, hm, hd⟩ := (h.now x).1 hx
      obtain rfl : m = n := by omega
      obtain ⟨hk0, hkl, hxk⟩ := (backTo_mem_iff ho nx.length x k (by omega) hx2).1 hkx
      obtain ⟨q, rfl⟩ : ∃ q, m = q + 1 := ⟨m - 1, by omega⟩
      have hw : Way nx home (q + 2) k := ⟨x, by omega, hxk, hd.1⟩
      refine ⟨hw, fun m2 hm2 hw2 => ?_⟩
      obtain ⟨m3, hm3, hd3⟩ := way_dist m2 hw2
      have := (h.known k m3).2 ⟨hk, hkl, m3, by omega, rfl, hd3⟩
      rw [hg] at this
      cases this
  refine ⟨fun k d => ?_, fun k => ?_⟩
  · rw [expand_get]
    cases hg : Mp.get st k with
    | some d2 =>
      simp only
      have h2 := (h.known k d2).1 hg
      obtain ⟨h3, h4, m, hm, rfl, hd⟩ := h2
      constructor
      · intro e
        cases e
        exact ⟨h3, h4, m, by omega, rfl, hd⟩
      · rintro ⟨_, _, m2, _, rfl, hd2⟩
        rw [dist_unique hd hd2]
    | none =>
      simp only
      by_cases hk : home ≤ k
      · have hkey := key k hk
        rw [hg] at hkey
        simp only [true_and] at hkey
        by_cases hx : ∃ x ∈ todo, x ≠ home ∧ k ∈ rd_L1 (backTo nx nx.length) x
        · rw [if_pos ⟨hk, hx⟩]
          have hd := hkey.2 hx
          constructor
          · intro e
            cases e
            exact ⟨hk, way_lt ho hd.1, n + 1, by omega, rfl, hd⟩
          · rintro ⟨_, _, m2, _, rfl, hd2⟩
            rw [dist_unique hd2 hd]
        · rw [if_neg (fun h => hx h.2)]
          constructor
          · intro e; cases e
          · rintro ⟨_, hkl, m2, hm2, rfl, hd2⟩
            exfalso
            rcases Nat.lt_or_ge m2 (n + 1) with h5 | h5
            · have := (h.known k m2).2 ⟨hk, hkl, m2, h5, rfl, hd2⟩
              rw [hg] at this
              cases this
            · obtain rfl : m2 = n + 1 := by omega
              exact hx (hkey.1 hd2)
      · rw [if_neg (fun h => hk h.1)]
        constructor
        · intro e; cases e
        · rintro ⟨h1, _⟩; exact absurd h1 hk
  · rw [expand_out]
    simp only [List.not_mem_nil, false_or]
    constructor
    · rintro ⟨hk, hg, hx⟩
      have hd := (key k hk).2 ⟨hg, hx⟩
      exact ⟨hk, way_lt ho hd.1, n + 1, rfl, hd⟩
    · rintro ⟨hk, _, m, hm, hd⟩
      obtain rfl : m = n + 1 := by omega
      obtain ⟨hg, hx⟩ := (key k hk).1 hd
      exact ⟨hk, hg, hx⟩
theorem goes_count (home n : Int) : ∀ (row : List Int) (p : List (Int × Int) × List Int), (row.foldl (goes1 home n) p).1.length + p.2.length = p.1.length + (row.foldl (goes1 home n) p).2.length
  | [], p => rfl
  | x :: row, p => by
    rw [List.foldl_cons]
    have h := goes_count home n row (goes1 home n p x)
    unfold goes1 at h ⊢
    by_cases hx : home ≤ x ∧ Mp.get p.1 x = none
    · rw [if_pos hx] at h ⊢
      rw [Mp.put_fresh x n p.1 (Mp.get_none.1 hx.2)] at h ⊢
      simp only [List.length_append, List.length_singleton] at h ⊢
      omega
    · rw [if_neg hx] at h ⊢
      exact h
theorem goes_nodup (home n : Int) : ∀ (row : List Int) (p : List (Int × Int) × List Int), (Mp.keys p.1).Nodup → (Mp.keys (row.foldl (goes1 home n) p).1).Nodup
  | [], p, h => h
  | x :: row, p, h => by
    rw [List.foldl_cons]
    refine goes_nodup home n row _ ?_
    unfold goes1
    split
    · exact Mp.nodup_put h _ _
    · exact h
theorem expand_count (b : List (List Int)) (home n : Int) : ∀ (l : List Int) (p : List (Int × Int) × List Int), (l.foldl (expandF b home n) p).1.length + p.2.length = p.1.length + (l.foldl (expandF b home n) p).2.length
  | [], p => rfl
  | x :: l, p => by
    rw [List.foldl_cons]
    have h := expand_count b home n l (expandF b home n p x)
    unfold expandF at h ⊢
    by_cases hx : x = home
    · rw [if_pos hx] at h ⊢
      exact h
    · rw [if_neg hx] at h ⊢
      have h2 := goes_count home n (rd_L1 b x) (p.1, [])
      unfold goesF at h ⊢
      simp only [List.length_append, List.length_nil] at h h2 ⊢
      omega
theorem expand_nodup (b : List (List Int)) (home n : Int) : ∀ (l : List Int) (p : List (Int × Int) × List Int), (Mp.keys p.1).Nodup → (Mp.keys (l.foldl (expandF b home n) p).1).Nodup
  | [], p, h => h
  | x :: l, p, h => by
    rw [List.foldl_cons]
    refine expand_nodup b home n l _ ?_
    unfold expandF
    split
    · exact h
    · exact goes_nodup home n _ (p.1, []) h
theorem level_len (ho : OkTo nx) (hh0 : 0 ≤ home) {n : Nat} {st : List (Int × Int)} {todo : List Int} (h : Level nx home n st todo) (hn : (Mp.keys st).Nodup) : st.length ≤ 100 := by
  have h1 := nodup_bound nx.length (Mp.keys st) hn (fun k hk => by
    cases hg : Mp.get st k with
    | none => exact absurd hk (Mp.get_none.1 hg)
    | some d => have := (h.known k d).1 hg; omega)
  have h2 := ho.1
  simp [Mp.keys] at h1
  omega
theorem dist_down (ho : OkTo nx) {k : Int} {n : Nat} (hn : 1 ≤ n) : ∀ (m : Nat) (k : Int), n ≤ m → home ≤ k → Dist nx home m k → ∃ j, home ≤ j ∧ j < nx.length ∧ Dist nx home n j
  | m, k, hm, hk, hd => by
    by_cases h : m = n
    · subst h
      exact ⟨k, hk, way_lt ho hd.1, hd⟩
    · obtain ⟨q, rfl⟩ : ∃ q, m = q + 2 := ⟨m - 2, by omega⟩
      obtain ⟨j, hj, _, hjd⟩ := dist_step hd
      exact dist_down ho (k := j) hn (q + 1) j (by omega) (by omega) hjd
  termination_by m => m
theorem farGo_spec (ho : OkTo nx) (hh0 : 0 ≤ home) : ∀ (f n : Nat) (st : List (Int × Int)) (todo : List Int), 1 ≤ n → Level nx home (n + 1) st todo → (Mp.keys st).Nodup → 101 - st.length + (if todo = [] then 0 else 1) ≤ f →
    ∃ st', farGo (backTo nx nx.length) home f ((n + 1 : Nat) : Int) st todo = some st' ∧ ∀ k d, Mp.get st' k = some d ↔ home ≤ k ∧ k < nx.length ∧ ∃ m : Nat, d = (m : Int) ∧ Dist nx home m k
  | 0, n, st, todo, _, h, hnd, hf => by
    have := level_len ho hh0 h hnd
    omega
  | f + 1, n, st, todo, hn, h, hnd, hf => by
    have hl := level_len ho hh0 h hnd
    unfold farGo
    by_cases h0 : todo = []
    · rw [if_pos h0]
      refine ⟨st, rfl, fun k d => ?_⟩
      rw [h.known]
      constructor
      · rintro ⟨h1, h2, m, _, h3, h4⟩
        exact ⟨h1, h2, m, h3, h4⟩
      · rintro ⟨h1, h2, m, h3, h4⟩
        refine ⟨h1, h2, m, ?_, h3, h4⟩
        rcases Nat.lt_or_ge m (n + 1) with h5 | h5
        · exact h5
        · exfalso
          obtain ⟨j, hj1, hj2, hj3⟩ := dist_down ho (k := k) hn m k (by omega) h1 h4
          have := (h.now j).2 ⟨hj1, hj2, n, rfl, hj3⟩
          rw [h0] at this
          cases this
    · rw [if_neg h0]
      rw [if_neg h0] at hf
      have hs := level_step ho hh0 hn h
      obtain ⟨p, hp⟩ : ∃ p, p = todo.foldl (expandF (backTo nx nx.length) home ((n + 1 : Nat) : Int)) (st, []) := ⟨_, rfl⟩
      have hc := expand_count (backTo nx nx.length) home ((n + 1 : Nat) : Int) todo (st, [])
      have hd := expand_nodup (backTo nx nx.length) home ((n + 1 : Nat) : Int) todo (st, []) hnd
      rw [← hp] at hs hc hd ⊢
      have hpl := level_len ho hh0 hs hd
      simp only [List.length_nil] at hc
      rw [if_pos (by omega)]
      have e : ((n + 1 : Nat) : Int) + 1 = ((n + 1 + 1 : Nat) : Int) := by omega
      rw [e]
      refine farGo_spec ho hh0 f (n + 1) p.1 p.2 (by omega) hs hd ?_
      by_cases h1 : p.2 = []
      · rw [if_pos h1]
        rw [h1] at hc
        simp at hc
        omega
      · rw [if_neg h1]
        have := List.length_pos_iff.2 h1
        omega
theorem far_spec (ho : OkTo nx) (hh0 : 0 ≤ home) (hh1 : home < nx.length) : ∃ st, farF nx home = some st ∧ ∀ k d, Mp.get st k = some d ↔ home ≤ k ∧ k < nx.length ∧ ∃ m : Nat, d = (m : Int) ∧ Dist nx home m k := by
  have hb : ∀ k, k ∈ rd_L1 (backTo nx nx.length) home ↔ 0 ≤ k ∧ k < nx.length ∧ home ∈ rd_L1 nx k := fun k => backTo_mem_iff ho nx.length home k hh0 hh1
  have hd1 : ∀ k, Dist nx home 1 k ↔ home ∈ rd_L1 nx k := fun k => ⟨fun h => h.1, fun h => ⟨h, fun m hm hw => by
    have e : m = 0 := by omega
    subst e
    exact hw⟩⟩
  have hlev : Level nx home 2 (goesF home 1 [] (rd_L1 (backTo nx nx.length) home)).1 (goesF home 1 [] (rd_L1 (backTo nx nx.length) home)).2 := by
    refine ⟨fun k d => ?_, fun k => ?_⟩
    · unfold goesF
      rw [goes_get, Mp.get_nil]
      simp only
      constructor
      · intro h
        split at h
        · rename_i h2
          have h3 := (hb k).1 h2.2
          cases h
          exact ⟨h2.1, h3.2.1, 1, by omega, rfl, (hd1 k).2 h3.2.2⟩
        · cases h
      · rintro ⟨h1, h2, m, hm, rfl, hd⟩
        have hm1 : m = 1 := by
          cases m with
          | zero => exact hd.1.elim
          | succ m => omega
        subst hm1
        rw [if_pos ⟨h1, (hb k).2 ⟨by omega, h2, (hd1 k).1 hd⟩⟩]
        rfl
    · unfold goesF
      rw [goes_out, Mp.get_nil, hb]
      simp only [List.not_mem_nil, false_or, and_true]
      constructor
      · rintro ⟨h1, _, h2, h3⟩
        exact ⟨h1, h2, 1, rfl, (hd1 k).2 h3⟩
      · rintro ⟨h1, h2, m, hm, hd⟩
        obtain rfl : m = 1 := by omega
        exact ⟨h1, by omega, h2, (hd1 k).1 hd⟩
  have hnd : (Mp.keys (goesF home 1 [] (rd_L1 (backTo nx nx.length) home)).1).Nodup := goes_nodup home 1 _ ([], []) (by simp [Mp.keys])
  exact farGo_spec ho hh0 1000 1 _ _ (Nat.le_refl _) hlev hnd (by split <;> omega)
end Go.Proofs.Ytccngacadolgfaa.P

namespace Go.Proofs.Ytccngacadolgfaa.P
open Go.RowKit Go.Proofs.YtccngacadolgfaaW.PrintWords Go.Proofs.YtccngacadolgfaaW.PrintLast Go.Proofs.YtccngacadolgfaaW.PrintMore

def nodes (m : Nat) : List Int := (List.range m).map fun k : Nat => (k : Int)
theorem mem_nodes {m : Nat} {k : Int} : k ∈ nodes m ↔ 0 ≤ k ∧ k < m := by
  unfold nodes
  rw [List.mem_map]
  constructor
  · rintro ⟨i, hi, rfl⟩
    have := List.mem_range.1 hi
    omega
  · rintro ⟨h0, h1⟩
    exact ⟨k.toNat, List.mem_range.2 (by omega), by omega⟩
/-- The rows are those of a table. -/
structure Tab (nx : List (List Int)) (m : Nat) (E : Int → Int → Bool) : Prop where
  len : nx.length = m
  row : ∀ i : Int, 0 ≤ i → i < m → rd_L1 nx i = (nodes m).filter (E i)
  ok : OkTo nx
/-- The first way found, by trying in order. -/
def firstNE (l : List Int) (f : Int → List Int) : List Int := match l.find? (fun x => decide (f x ≠ [])) with
  | some x => f x
  | none => []
def goesS (m : Nat) (E : Int → Int → Bool) (dest low : Int) : Nat → List Int → List Int
  | 0, _ => []
  | 1, way => if E (way.getLastD 0) dest = true then way else []
  | n + 2, way => firstNE (nodes m) fun k => if low < k ∧ E (way.getLastD 0) k = true ∧ k ∉ way then goesS m E dest low (n + 1) (way ++ [k]) else []
variable {nx : List (List Int)} {m : Nat} {E : Int → Int → Bool} {home : Int}
theorem Tab.mem (h : Tab nx m E) {i k : Int} (h0 : 0 ≤ i) (h1 : i < m) : k ∈ rd_L1 nx i ↔ (0 ≤ k ∧ k < m) ∧ E i k = true := by
  rw [h.row i h0 h1, List.mem_filter, mem_nodes]
theorem firstNE_some {l : List Int} {f : Int → List Int} (h : firstNE l f ≠ []) : ∃ x ∈ l, f x ≠ [] := by
  unfold firstNE at h
  cases hf : l.find? (fun x => decide (f x ≠ [])) with
  | none => rw [hf] at h; exact absurd rfl h
  | some x => exact ⟨x, List.mem_of_find?_eq_some hf, by simpa using List.find?_some hf⟩
/-- What is found is a way. -/
theorem goes_way (h : Tab nx m E) (hh0 : 0 ≤ home) (hh1 : home < m) : ∀ (n : Nat) (way : List Int), 0 ≤ way.getLastD 0 → way.getLastD 0 < m → goesS m E home home n way ≠ [] → Way nx home n (way.getLastD 0)
  | 0, way, _, _, hg => absurd rfl hg
  | 1, way, h0, h1, hg => by
    unfold goesS at hg
    by_cases he : E (way.getLastD 0) home = true
    · exact (h.mem h0 h1).2 ⟨⟨hh0, hh1⟩, he⟩
    · rw [if_neg he] at hg; exact absurd rfl hg
  | n + 2, way, h0, h1, hg => by
    unfold goesS at hg
    obtain ⟨k, hk, hf⟩ := firstNE_some hg
    by_cases hc : home < k ∧ E (way.getLastD 0) k = true ∧ k ∉ way
    · rw [if_pos hc] at hf
      have hkr := mem_nodes.1 hk
      have hl : (way ++ [k]).getLastD 0 = k := by simp
      have hw := goes_way h hh0 hh1 (n + 1) (way ++ [k]) (by rw [hl]; exact hkr.1) (by rw [hl]; exact hkr.2) hf
      rw [hl] at hw
      exact ⟨k, hc.1, (h.mem h0 h1).2 ⟨hkr, hc.2.1⟩, hw⟩
    · rw [if_neg hc] at hf; exact absurd rfl hf
theorem find_congr {p q : Int → Bool} : ∀ (l : List Int), (∀ x ∈ l, p x = q x) → l.find? p = l.find? q
  | [], _ => rfl
  | x :: l, h => by
    rw [List.find?_cons, List.find?_cons, h x List.mem_cons_self, find_congr l (fun y hy => h y (List.mem_cons_of_mem _ hy))]
theorem ringGo_ne (st : List (Int × Int)) : ∀ (s : Nat) (at_ : Int) (out : List Int), out ≠ [] → ringGo nx st home s at_ out ≠ []
  | 0, _, out, h => h
  | s + 1, at_, out, h => by
    unfold ringGo
    exact ringGo_ne st s _ _ (by simp)
/-- From a place whose least way has s steps on: what is tried in order, and what the map leads to, are the same. -/
theorem ring_goes (h : Tab nx m E) (hh0 : 0 ≤ home) (hh1 : home < m) (st : List (Int × Int)) (hst : ∀ k d, Mp.get st k = some d ↔ home ≤ k ∧ k < nx.length ∧ ∃ q : Nat, d = (q : Int) ∧ Dist nx home q k) :
    ∀ (s : Nat) (way : List Int), way ≠ [] → 0 ≤ way.getLastD 0 → way.getLastD 0 < m → Dist nx home (s + 1) (way.getLastD 0) → (∀ k ∈ way, k = home ∨ ∃ q, s + 1 ≤ q ∧ Dist nx home q k) → goesS m E home home (s + 1) way = ringGo nx st home s (way.getLastD 0) way
  | 0, way, hne, h0, h1, hd, _ => by
    unfold goesS ringGo
    rw [if_pos ((h.mem h0 h1).1 hd.1).2]
  | s + 1, way, hne, h0, h1, hd, hw => by
    have hgo : ∀ k : Int, 0 ≤ k → k < m → ((if home < k ∧ E (way.getLastD 0) k = true ∧ k ∉ way then goesS m E home home (s + 1) (way ++ [k]) else []) ≠ [] ↔ home < k ∧ E (way.getLastD 0) k = true ∧ Dist nx home (s + 1) k) := by
      intro k hk0 hk1
      have hl : (way ++ [k]).getLastD 0 = k := by simp
      constructor
      · intro hf
        by_cases hc : home < k ∧ E (way.getLastD 0) k = true ∧ k ∉ way
        · rw [if_pos hc] at hf
          have hwk := goes_way h hh0 hh1 (s + 1) (way ++ [k]) (by rw [hl]; exact hk0) (by rw [hl]; exact hk1) hf
          rw [hl] at hwk
          refine ⟨hc.1, hc.2.1, hwk, fun q hq hwq => ?_⟩
          cases q with
          | zero => exact hwq
          | succ q => exact hd.2 (q + 2) (by omega) ⟨k, hc.1, (h.mem h0 h1).2 ⟨⟨hk0, hk1⟩, hc.2.1⟩, hwq⟩
        · rw [if_neg hc] at hf; exact absurd rfl hf
      · rintro ⟨h2, h3, h4⟩
        have hnw : k ∉ way := fun hm => by
          rcases hw k hm with rfl | ⟨q, hq, hdq⟩
          · omega
          · have := dist_unique h4 hdq
            omega
        rw [if_pos ⟨h2, h3, hnw⟩, ring_goes h hh0 hh1 st hst s (way ++ [k]) (by simp) (by rw [hl]; exact hk0) (by rw [hl]; exact hk1) (by rw [hl]; exact h4) (fun x hx => by
          rcases List.mem_append.1 hx with hx | hx
          · rcases hw x hx with rfl | ⟨q, hq, hdq⟩
            · exact .inl rfl
            · exact .inr ⟨q, by omega, hdq⟩
          · rw [List.mem_singleton.1 hx]
            exact .inr ⟨s + 1, Nat.le_refl _, h4⟩)]
        exact ringGo_ne st s _ _ (by simp)
    have hfind : (nodes m).find? (fun k => decide ((if home < k ∧ E (way.getLastD 0) k = true ∧ k ∉ way then goesS m E home home (s + 1) (way ++ [k]) else []) ≠ [])) = (rd_L1 nx (way.getLastD 0)).find? (isNext st home ((s : Int) + 1)) := by
      rw [h.row _ h0 h1, List.find?_filter]
      refine find_congr _ (fun k hk => ?_)
      have hkr := mem_nodes.1 hk
      have hi : isNext st home ((s : Int) + 1) k = true ↔ home < k ∧ Dist nx home (s + 1) k := by
        unfold isNext
        rw [Bool.and_eq_true, decide_eq_true_iff, decide_eq_true_iff]
        constructor
        · rintro ⟨h2, h3⟩
          refine ⟨h2, ?_⟩
          cases hg : Mp.get st k with
          | none => rw [hg] at h3; simp at h3; omega
          | some d =>
            rw [hg] at h3
            obtain ⟨_, _, q, rfl, hq⟩ := (hst k d).1 hg
            simp at h3
            rw [show s + 1 = q by omega]
            exact hq
        · rintro ⟨h2, h3⟩
          refine ⟨h2, ?_⟩
          have := (hst k ((s + 1 : Nat) : Int)).2 ⟨by omega, by rw [h.len]; exact hkr.2, s + 1, rfl, h3⟩
          rw [this]
          rfl
      rw [Bool.eq_iff_iff, decide_eq_true_iff, hgo k hkr.1 hkr.2]
      simp only [Bool.and_eq_true, decide_eq_true_iff, hi]
      constructor
      · rintro ⟨h2, h3, h4⟩; exact ⟨h3, h2, h4⟩
      · rintro ⟨h3, h2, h4⟩; exact ⟨h2, h3, h4⟩
    obtain ⟨j, hj, hjm, hjd⟩ := dist_step hd
    have hjr := (h.mem h0 h1).1 hjm
    unfold goesS ringGo firstNE
    rw [hfind]
    unfold nextAt
    cases hx : (rd_L1 nx (way.getLastD 0)).find? (isNext st home ((s : Int) + 1)) with
    | none =>
      exfalso
      rw [← hfind, List.find?_eq_none] at hx
      exact hx j (mem_nodes.2 hjr.1) (by rw [decide_eq_true_iff]; exact (hgo j hjr.1.1 hjr.1.2).2 ⟨hj, hjr.2, hjd⟩)
    | some k =>
      have hk := List.find?_some (hfind.trans hx)
      have hkm := mem_nodes.1 (List.mem_of_find?_eq_some (hfind.trans hx))
      rw [decide_eq_true_iff] at hk
      obtain ⟨h2, h3, h4⟩ := (hgo k hkm.1 hkm.2).1 hk
      have hl : (way ++ [k]).getLastD 0 = k := by simp
      simp only [Option.getD_some]
      by_cases hc : home < k ∧ E (way.getLastD 0) k = true ∧ k ∉ way
      · rw [if_pos hc, ring_goes h hh0 hh1 st hst s (way ++ [k]) (by simp) (by rw [hl]; exact hkm.1) (by rw [hl]; exact hkm.2) (by rw [hl]; exact h4) (fun x hx => by
          rcases List.mem_append.1 hx with hx | hx
          · rcases hw x hx with rfl | ⟨q, hq, hdq⟩
            · exact .inl rfl
            · exact .inr ⟨q, by omega, hdq⟩
          · rw [List.mem_singleton.1 hx]
            exact .inr ⟨s + 1, Nat.le_refl _, h4⟩), hl]
      · rw [if_neg hc] at hk; exact absurd rfl hk
end Go.Proofs.Ytccngacadolgfaa.P

namespace Go.Proofs.Ytccngacadolgfaa.P
open Go.RowKit Go.Proofs.YtccngacadolgfaaW.PrintWords Go.Proofs.YtccngacadolgfaaW.PrintLast Go.Proofs.YtccngacadolgfaaW.PrintMore

def refAt (m : Nat) (E : Int → Int → Bool) (n : Nat) : List Int := firstNE (nodes m) fun i => goesS m E i i n [i]
def refFrom (m : Nat) (E : Int → Int → Bool) : Nat → Nat → List Int
  | 0, _ => []
  | f + 1, n => if n ≤ m then (if refAt m E n ≠ [] then refAt m E n else refFrom m E f (n + 1)) else []
def refRing (m : Nat) (E : Int → Int → Bool) : List Int := refFrom m E (m + 1) 2
variable {nx : List (List Int)} {m : Nat} {E : Int → Int → Bool} {home : Int}
theorem dist_list (h : Tab nx m E) (hh0 : 0 ≤ home) : ∀ (n : Nat) (k : Int), home ≤ k → Dist nx home n k → ∃ l : List Int, l.length = n ∧ l.Nodup ∧ ∀ j ∈ l, (0 ≤ j ∧ j < m) ∧ ∃ q, q ≤ n ∧ Dist nx home q j
  | 0, k, _, hd => hd.1.elim
  | 1, k, hk, hd => ⟨[k], rfl, by simp, fun j hj => by
      rw [List.mem_singleton.1 hj]
      have := way_lt h.ok hd.1
      have := h.len
      exact ⟨by omega, 1, Nat.le_refl _, hd⟩⟩
  | n + 2, k, hk, hd => by
    obtain ⟨j, hj, _, hjd⟩ := dist_step hd
    obtain ⟨l, h1, h2, h3⟩ := dist_list h hh0 (n + 1) j (by omega) hjd
    refine ⟨k :: l, by simp [h1], List.nodup_cons.2 ⟨fun hm => ?_, h2⟩, fun x hx => ?_⟩
    · obtain ⟨_, q, hq, hqd⟩ := h3 k hm
      have := dist_unique hd hqd
      omega
    · rcases List.mem_cons.1 hx with rfl | hx
      · have := way_lt h.ok hd.1
        have := h.len
        exact ⟨by omega, n + 2, Nat.le_refl _, hd⟩
      · obtain ⟨h4, q, hq, hqd⟩ := h3 x hx
        exact ⟨h4, q, by omega, hqd⟩
theorem dist_le (h : Tab nx m E) (hh0 : 0 ≤ home) {n : Nat} {k : Int} (hk : home ≤ k) (hd : Dist nx home n k) : n ≤ m := by
  obtain ⟨l, h1, h2, h3⟩ := dist_list h hh0 n k hk hd
  have := nodup_bound m l h2 (fun j hj => (h3 j hj).1)
  omega
theorem ringGo_len (st : List (Int × Int)) : ∀ (s : Nat) (at_ : Int) (out : List Int), (ringGo nx st home s at_ out).length = out.length + s
  | 0, _, out => rfl
  | s + 1, at_, out => by
    unfold ringGo
    rw [ringGo_len st s _ _, List.length_append, List.length_singleton]
    omega
/-- What the ring from a place is. -/
def IsRing (nx : List (List Int)) (m : Nat) (E : Int → Int → Bool) (home : Int) (r : List Int) : Prop :=
  (∃ n, Dist nx home n home ∧ r = goesS m E home home n [home] ∧ r.length = n) ∨ (r = [] ∧ ∀ n, ¬ Way nx home n home)
theorem ring_val (h : Tab nx m E) (hh0 : 0 ≤ home) (hh1 : home < m) : ∃ r, ringF nx home = some r ∧ IsRing nx m E home r := by
  obtain ⟨st, hst, hsp⟩ := far_spec h.ok hh0 (by rw [h.len]; exact hh1)
  unfold ringF
  rw [hst, Option.bind_some]
  cases hg : Mp.get st home with
  | none =>
    refine ⟨[], rfl, .inr ⟨rfl, fun n hw => ?_⟩⟩
    obtain ⟨q, hq, hd⟩ := way_dist n hw
    have := (hsp home (q : Int)).2 ⟨Int.le_refl _, by rw [h.len]; exact hh1, q, rfl, hd⟩
    rw [hg] at this
    cases this
  | some d =>
    obtain ⟨_, _, n, rfl, hd⟩ := (hsp home d).1 hg
    have hnm := dist_le h hh0 (Int.le_refl _) hd
    have hm100 := h.ok.1
    have hml := h.len
    obtain ⟨s, rfl⟩ : ∃ s, n = s + 1 := by
      cases n with
      | zero => exact hd.1.elim
      | succ s => exact ⟨s, rfl⟩
    have hl : ([home] : List Int).getLastD 0 = home := rfl
    have hgo := ring_goes h hh0 hh1 st hsp s [home] (by simp) (by rw [hl]; exact hh0) (by rw [hl]; exact hh1) (by rw [hl]; exact hd) (fun k hk => .inl (List.mem_singleton.1 hk))
    rw [hl] at hgo
    refine ⟨ringGo nx st home s home [home], ?_, .inl ⟨s + 1, hd, hgo.symm, by rw [ringGo_len]; simp; omega⟩⟩
    show (if ((s + 1 : Nat) : Int) ≤ 1000000 then some (ringGo nx st home (((s + 1 : Nat) : Int) - 1).toNat home [home]) else none) = _
    rw [if_pos (by omega), show (((s + 1 : Nat) : Int) - 1).toNat = s by omega]
/-- The best of the places below j. -/
def Best (nx : List (List Int)) (m : Nat) (E : Int → Int → Bool) (j : Nat) (best : List Int) : Prop :=
  (best = [] ∧ ∀ i : Nat, i < j → ∀ n, ¬ Way nx i n i) ∨
  (∃ i n : Nat, i < j ∧ Dist nx i n i ∧ best = goesS m E i i n [(i : Int)] ∧ best.length = n ∧ (∀ i' : Nat, i' < j → ∀ q, Dist nx i' q i' → n ≤ q) ∧ ∀ i' : Nat, i' < i → ∀ q, Dist nx i' q i' → n < q)
theorem rings_val (h : Tab nx m E) : ∀ j, j ≤ m → ∃ best, ringsF nx j = some best ∧ Best nx m E j best
  | 0, _ => ⟨[], rfl, .inl ⟨rfl, fun i hi => by omega⟩⟩
  | j + 1, hj => by
    obtain ⟨best, hb, hB⟩ := rings_val h j (by omega)
    obtain ⟨r, hr, hR⟩ := ring_val (home := (j : Int)) h (by omega) (by omega)
    refine ⟨better best r, by unfold ringsF; rw [hb, Option.bind_some, hr, Option.bind_some], ?_⟩
    unfold better
    rcases hR with ⟨n, hd, hre, hrl⟩ | ⟨rfl, hno⟩
    · have hn1 : 1 ≤ n := by
        cases n with
        | zero => exact hd.1.elim
        | succ n => omega
      have hrne : r ≠ [] := fun e => by rw [e] at hrl; simp at hrl; omega
      rcases hB with ⟨rfl, hnone⟩ | ⟨i, n2, hi, hd2, hbe, hbl, hmin, hfirst⟩
      · rw [if_pos ⟨hrne, .inl rfl⟩]
        refine .inr ⟨j, n, by omega, hd, hre, hrl, fun i' hi' q hq => ?_, fun i' hi' q hq => absurd hq.1 (hnone i' hi' q)⟩
        by_cases e : i' = j
        · subst e
          rw [dist_unique hd hq]
          exact Nat.le_refl _
        · exact absurd hq.1 (hnone i' (by omega) q)
      · by_cases hlt : r.length < best.length
        · rw [if_pos ⟨hrne, .inr hlt⟩]
          refine .inr ⟨j, n, by omega, hd, hre, hrl, fun i' hi' q hq => ?_, fun i' hi' q hq => ?_⟩
          · by_cases e : i' = j
            · subst e
              rw [dist_unique hd hq]
              exact Nat.le_refl _
            · have := hmin i' (by omega) q hq
              omega
          · have := hmin i' hi' q hq
            omega
        · have hbne : best ≠ [] := fun e => by
            rw [e] at hbl
            have := hd2.1
            simp at hbl
            subst hbl
            exact this.elim
          rw [if_neg (fun h => h.2.elim hbne hlt)]
          refine .inr ⟨i, n2, by omega, hd2, hbe, hbl, fun i' hi' q hq => ?_, hfirst⟩
          by_cases e : i' = j
          · subst e
            have := dist_unique hd hq
            omega
          · exact hmin i' (by omega) q hq
    · rw [if_neg (fun h => h.1 rfl)]
      rcases hB with ⟨rfl, hnone⟩ | ⟨i, n2, hi, hd2, hbe, hbl, hmin, hfirst⟩
      · refine .inl ⟨rfl, fun i hi n => ?_⟩
        by_cases e : i = j
        · subst e; exact hno n
        · exact hnone i (by omega) n
      · refine .inr ⟨i, n2, by omega, hd2, hbe, hbl, fun i' hi' q hq => ?_, hfirst⟩
        by_cases e : i' = j
        · subst e; exact absurd hq.1 (hno q)
        · exact hmin i' (by omega) q hq
theorem firstNE_nil {l : List Int} {f : Int → List Int} (h : ∀ x ∈ l, f x = []) : firstNE l f = [] := by
  unfold firstNE
  rw [show l.find? (fun x => decide (f x ≠ [])) = none from List.find?_eq_none.2 (fun x hx => by rw [h x hx]; simp)]
/-- The ring told is the document's. -/
theorem rings_ref (h : Tab nx m E) (hE : ∀ i, E i i = false) : ringsF nx m = some (refRing m E) := by
  obtain ⟨best, hb, hB⟩ := rings_val h m (Nat.le_refl _)
  rw [hb]
  refine congrArg some ?_
  have hempty : ∀ n (i : Int), 0 ≤ i → i < m → (¬ Way nx i n i) → goesS m E i i n [i] = [] := fun n i h0 h1 hw => by
    rcases Classical.em (goesS m E i i n [i] = []) with h2 | h2
    · exact h2
    · exact absurd (goes_way h h0 h1 n [i] h0 h1 h2) hw
  rcases hB with ⟨rfl, hnone⟩ | ⟨i, n, hi, hd, hbe, hbl, hmin, hfirst⟩
  · have hat : ∀ n, refAt m E n = [] := fun n => firstNE_nil (fun x hx => by
      obtain ⟨h0, h1⟩ := mem_nodes.1 hx
      refine hempty n x h0 h1 ?_
      have := hnone x.toNat (by omega) n
      rwa [Int.toNat_of_nonneg h0] at this)
    have hfr : ∀ f n, refFrom m E f n = [] := by
      intro f
      induction f with
      | zero => intro n; rfl
      | succ f ih => intro n; unfold refFrom; rw [hat n]; simp [ih]
    exact (hfr _ _).symm
  · have hn2 : 2 ≤ n := by
      rcases Nat.lt_or_ge n 2 with h2 | h2
      · exfalso
        match n, hd with
        | 0, hd => exact hd.1.elim
        | 1, hd =>
          have := ((h.mem (by omega) (by omega)).1 hd.1).2
          rw [hE] at this
          cases this
      · exact h2
    have hnm := dist_le h (by omega : (0 : Int) ≤ (i : Int)) (Int.le_refl _) hd
    have hbne : best ≠ [] := fun e => by rw [e] at hbl; simp at hbl; omega
    have hlow : ∀ n', n' < n → refAt m E n' = [] := fun n' hn' => firstNE_nil (fun x hx => by
      obtain ⟨h0, h1⟩ := mem_nodes.1 hx
      refine hempty n' x h0 h1 (fun hw => ?_)
      obtain ⟨q, hq, hqd⟩ := way_dist n' hw
      rw [← Int.toNat_of_nonneg h0] at hqd
      have := hmin x.toNat (by omega) q hqd
      omega)
    have hat : refAt m E n = best := by
      unfold refAt firstNE
      have hf : (nodes m).find? (fun x => decide (goesS m E x x n [x] ≠ [])) = some (i : Int) := by
        rw [List.find?_eq_some_iff_append]
        refine ⟨by rw [decide_eq_true_iff, ← hbe]; exact hbne, nodes i, ((List.range m).drop (i + 1)).map (fun k : Nat => (k : Int)), ?_, fun a ha => ?_⟩
        · unfold nodes
          have e1 : (List.range m).take i = List.range i := by
            rw [List.take_range, Nat.min_eq_left (by omega)]
          have e2 : (List.range m).drop i = i :: (List.range m).drop (i + 1) := by
            rw [List.drop_eq_getElem_cons (by simpa using hi)]
            simp
          have e3 : List.range m = List.range i ++ (i :: (List.range m).drop (i + 1)) := by
            rw [← e1, ← e2, List.take_append_drop]
          conv => lhs; rw [e3]
          simp
        · obtain ⟨h0, h1⟩ := mem_nodes.1 ha
          have : goesS m E a a n [a] = [] := hempty n a h0 (by omega) (fun hw => by
            obtain ⟨q, hq, hqd⟩ := way_dist n hw
            rw [← Int.toNat_of_nonneg h0] at hqd
            have := hfirst a.toNat (by omega) q hqd
            omega)
          simp [this]
      rw [hf]
      exact hbe.symm
    have hfr : ∀ f n', n' ≤ n → n - n' < f → refFrom m E f n' = best := by
      intro f
      induction f with
      | zero => intro n' _ h2; omega
      | succ f ih =>
        intro n' h1 h2
        unfold refFrom
        rw [if_pos (by omega)]
        by_cases e : n' = n
        · subst e
          rw [hat, if_pos hbne]
        · rw [hlow n' (by omega), if_neg (fun h => h rfl)]
          exact ih (n' + 1) (by omega) (by omega)
    exact (hfr (m + 1) 2 hn2 (by omega)).symm
end Go.Proofs.Ytccngacadolgfaa.P

namespace Go.Proofs.Ytccngacadolgfaa.P
open Go.RowKit Go.Proofs.YtccngacadolgfaaW.PrintWords Go.Proofs.YtccngacadolgfaaW.PrintLast Go.Proofs.YtccngacadolgfaaW.PrintMore

/-- May i go: not gone yet, and all that come ahead have gone? -/
def freeB (m : Nat) (E : Int → Int → Bool) (gone : List Int) (i : Int) : Bool := decide (i ∉ gone) && (nodes m).all fun k => decide (k ∈ gone) || !E k i
def refOrd (m : Nat) (E : Int → Int → Bool) : Nat → List Int → List Int
  | 0, out => out
  | f + 1, out => match (nodes m).find? (freeB m E out) with
    | some i => refOrd m E f (out ++ [i])
    | none => []
variable {nx : List (List Int)} {m : Nat} {E : Int → Int → Bool}
/-- How many that have not gone come ahead of i. -/
def ahead (m : Nat) (E : Int → Int → Bool) (gone : List Int) (i : Int) : Nat := ((nodes m).filter fun k => decide (k ∉ gone) && E k i).length
theorem rd_set (b : List Int) (x k v : Int) (hx : 0 ≤ x) (hk : 0 ≤ k) (hkl : k < b.length) : rd (b.set x.toNat v) k = if x = k then v else rd b k := by
  unfold rd
  rw [List.getD_eq_getElem?_getD, List.getD_eq_getElem?_getD, List.getElem?_set]
  by_cases h : x = k
  · subst h
    rw [if_pos rfl, if_pos rfl, if_pos (by omega)]
    rfl
  · rw [if_neg h, if_neg (by omega)]
theorem fold_get (d : Int) (hd : d = 1 ∨ d = -1) (k : Int) (hk : 0 ≤ k) : ∀ (row b : List Int), k < b.length → (∀ x ∈ row, 0 ≤ x) → row.Nodup → (∀ x ∈ row, -1000 ≤ rd b x ∧ rd b x ≤ 1000 ∧ x < b.length) → rd (row.foldl (fun b x => b.set x.toNat (wrap64 (rd b x + d))) b) k = if k ∈ row then rd b k + d else rd b k
  | [], b, _, _, _, _ => by simp
  | x :: row, b, hl, hr, hn, hb => by
    rw [List.foldl_cons]
    have hx := hr x List.mem_cons_self
    obtain ⟨hxr, hnr⟩ := List.nodup_cons.1 hn
    have hw : wrap64 (rd b x + d) = rd b x + d := by have := hb x List.mem_cons_self; unfold wrap64; omega
    rw [hw, fold_get d hd k hk row _ (by simpa using hl) (fun y hy => hr y (List.mem_cons_of_mem _ hy)) hnr (fun y hy => by
      have h1 := hb y (List.mem_cons_of_mem _ hy)
      have hne : x ≠ y := fun e => hxr (e ▸ hy)
      rw [rd_set b x y _ hx (hr y (List.mem_cons_of_mem _ hy)) (by omega), if_neg hne]
      simpa using h1)]
    rw [rd_set b x k _ hx hk hl]
    by_cases e : x = k
    · subst e
      simp [hxr]
    · have e2 : ¬ k = x := fun h => e h.symm
      simp [e, e2]
theorem inc_get (k : Int) (hk : 0 ≤ k) (row b : List Int) (h1 : k < b.length) (h2 : ∀ x ∈ row, 0 ≤ x) (h3 : row.Nodup) (h4 : ∀ x ∈ row, -1000 ≤ rd b x ∧ rd b x ≤ 1000 ∧ x < b.length) : rd (row.foldl incF b) k = if k ∈ row then rd b k + 1 else rd b k :=
  fold_get 1 (.inl rfl) k hk row b h1 h2 h3 h4
theorem dec_get (k : Int) (hk : 0 ≤ k) (row b : List Int) (h1 : k < b.length) (h2 : ∀ x ∈ row, 0 ≤ x) (h3 : row.Nodup) (h4 : ∀ x ∈ row, -1000 ≤ rd b x ∧ rd b x ≤ 1000 ∧ x < b.length) : rd (row.foldl decF b) k = if k ∈ row then rd b k + -1 else rd b k :=
  fold_get (-1) (.inr rfl) k hk row b h1 h2 h3 h4
theorem nodes_nodup (m : Nat) : (nodes m).Nodup := by
  unfold nodes
  refine List.Pairwise.map _ (fun a b h e => h (by omega)) List.nodup_range
theorem nodes_len (m : Nat) : (nodes m).length = m := by simp [nodes]
theorem nodes_succ (m : Nat) : nodes (m + 1) = nodes m ++ [(m : Int)] := by simp [nodes, List.range_succ]
theorem row_nodup (h : Tab nx m E) {i : Int} (h0 : 0 ≤ i) (h1 : i < m) : (rd_L1 nx i).Nodup := by
  rw [h.row i h0 h1]
  exact (nodes_nodup m).filter _
theorem waits_get (h : Tab nx m E) : ∀ j : Nat, j ≤ m → ∀ k : Int, 0 ≤ k → k < m → rd (waitsTo nx j) k = (((nodes j).filter fun i => E i k).length : Int)
  | 0, _, k, h0, h1 => by
    unfold waitsTo rd nodes
    rw [List.getD_eq_getElem?_getD, List.getElem?_replicate]
    split <;> simp
  | j + 1, hj, k, h0, h1 => by
    have hl : (waitsTo nx j).length = m := by rw [waitsTo_len, h.len]
    have hm := h.ok.1
    rw [h.len] at hm
    have hrow : ∀ x ∈ rd_L1 nx (j : Int), 0 ≤ x ∧ x < m := fun x hx => ((h.mem (by omega) (by omega)).1 hx).1
    rw [waitsTo, inc_get k h0 _ _ (by rw [hl]; exact h1) (fun x hx => (hrow x hx).1) (row_nodup h (by omega) (by omega)) (fun x hx => by
      have h2 := hrow x hx
      rw [waits_get h j (by omega) x h2.1 h2.2, hl]
      have h3 := List.length_filter_le (fun i => E i x) (nodes j)
      rw [nodes_len] at h3
      omega), waits_get h j (by omega) k h0 h1, nodes_succ, List.filter_append, List.length_append]
    by_cases he : E j k = true
    · rw [if_pos ((h.mem (by omega) (by omega)).2 ⟨⟨h0, h1⟩, he⟩)]
      simp [he]
    · rw [if_neg (fun hm => he ((h.mem (by omega) (by omega)).1 hm).2)]
      simp [he]
/-- What holds when some have gone. -/
structure Gone (m : Nat) (E : Int → Int → Bool) (b out : List Int) : Prop where
  len : b.length = m
  gone : ∀ k : Int, k ∈ out → (0 ≤ k ∧ k < m) ∧ rd b k = -1
  wait : ∀ k : Int, 0 ≤ k → k < m → k ∉ out → rd b k = (ahead m E out k : Int)
  closed : ∀ j k : Int, j ∈ out → 0 ≤ k → k < m → E k j = true → k ∈ out
theorem ahead_zero {out : List Int} {i : Int} : ahead m E out i = 0 ↔ ∀ k : Int, 0 ≤ k → k < m → k ∈ out ∨ E k i = false := by
  unfold ahead
  rw [List.length_eq_zero_iff, List.filter_eq_nil_iff]
  constructor
  · intro h k h0 h1
    have := h k (mem_nodes.2 ⟨h0, h1⟩)
    by_cases hk : k ∈ out
    · exact .inl hk
    · simp [hk] at this
      exact .inr this
  · intro h k hk
    obtain ⟨h0, h1⟩ := mem_nodes.1 hk
    rcases h k h0 h1 with h2 | h2
    · simp [h2]
    · simp [h2]
theorem free_iff {b out : List Int} (h : Gone m E b out) {i : Int} (h0 : 0 ≤ i) (h1 : i < m) : freeB m E out i = true ↔ rd b i = 0 := by
  unfold freeB
  rw [Bool.and_eq_true, decide_eq_true_iff, List.all_eq_true]
  constructor
  · rintro ⟨h2, h3⟩
    rw [h.wait i h0 h1 h2]
    have : ahead m E out i = 0 := ahead_zero.2 (fun k hk0 hk1 => by
      have := h3 k (mem_nodes.2 ⟨hk0, hk1⟩)
      simpa using this)
    rw [this]
    rfl
  · intro h2
    have h3 : i ∉ out := fun hm => by have := (h.gone i hm).2; omega
    refine ⟨h3, fun k hk => ?_⟩
    obtain ⟨hk0, hk1⟩ := mem_nodes.1 hk
    have h4 : ahead m E out i = 0 := by have := h.wait i h0 h1 h3; omega
    rcases ahead_zero.1 h4 k hk0 hk1 with h5 | h5 <;> simp [h5]
theorem find_idx {b : List Int} {p : Int → Bool} (hl : b.length = m) (hp : ∀ i : Int, 0 ≤ i → i < m → (p i = true ↔ rd b i = 0)) : (nodes m).find? p = if idx0 b < 0 then none else some (idx0 b) := by
  have hget : ∀ i : Nat, i < m → rd b (i : Int) = b.getD i 0 := fun i _ => by unfold rd; rw [Int.toNat_natCast]
  unfold idx0
  by_cases hm : (0 : Int) ∈ b
  · rw [if_pos hm, if_neg (by omega)]
    have hlt := List.idxOf_lt_length_of_mem hm
    rw [hl] at hlt
    have hg : b[b.idxOf (0 : Int)]'(by rw [hl]; exact hlt) = 0 := List.getElem_idxOf _
    rw [List.find?_eq_some_iff_append]
    refine ⟨?_, nodes (b.idxOf (0 : Int)), ((List.range m).drop (b.idxOf (0 : Int) + 1)).map (fun k : Nat => (k : Int)), ?_, fun a ha => ?_⟩
    · rw [hp _ (by omega) (by omega), hget _ hlt, List.getD_eq_getElem?_getD, List.getElem?_eq_getElem (by rw [hl]; exact hlt), hg]
      rfl
    · unfold nodes
      have e1 : (List.range m).take (b.idxOf (0 : Int)) = List.range (b.idxOf (0 : Int)) := by
        rw [List.take_range, Nat.min_eq_left (by omega)]
      have e2 : (List.range m).drop (b.idxOf (0 : Int)) = b.idxOf (0 : Int) :: (List.range m).drop (b.idxOf (0 : Int) + 1) := by
        rw [List.drop_eq_getElem_cons (by simpa using hlt)]
        simp
      have e3 : List.range m = List.range (b.idxOf (0 : Int)) ++ (b.idxOf (0 : Int) :: (List.range m).drop (b.idxOf (0 : Int) + 1)) := by
        rw [← e1, ← e2, List.take_append_drop]
      conv => lhs; rw [e3]
      simp
    · obtain ⟨h0, h1⟩ := mem_nodes.1 ha
      have hne : rd b a ≠ 0 := fun e => by
        have h2 : a.toNat < b.idxOf (0 : Int) := by omega
        have h3 := List.not_of_lt_findIdx (p := fun x => x == (0 : Int)) (xs := b) (i := a.toNat) h2
        rw [← Int.toNat_of_nonneg h0, hget a.toNat (by omega), List.getD_eq_getElem?_getD, List.getElem?_eq_getElem (by omega)] at e
        simp at h3 e
        exact h3 e
      have : p a ≠ true := fun hpa => hne ((hp a h0 (by omega)).1 hpa)
      simpa using this
  · rw [if_neg hm, if_pos (by decide), List.find?_eq_none]
    intro i hi hpi
    obtain ⟨h0, h1⟩ := mem_nodes.1 hi
    have h2 := (hp i h0 h1).1 hpi
    rw [← Int.toNat_of_nonneg h0, hget i.toNat (by omega), List.getD_eq_getElem?_getD, List.getElem?_eq_getElem (by omega)] at h2
    simp at h2
    exact hm (h2 ▸ List.getElem_mem _)
theorem ahead_drop {out : List Int} {at_ k : Int} (h0 : 0 ≤ at_) (h1 : at_ < m) (hn : at_ ∉ out) : ahead m E out k = ahead m E (out ++ [at_]) k + (if E at_ k = true then 1 else 0) := by
  unfold ahead
  have key : ∀ l : List Int, l.Nodup → (l.filter fun k2 => decide (k2 ∉ out) && E k2 k).length = (l.filter fun k2 => decide (k2 ∉ out ++ [at_]) && E k2 k).length + (if at_ ∈ l ∧ E at_ k = true then 1 else 0) := by
    intro l
    induction l with
    | nil => intro _; simp
    | cons x l ih =>
      intro hnd
      obtain ⟨hx, hl⟩ := List.nodup_cons.1 hnd
      have h2 := ih hl
      rw [List.filter_cons, List.filter_cons]
      by_cases hxa : x = at_
      · subst hxa
        have h3 : ¬ (x ∈ l ∧ E x k = true) := fun h => hx h.1
        rw [if_neg h3] at h2
        have c2 : ¬ (decide (x ∉ out ++ [x]) && E x k) = true := by simp
        by_cases he : E x k = true
        · have c1 : (decide (x ∉ out) && E x k) = true := by simp [hn, he]
          rw [if_pos c1, if_neg c2, List.length_cons, h2, if_pos ⟨List.mem_cons_self, he⟩]
        · have c1 : ¬ (decide (x ∉ out) && E x k) = true := by simp [he]
          rw [if_neg c1, if_neg c2, h2, if_neg (fun h => he h.2)]
      · have h4 : (at_ ∈ x :: l ∧ E at_ k = true) ↔ (at_ ∈ l ∧ E at_ k = true) := by
          simp [List.mem_cons, show ¬ at_ = x from fun e => hxa e.symm]
        by_cases hc : (decide (x ∉ out) && E x k) = true
        · have hc2 : (decide (x ∉ out ++ [at_]) && E x k) = true := by
            rw [Bool.and_eq_true, decide_eq_true_iff] at hc ⊢
            exact ⟨by simp [hc.1, hxa], hc.2⟩
          rw [if_pos hc, if_pos hc2, List.length_cons, List.length_cons, h2]
          simp only [h4]
          omega
        · have hc2 : ¬ (decide (x ∉ out ++ [at_]) && E x k) = true := by
            rw [Bool.and_eq_true, decide_eq_true_iff] at hc ⊢
            exact fun h => hc ⟨fun hm => h.1 (List.mem_append_left _ hm), h.2⟩
          rw [if_neg hc, if_neg hc2, h2]
          simp only [h4]
  rw [key (nodes m) (nodes_nodup m)]
  simp [mem_nodes, h0, h1]
theorem gone_step (h : Tab nx m E) (hE : ∀ i, E i i = false) {b out : List Int} (hG : Gone m E b out) (hneg : ¬ idx0 b < 0) (hz : rd b (idx0 b) = 0) (hlt : idx0 b < m) : Gone m E ((rd_L1 nx (idx0 b)).foldl decF (b.set (idx0 b).toNat (-1))) (out ++ [idx0 b]) := by
  obtain ⟨at_, hat⟩ : ∃ a, a = idx0 b := ⟨_, rfl⟩
  rw [← hat] at hneg hz hlt ⊢
  have h0 : 0 ≤ at_ := by omega
  have hl := hG.len
  have hm := h.ok.1
  rw [h.len] at hm
  have hno : at_ ∉ out := fun hm => by have := (hG.gone at_ hm).2; omega
  have hfree := (free_iff hG h0 hlt).2 hz
  have hz2 : ∀ k : Int, 0 ≤ k → k < m → k ∈ out ∨ E k at_ = false := ahead_zero.1 (by have := hG.wait at_ h0 hlt hno; omega)
  have hrow : ∀ x ∈ rd_L1 nx at_, 0 ≤ x ∧ x < m := fun x hx => ((h.mem h0 hlt).1 hx).1
  have hb : ∀ k : Int, 0 ≤ k → k < m → -1 ≤ rd b k ∧ rd b k ≤ 100 := fun k hk0 hk1 => by
    by_cases hk : k ∈ out
    · have := (hG.gone k hk).2; omega
    · rw [hG.wait k hk0 hk1 hk]
      unfold ahead
      have h3 := List.length_filter_le (fun i => decide (i ∉ out) && E i k) (nodes m)
      rw [nodes_len] at h3
      omega
  have hget : ∀ k : Int, 0 ≤ k → k < m → rd ((rd_L1 nx at_).foldl decF (b.set at_.toNat (-1))) k = if k = at_ then -1 else if E at_ k = true then rd b k + -1 else rd b k := fun k hk0 hk1 => by
    have hs : ∀ y : Int, 0 ≤ y → y < m → rd (b.set at_.toNat (-1)) y = if at_ = y then -1 else rd b y := fun y hy0 hy1 => rd_set b at_ y (-1) h0 hy0 (by omega)
    rw [dec_get k hk0 _ _ (by simp; omega) (fun x hx => (hrow x hx).1) (row_nodup h h0 hlt) (fun x hx => by
      have h2 := hrow x hx
      rw [hs x h2.1 h2.2]
      have h3 := hb x h2.1 h2.2
      have h4 : x < ((b.set at_.toNat (-1)).length : Int) := by simp; omega
      split <;> exact ⟨by omega, by omega, h4⟩), hs k hk0 hk1]
    by_cases e : k = at_
    · subst e
      have : k ∉ rd_L1 nx k := fun hm => by
        have := ((h.mem h0 hlt).1 hm).2
        rw [hE] at this
        cases this
      rw [if_neg this, if_pos rfl, if_pos rfl]
    · rw [if_neg e, if_neg (show ¬ at_ = k from fun h => e h.symm)]
      by_cases he : E at_ k = true
      · rw [if_pos ((h.mem h0 hlt).2 ⟨⟨hk0, hk1⟩, he⟩), if_pos he]
      · rw [if_neg (fun hm => he ((h.mem h0 hlt).1 hm).2), if_neg he]
  refine ⟨by rw [dec_len, List.length_set]; exact hl, fun k hk => ?_, fun k hk0 hk1 hk => ?_, fun j k hj hk0 hk1 he => ?_⟩
  · rcases List.mem_append.1 hk with hk | hk
    · obtain ⟨hr, hv⟩ := hG.gone k hk
      refine ⟨hr, ?_⟩
      rw [hget k hr.1 hr.2]
      split
      · rfl
      · have : ¬ E at_ k = true := fun he => hno (hG.closed k at_ hk h0 hlt he)
        rw [if_neg this]
        exact hv
    · rw [List.mem_singleton.1 hk]
      exact ⟨⟨h0, hlt⟩, by rw [hget at_ h0 hlt, if_pos rfl]⟩
  · have hk1' : k ∉ out := fun hm => hk (List.mem_append_left _ hm)
    have hka : ¬ k = at_ := fun e => hk (by rw [e]; simp)
    rw [hget k hk0 hk1, if_neg hka, hG.wait k hk0 hk1 hk1', ahead_drop h0 hlt hno]
    by_cases he : E at_ k = true
    · rw [if_pos he, if_pos he]; omega
    · rw [if_neg he, if_neg he]; omega
  · rcases List.mem_append.1 hj with hj | hj
    · exact List.mem_append_left _ (hG.closed j k hj hk0 hk1 he)
    · rw [List.mem_singleton.1 hj] at he
      rcases hz2 k hk0 hk1 with h5 | h5
      · exact List.mem_append_left _ h5
      · rw [h5] at he; cases he
theorem idx0_zero {b : List Int} (h : ¬ idx0 b < 0) : rd b (idx0 b) = 0 ∧ idx0 b < b.length := by
  unfold idx0 at h ⊢
  by_cases hm : (0 : Int) ∈ b
  · rw [if_pos hm]
    have hlt := List.idxOf_lt_length_of_mem hm
    have hg : b[b.idxOf (0 : Int)]'hlt = 0 := List.getElem_idxOf _
    refine ⟨?_, by omega⟩
    unfold rd
    rw [Int.toNat_natCast, List.getD_eq_getElem?_getD, List.getElem?_eq_getElem hlt, hg]
    rfl
  · rw [if_neg hm] at h
    exact absurd (by decide) h
theorem ordGo_ref (h : Tab nx m E) (hE : ∀ i, E i i = false) : ∀ (f : Nat) (b out : List Int), Gone m E b out → ordGo nx f b out = refOrd m E f out
  | 0, b, out, _ => rfl
  | f + 1, b, out, hG => by
    unfold ordGo refOrd
    rw [find_idx hG.len (fun i h0 h1 => free_iff hG h0 h1)]
    by_cases hneg : idx0 b < 0
    · rw [if_pos hneg, if_pos hneg]
    · obtain ⟨hz, hlt⟩ := idx0_zero hneg
      rw [hG.len] at hlt
      rw [if_neg hneg, if_neg hneg, ordGo_ref h hE f _ _ (gone_step h hE hG hneg hz hlt)]
/-- The order told is the document's. -/
theorem ord_ref (h : Tab nx m E) (hE : ∀ i, E i i = false) : ordF nx = refOrd m E m [] := by
  unfold ordF
  rw [h.len]
  refine ordGo_ref h hE m _ _ ⟨by rw [waitsTo_len, h.len], fun k hk => absurd hk (by simp), fun k h0 h1 _ => ?_, fun j k hj => absurd hj (by simp)⟩
  rw [waits_get h m (Nat.le_refl _) k h0 h1]
  unfold ahead
  simp
end Go.Proofs.Ytccngacadolgfaa.P

namespace Go.Proofs.Ytccngacadolgfaa.P
open Go.RowKit Go.Proofs.YtccngacadolgfaaW.PrintWords Go.Proofs.YtccngacadolgfaaW.PrintLast Go.Proofs.YtccngacadolgfaaW.PrintMore
variable {nx : List (List Int)} {m : Nat} {E : Int → Int → Bool}
theorem least_of : ∀ (U : List Int), U ≠ [] → ∃ h ∈ U, ∀ u ∈ U, h ≤ u
  | [], h => absurd rfl h
  | [x], _ => ⟨x, by simp, by simp⟩
  | x :: y :: U, _ => by
    obtain ⟨h, h1, h2⟩ := least_of (y :: U) (by simp)
    by_cases hx : x ≤ h
    · exact ⟨x, List.mem_cons_self, fun u hu => by
        rcases List.mem_cons.1 hu with rfl | hu
        · exact Int.le_refl _
        · have := h2 u hu; omega⟩
    · exact ⟨h, List.mem_cons_of_mem _ h1, fun u hu => by
        rcases List.mem_cons.1 hu with rfl | hu
        · omega
        · exact h2 u hu⟩
open Classical in
theorem closed_ring (h : Tab nx m E) : ∀ (n : Nat) (U : List Int), U.length ≤ n → U ≠ [] → (∀ u ∈ U, 0 ≤ u ∧ u < m) → (∀ u ∈ U, ∃ p ∈ U, E p u = true) → ∃ home : Int, (0 ≤ home ∧ home < m) ∧ ∃ q, Way nx home q home
  | 0, U, hl, hne, _, _ => absurd (List.eq_nil_of_length_eq_zero (by omega)) hne
  | n + 1, U, hl, hne, hr, hp => by
    obtain ⟨z, hz, hmin⟩ := least_of U hne
    by_cases hw : ∃ q, Way nx z q z
    · exact ⟨z, hr z hz, hw⟩
    · obtain ⟨V, hV⟩ : ∃ V, V = U.filter fun k => decide (∃ q, Way nx z q k) := ⟨_, rfl⟩
      have hVm : ∀ k, k ∈ V ↔ k ∈ U ∧ ∃ q, Way nx z q k := fun k => by rw [hV, List.mem_filter, decide_eq_true_iff]
      have hzr := hr z hz
      refine closed_ring h n V ?_ ?_ (fun u hu => hr u ((hVm u).1 hu).1) (fun u hu => ?_)
      · have h1 : V.length < U.length := by
          rw [hV]
          refine Nat.lt_of_le_of_ne (List.length_filter_le _ _) (fun e => ?_)
          have := List.length_filter_eq_length_iff.1 e z hz
          rw [decide_eq_true_iff] at this
          exact hw this
        omega
      · obtain ⟨p, hpU, hpe⟩ := hp z hz
        have hpr := hr p hpU
        exact List.ne_nil_of_mem ((hVm p).2 ⟨hpU, 1, (h.mem hpr.1 hpr.2).2 ⟨hzr, hpe⟩⟩)
      · obtain ⟨huU, q, hq⟩ := (hVm u).1 hu
        obtain ⟨p, hpU, hpe⟩ := hp u huU
        have hpr := hr p hpU
        have hur := hr u huU
        have hzu : z < u := by
          have h1 := hmin u huU
          rcases Int.lt_or_eq_of_le h1 with h2 | h2
          · exact h2
          · exact absurd ⟨q, h2 ▸ hq⟩ hw
        obtain ⟨q2, rfl⟩ : ∃ q2, q = q2 + 1 := by
          cases q with
          | zero => exact hq.elim
          | succ q2 => exact ⟨q2, rfl⟩
        exact ⟨p, (hVm p).2 ⟨hpU, q2 + 2, u, hzu, (h.mem hpr.1 hpr.2).2 ⟨hur, hpe⟩, hq⟩, hpe⟩
theorem nodup_sub : ∀ (l1 l2 : List Int), l1.Nodup → (∀ x ∈ l1, x ∈ l2) → l1.length ≤ l2.length
  | [], l2, _, _ => Nat.zero_le _
  | x :: l1, l2, hn, hs => by
    obtain ⟨hx, hn2⟩ := List.nodup_cons.1 hn
    have hm := hs x List.mem_cons_self
    have h := nodup_sub l1 (l2.erase x) hn2 (fun y hy => (List.mem_erase_of_ne (show y ≠ x from fun e => hx (by rw [← e]; exact hy))).2 (hs y (List.mem_cons_of_mem _ hy)))
    rw [List.length_erase_of_mem hm] at h
    have := List.length_pos_of_mem hm
    simp only [List.length_cons]
    omega
theorem free_of {out : List Int} {i : Int} (h : freeB m E out i = true) : i ∉ out ∧ ∀ k : Int, 0 ≤ k → k < m → k ∈ out ∨ E k i = false := by
  unfold freeB at h
  rw [Bool.and_eq_true, decide_eq_true_iff, List.all_eq_true] at h
  refine ⟨h.1, fun k h0 h1 => ?_⟩
  have := h.2 k (mem_nodes.2 ⟨h0, h1⟩)
  simpa using this
theorem ord_full (h : Tab nx m E) (hno : ∀ home : Int, 0 ≤ home → home < m → ∀ q, ¬ Way nx home q home) : ∀ (f : Nat) (out : List Int), out.Nodup → (∀ k ∈ out, 0 ≤ k ∧ k < m) → out.length + f = m → (refOrd m E f out).length = m
  | 0, out, _, _, hl => by unfold refOrd; omega
  | f + 1, out, hn, hr, hl => by
    unfold refOrd
    cases hf : (nodes m).find? (freeB m E out) with
    | some i =>
      obtain ⟨hi, _⟩ := free_of (List.find?_some hf)
      have hir := mem_nodes.1 (List.mem_of_find?_eq_some hf)
      refine ord_full h hno f (out ++ [i]) ?_ ?_ (by simp; omega)
      · rw [List.nodup_append]
        exact ⟨hn, by simp, fun a ha b hb e => by rw [List.mem_singleton.1 hb] at e; exact hi (e ▸ ha)⟩
      · intro k hk
        rcases List.mem_append.1 hk with hk | hk
        · exact hr k hk
        · rw [List.mem_singleton.1 hk]; exact hir
    | none =>
      exfalso
      rw [List.find?_eq_none] at hf
      obtain ⟨U, hU⟩ : ∃ U, U = (nodes m).filter fun k => decide (k ∉ out) := ⟨_, rfl⟩
      have hUm : ∀ k, k ∈ U ↔ (0 ≤ k ∧ k < (m : Int)) ∧ k ∉ out := fun k => by rw [hU, List.mem_filter, decide_eq_true_iff, mem_nodes]
      have hUne : U ≠ [] := fun e => by
        have := nodup_sub (nodes m) out (nodes_nodup m) (fun k hk => by
          rcases Classical.em (k ∈ out) with h1 | h1
          · exact h1
          · have := (hUm k).2 ⟨mem_nodes.1 hk, h1⟩
            rw [e] at this
            cases this)
        rw [nodes_len] at this
        omega
      obtain ⟨home, hhr, q, hq⟩ := closed_ring h U.length U (Nat.le_refl _) hUne (fun u hu => ((hUm u).1 hu).1) (fun u hu => by
        obtain ⟨hur, huo⟩ := (hUm u).1 hu
        have hnf := hf u (mem_nodes.2 hur)
        rcases Classical.em (∃ p ∈ U, E p u = true) with h1 | h1
        · exact h1
        · exfalso
          refine hnf ?_
          unfold freeB
          rw [Bool.and_eq_true, decide_eq_true_iff, List.all_eq_true]
          refine ⟨huo, fun k hk => ?_⟩
          rcases Classical.em (k ∈ out) with h2 | h2
          · simp [h2]
          · have : E k u = false := by
              cases he : E k u with
              | false => rfl
              | true => exact absurd ⟨k, (hUm k).2 ⟨mem_nodes.1 hk, h2⟩, he⟩ h1
            simp [this])
      exact hno home hhr.1 hhr.2 q hq
theorem way_list (h : Tab nx m E) {home : Int} : ∀ (n : Nat) (k : Int), Way nx home n k → 0 ≤ k → k < m → ∃ L : List Int, k ∈ L ∧ (∀ x ∈ L, 0 ≤ x ∧ x < m) ∧ (∃ p ∈ L, E p home = true) ∧ ∀ x ∈ L, x ≠ k → ∃ p ∈ L, E p x = true
  | 0, k, hw, _, _ => hw.elim
  | 1, k, hw, h0, h1 => ⟨[k], by simp, by simp; omega, ⟨k, by simp, ((h.mem h0 h1).1 hw).2⟩, by simp⟩
  | n + 2, k, ⟨j, hj, hjm, hw⟩, h0, h1 => by
    obtain ⟨hjr, hje⟩ := (h.mem h0 h1).1 hjm
    obtain ⟨L, h2, h3, ⟨p, hp, hpe⟩, h4⟩ := way_list h (n + 1) j hw hjr.1 hjr.2
    refine ⟨k :: L, List.mem_cons_self, fun x hx => ?_, ⟨p, List.mem_cons_of_mem _ hp, hpe⟩, fun x hx hne => ?_⟩
    · rcases List.mem_cons.1 hx with rfl | hx
      · exact ⟨h0, h1⟩
      · exact h3 x hx
    · rcases List.mem_cons.1 hx with rfl | hx
      · exact absurd rfl hne
      · by_cases e : x = j
        · subst e
          exact ⟨k, List.mem_cons_self, hje⟩
        · obtain ⟨q, hq, hqe⟩ := h4 x hx e
          exact ⟨q, List.mem_cons_of_mem _ hq, hqe⟩
theorem ord_stuck (h : Tab nx m E) {home : Int} (hh0 : 0 ≤ home) (hh1 : home < m) {q : Nat} (hw : Way nx home q home) : ∀ (f : Nat) (out : List Int), out.Nodup → (∀ k ∈ out, 0 ≤ k ∧ k < m) → out.length + f = m → (∃ L : List Int, home ∈ L ∧ (∀ x ∈ L, (0 ≤ x ∧ x < m) ∧ x ∉ out) ∧ ∀ x ∈ L, ∃ p ∈ L, E p x = true) → refOrd m E f out = []
  | 0, out, hn, hr, hl, ⟨L, hL, hLr, _⟩ => by
    exfalso
    have := nodup_bound m (home :: out) (List.nodup_cons.2 ⟨(hLr home hL).2, hn⟩) (fun k hk => by
      rcases List.mem_cons.1 hk with rfl | hk
      · exact ⟨hh0, hh1⟩
      · exact hr k hk)
    simp only [List.length_cons] at this
    omega
  | f + 1, out, hn, hr, hl, ⟨L, hL, hLr, hLp⟩ => by
    unfold refOrd
    cases hf : (nodes m).find? (freeB m E out) with
    | none => rfl
    | some i =>
      obtain ⟨hi, hfr⟩ := free_of (List.find?_some hf)
      have hir := mem_nodes.1 (List.mem_of_find?_eq_some hf)
      have hiL : i ∉ L := fun hm => by
        obtain ⟨p, hp, hpe⟩ := hLp i hm
        obtain ⟨hpr, hpo⟩ := hLr p hp
        rcases hfr p hpr.1 hpr.2 with h1 | h1
        · exact hpo h1
        · rw [h1] at hpe; cases hpe
      refine ord_stuck h hh0 hh1 hw f (out ++ [i]) ?_ ?_ (by simp; omega) ⟨L, hL, fun x hx => ⟨(hLr x hx).1, fun hm => ?_⟩, hLp⟩
      · rw [List.nodup_append]
        exact ⟨hn, by simp, fun a ha b hb e => by rw [List.mem_singleton.1 hb] at e; exact hi (e ▸ ha)⟩
      · intro k hk
        rcases List.mem_append.1 hk with hk | hk
        · exact hr k hk
        · rw [List.mem_singleton.1 hk]; exact hir
      · rcases List.mem_append.1 hm with hm | hm
        · exact (hLr x hx).2 hm
        · rw [List.mem_singleton.1 hm] at hx; exact hiL hx
/-- A ring just if there is no order. -/
theorem ring_order (h : Tab nx m E) (hm : 0 < m) {r : List Int} (hr : ringsF nx m = some r) : (r = [] → (refOrd m E m []).length = m) ∧ (r ≠ [] → refOrd m E m [] = []) := by
  obtain ⟨best, hb, hB⟩ := rings_val h m (Nat.le_refl _)
  rw [hr] at hb
  cases hb
  rcases hB with ⟨rfl, hnone⟩ | ⟨i, n, hi, hd, hbe, hbl, _, _⟩
  · refine ⟨fun _ => ord_full h (fun home h0 h1 q hq => ?_) m [] (by simp) (by simp) (by simp), fun hne => absurd rfl hne⟩
    have := hnone home.toNat (by omega) q
    rw [Int.toNat_of_nonneg h0] at this
    exact this hq
  · refine ⟨fun e => ?_, fun _ => ?_⟩
    · exfalso
      rw [e] at hbl
      simp at hbl
      subst hbl
      exact hd.1.elim
    · obtain ⟨L, h1, h2, h3, h4⟩ := way_list h n (i : Int) hd.1 (by omega) (by omega)
      refine ord_stuck h (by omega) (by omega) hd.1 m [] (by simp) (by simp) (by simp) ⟨L, h1, fun x hx => ⟨h2 x hx, by simp⟩, fun x hx => ?_⟩
      by_cases e : x = (i : Int)
      · rw [e]; exact h3
      · exact h4 x hx e
end Go.Proofs.Ytccngacadolgfaa.P

namespace Go.Proofs.Ytccngacadolgfaa.P
open Go.RowKit Go.Proofs.YtccngacadolgfaaW.PrintWords Go.Proofs.YtccngacadolgfaaW.PrintLast Go.Proofs.YtccngacadolgfaaW.PrintMore
def tabE (l4 l5 : List (List Int)) (l : List S44) (i k : Int) : Bool := aheadI l4 l5 (rd_T44 l i) (rd_T44 l k)
theorem tabE_self (l4 l5 : List (List Int)) (l : List S44) (i : Int) : tabE l4 l5 l i i = false := by
  unfold tabE aheadI aheadB
  rw [if_pos rfl]
theorem tab_nx (l4 l5 : List (List Int)) (l : List S44) (hl : l.length ≤ 100) : Tab (nxF l4 l5 l) l.length (tabE l4 l5 l) := by
  refine ⟨nxF_len l4 l5 l, fun i h0 h1 => ?_, nxF_ok l4 l5 l hl⟩
  obtain ⟨n, rfl⟩ := Int.eq_ofNat_of_zero_le h0
  unfold rd_L1 nxF
  rw [Int.toNat_natCast, List.getD_eq_getElem?_getD, List.getElem?_map, List.getElem?_range (by omega)]
  simp only [Option.map_some, Option.getD_some]
  unfold rowOf nodes tabE
  rw [List.filter_map]
  rfl
end Go.Proofs.Ytccngacadolgfaa.P
