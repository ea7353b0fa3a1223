/- jobs.Whole: of each unit one item, and the jobs of units that do not merge. Condition: at most 1000000 items. -/
import Derived.Test.YthbpjlfpfpcpbaaSorted
import Derived.Test.YthbpjlfpfpcpbaaQ4
import Derived.Deep.RegionHeld3
set_option linter.unusedVariables false
set_option linter.unusedSimpArgs false
namespace Go.Proofs.Ythbpjlfpfpcpbaa.P
open Go.RowKit Go.Sort Go.Shelf Go.Proofs.YthbpjlfpfpcpbaaW.PrintWords Go.Proofs.YthbpjlfpfpcpbaaW.PrintLast Go.Proofs.YthbpjlfpfpcpbaaW.PrintMore

/-- How many at the front are of a unit. -/
def unitLen (u : Int) (s : List S26) : Nat := (s.takeWhile fun x => x.f0.f0 == u).length
def known (t : Int) : Bool := decide (1 ≤ t) && decide (t ≤ 3)
def mergeT (a b : Int) : Int × Bool := if known a = true ∧ known b = true then (if a = b then (a, true) else if a = 2 ∨ b = 2 then (0, false) else (3, true)) else (0, false)
/-- A type, whether it must be there, and whether all have merged. -/
def mergeS (st : Int × Bool × Bool) (x : S26) : Int × Bool × Bool := ((mergeT st.1 x.f0.f1).1, st.2.1 || x.f1, st.2.2 && (mergeT st.1 x.f0.f1).2)
def mergeG (x : S26) (g : List S26) : Int × Bool × Bool := g.foldl mergeS (x.f0.f1, x.f1, known x.f0.f1)
def wholeGo : Nat → List S26 → List S26 → List S24 → List S26 × List S24
  | k + 1, x :: s, out, bad =>
    let n := unitLen x.f0.f0 (x :: s)
    let m := mergeG x ((x :: s).take n)
    if m.2.2 = true then wholeGo k ((x :: s).drop n) (out ++ [⟨⟨x.f0.f0, m.1⟩, m.2.1⟩]) bad else wholeGo k ((x :: s).drop n) out (bad ++ ((x :: s).take n).map (·.f0))
  | _, _, out, bad => (out, bad)
def wholeF (l : List S26) : List S26 × List S24 := wholeGo (sortedF l).length (sortedF l) [] []
def jobs_Whole.f (l : List S26) : Option (List S26 × List S24) := if l.length ≤ 1000000 then some (wholeF l) else none

theorem known_some (a : Int) : jobs_Known.f a = some (known a) := by
  unfold jobs_Known.f known
  by_cases h : a ≥ 1
  · rw [if_pos h, decide_eq_true h]; simp
  · rw [if_neg h]; simp; omega
theorem merge_some (a b : Int) : jobs_Merge.f 3 a b = some (mergeT a b) := by
  unfold jobs_Merge.f mergeT
  simp only [known_some, Option.bind_some]
  cases known a <;> cases known b <;> simp [jobs_Merge.j0]
  by_cases h1 : a = b
  · simp [h1]
  · rw [if_neg h1, if_neg h1]
    by_cases h2 : a = 2
    · rw [if_pos h2, if_pos (Or.inl h2)]
    · by_cases h3 : b = 2
      · rw [if_neg h2, if_pos h3, if_pos (Or.inr h3)]
      · rw [if_neg h2, if_neg h3, if_neg (by simp [h2, h3])]

set_option maxHeartbeats 1000000 in
/-- The test for another unit. -/
theorem other_calls (x : S26) (B : Nat) (ad : Addr) (n c : Nat) (u0 : Int) (W : World) (hn : 0 < n) (hb : W.cell? ⟨B, 0, none⟩ = some (.slice (some ad) n c)) (hc : W.cell? ad = some (.int .i64 u0)) :
    Calls Try.prog 19 #[.agg #[.int .i64 x.f0.f0, .int .u8 x.f0.f1, .bool x.f1], .pointer (some ⟨B, 0, none⟩)] W fun e w' => e = .returned (.bool (x.f0.f0 != u0)) ∧ Below W.heap.size W w' := by
  have hu24 := Try.underlying24
  have hu26 := Try.underlying26
  go_enter Try.func19, Try.ntmps19
  go_wp2
  obtain ⟨W1, hW1⟩ : ∃ W1, W1 = (W.alloc (.cells #[.int .i64 x.f0.f0, .int .u8 x.f0.f1, .bool x.f1] 26)).drew := ⟨_, rfl⟩
  have HB := Aside0.mk (show Below W.heap.size W W1 by rw [hW1]; exact below_drew (below_alloc (Below.refl _ _) _))
  have c0_ : W1.cell? ⟨W.heap.size, 0, none⟩ = some (.int .i64 x.f0.f0) := by rw [hW1]; exact (new3 W _ _ _ _).1
  have c1_ := pw_cell_below HB.out hb
  have c2_ := pw_cell_below HB.out hc
  have hn' : (0 : Int) < n := by omega
  refine region_still W1 hW1 (by kernel_rfl) (by kernel_rfl) ?_
  clear hW1 hb hc
  repeat still_step
  refine wpStill_nil ?_
  go_wp2
  go_ret
  exact ⟨rfl, HB.out⟩

theorem unitLen_le (u : Int) (s : List S26) : unitLen u s ≤ s.length := (List.takeWhile_sublist _).length_le
theorem unitLen_at (u : Int) : ∀ (s : List S26) (k : Nat), k < unitLen u s → (s.getD k z26).f0.f0 = u
  | [], k, h => by simp [unitLen] at h
  | x :: s, k, h => by
    by_cases hx : x.f0.f0 = u
    · cases k with
      | zero => simpa using hx
      | succ k =>
        have : k < unitLen u s := by simpa [unitLen, List.takeWhile_cons, hx] using h
        simpa using unitLen_at u s k this
    · simp [unitLen, List.takeWhile_cons, hx] at h
theorem unitLen_end (u : Int) : ∀ (s : List S26), unitLen u s < s.length → (s.getD (unitLen u s) z26).f0.f0 ≠ u
  | [], h => by simp [unitLen] at h
  | x :: s, h => by
    by_cases hx : x.f0.f0 = u
    · have e : unitLen u (x :: s) = unitLen u s + 1 := by simp [unitLen, List.takeWhile_cons, hx]
      rw [e] at h ⊢
      simpa using unitLen_end u s (by simpa using h)
    · have e : unitLen u (x :: s) = 0 := by simp [unitLen, List.takeWhile_cons, hx]
      rw [e]
      simpa using hx
theorem unitLen_pos (x : S26) (s : List S26) : 0 < unitLen x.f0.f0 (x :: s) := by simp [unitLen]

def firstOther (u : Int) (s : List S26) : Int := if unitLen u s = s.length then -1 else (unitLen u s : Int)

set_option maxRecDepth 100000 in
set_option maxHeartbeats 1000000 in
/-- slices.IndexFunc(s, other unit). -/
theorem indexOther_calls (B : Nat) (ad : Addr) (c : Nat) (x0 : S26) (s : List S26) (w : World) (hb : w.cell? ⟨B, 0, none⟩ = some (.slice (some ad) (x0 :: s).length c)) (hc : (x0 :: s).length ≤ c) (hr : Kd.C k26 w (some ad) (x0 :: s).length (x0 :: s)) (hlen : (x0 :: s).length ≤ 1000000) :
    Calls Try.prog 18 #[.slice (some ad) (x0 :: s).length c, .func (.func 19) #[] #[.pointer (some ⟨B, 0, none⟩)]] w fun e w' => e = .returned (.int .i64 (firstOther x0.f0.f0 (x0 :: s))) ∧ Below w.heap.size w w' := by
  obtain ⟨l, hl⟩ : ∃ l, l = x0 :: s := ⟨_, rfl⟩
  have h0 : w.cell? ad = some (.int .i64 x0.f0.f0) := by
    obtain ⟨ad', e1, hx0, _⟩ := at_T26 hr 0 (Int.le_refl 0) (by simp)
    cases e1
    simpa [Addr.add, rd_T26] using hx0
  have hpos : 0 < l.length := by rw [hl]; simp
  rw [← hl] at hb hc hr hlen ⊢
  clear hl s
  generalize x0.f0.f0 = u at h0 ⊢
  have HR := Aside0.mk hr
  have HU := Aside0.mk (unitLen_le u l)
  clear hr
  go_enter Try.func18, Try.ntmps18
  go_wp2
  go_loopw [8] (fun i wr => ∃ k : Nat, k ≤ unitLen u l ∧ i = .int .i64 k ∧ Aside0 (Below w.heap.size w wr)) (fun i _ => l.length - (intOf i).toNat)
  case atStart => exact ⟨0, Nat.zero_le _, rfl, ⟨Below.refl _ _⟩⟩
  case round =>
    obtain ⟨k, hk, rfl, HB⟩ := hrel
    have hU := HU.out
    by_cases hlt : k < l.length
    · obtain ⟨x, hx⟩ : ∃ x, x = rd_T26 l k := ⟨_, rfl⟩
      obtain ⟨ad', e1, hx0, hx1, hx2⟩ := at_T26 HR.out k (by omega) (by omega)
      cases e1
      replace hx0 := (HB.out.cell (World.block_lt_of_cell? w _ hx0)).trans hx0
      replace hx1 := (HB.out.cell (World.block_lt_of_cell? w _ hx1)).trans hx1
      replace hx2 := (HB.out.cell (World.block_lt_of_cell? w _ hx2)).trans hx2
      rw [← hx] at hx0 hx1 hx2
      simp only [Int.toNat_natCast] at hx0 hx1 hx2
      have HX := Aside0.mk hx
      clear hx
      have hcall := other_calls x B ad l.length c u wr hpos ((HB.out.cell (World.block_lt_of_cell? w _ hb)).trans hb) ((HB.out.cell (World.block_lt_of_cell? w _ h0)).trans h0)
      by_cases hxu : x.f0.f0 = u
      · have e : (x.f0.f0 != u) = false := by simpa using hxu
        rw [e] at hcall
        have hklt : k < unitLen u l := by
          rcases Nat.lt_or_ge k (unitLen u l) with h | h
          · exact h
          · have hk' : k = unitLen u l := by omega
            have := unitLen_end u l (by omega)
            rw [← hk'] at this
            exact absurd (by rw [← hxu, HX.out]; rfl) this
        have HC := Aside0.mk hcall
        clear hcall e hxu
        go_wp2_with (go_at_call 19; refine HC.out.mono ?_; rintro e w1 ⟨rfl, hb1⟩; have HB1 := Aside0.mk (below_then HB.out HB.out.size hb1); clear hb1)
        go_roundw
        case rel => exact ⟨k + 1, hklt, by go_num, HB1⟩
        case measure => simp [intOf]; omega
      · have e : (x.f0.f0 != u) = true := by simpa using hxu
        rw [e] at hcall
        have hku : k = unitLen u l := by
          rcases Nat.lt_or_ge k (unitLen u l) with h | h
          · exact absurd ((by rw [HX.out]; exact unitLen_at u l k h)) hxu
          · omega
        have hf : firstOther u l = k := by unfold firstOther; rw [if_neg (by omega), hku]
        have HF := Aside0.mk hf
        have HC := Aside0.mk hcall
        clear hcall e hxu hku hf
        go_wp2_with (go_at_call 19; refine HC.out.mono ?_; rintro e w1 ⟨rfl, hb1⟩; have HB1 := Aside0.mk (below_then HB.out HB.out.size hb1); clear hb1)
        go_ret
        exact ⟨by rw [HF.out]; rfl, HB1.out⟩
    · have hf : firstOther u l = -1 := by unfold firstOther; rw [if_pos (by omega)]
      have HF := Aside0.mk hf
      clear hf
      go_wp2
      go_ret
      exact ⟨by rw [HF.out]; rfl, HB.out⟩

theorem below_alloc_at {B : Nat} {w W : World} (h : Below B w W) (hB : B ≤ W.heap.size) (o : Obj) : Below B w (W.alloc o) := h.alloc hB o
theorem sortJobs_length (l : List S24) : (sortJobs l).length = l.length := by simp [sortJobs]
theorem sortedF_length (l : List S26) : (sortedF l).length ≤ l.length := by
  have := mustOf_length l
  simp [sortedF, sortJobs_length, Mp.keys]
  exact this
theorem wholeGo_fuel : ∀ (k1 k2 : Nat) (s out : List S26) (bad : List S24), s.length ≤ k1 → s.length ≤ k2 → wholeGo k1 s out bad = wholeGo k2 s out bad
  | 0, k2, s, out, bad, h1, h2 => by
    obtain rfl : s = [] := List.eq_nil_of_length_eq_zero (by omega)
    cases k2 <;> rfl
  | k1 + 1, k2, [], out, bad, h1, h2 => by cases k2 <;> rfl
  | k1 + 1, 0, x :: s, out, bad, h1, h2 => by simp at h2
  | k1 + 1, k2 + 1, x :: s, out, bad, h1, h2 => by
    have hp := unitLen_pos x s
    have hd : ((x :: s).drop (unitLen x.f0.f0 (x :: s))).length ≤ s.length := by simp; omega
    simp only [List.length_cons] at h1 h2
    simp only [wholeGo]
    split
    · exact wholeGo_fuel k1 k2 _ _ _ (by omega) (by omega)
    · exact wholeGo_fuel k1 k2 _ _ _ (by omega) (by omega)
theorem wholeGo_cons (x : S26) (s out : List S26) (bad : List S24) (n : Nat) (t : Int) (m ok : Bool) (hn : n = unitLen x.f0.f0 (x :: s)) (hm : ((x :: s).take n).foldl mergeS (x.f0.f1, x.f1, known x.f0.f1) = (t, m, ok)) :
    wholeGo (x :: s).length (x :: s) out bad = wholeGo ((x :: s).drop n).length ((x :: s).drop n) (if ok = true then out ++ [⟨⟨x.f0.f0, t⟩, m⟩] else out) (if ok = true then bad else bad ++ ((x :: s).take n).map (·.f0)) := by
  have hp := unitLen_pos x s
  have hd : ((x :: s).drop n).length ≤ s.length := by rw [hn]; simp; omega
  have hm' : mergeG x ((x :: s).take n) = (t, m, ok) := hm
  rw [wholeGo_fuel _ s.length _ _ _ (Nat.le_refl _) hd]
  simp only [List.length_cons, wholeGo, ← hn, hm']
  cases ok <;> rfl
/-- A row stays where a row of another type is written. -/
theorem R_apart {α : Type} {d : Kd α} {e : Nat} {w w1 : World} {base : Nat} {ok : Nat → Prop} {v : Value} {xs : List α} (h : Kd.R d e w base ok v xs) {b0 e0 s0 n0 : Nat} {u : Value} {ys : List Value} (ho : w.ownsRow b0 e0 s0 u n0 ys) (hne : ∀ q, q ∈ e :: d.E → q ≠ e0) (hg : w.grownBy w1 u.ownBlock) : Kd.R d e w1 base ok v xs :=
  Kd.R_mono (Kd.R_grown (Kd.R_bound h) hg (fun k hk hu => by
    obtain ⟨_, _, _, q, hq, cells, hc⟩ := hk
    obtain ⟨cells', hc'⟩ := own_typed ho k hu.symm
    rw [hc] at hc'
    cases hc'
    exact hne _ hq rfl)) (fun _ hk => hk.1)
/-- A block of another type stays where a row is written. -/
theorem blk_apart {w w1 : World} {g t : Nat} {cs : Array Value} (h : w.heap[g]? = some (.cells cs t (0, 0))) {b0 e0 s0 n0 : Nat} {u : Value} {ys : List Value} (ho : w.ownsRow b0 e0 s0 u n0 ys) (hne : e0 ≠ t) (hg : w.grownBy w1 u.ownBlock) : w1.heap[g]? = some (.cells cs t (0, 0)) :=
  blk_grown h hg (own_ne ho h hne)

set_option maxRecDepth 100000 in
set_option maxHeartbeats 8000000 in
theorem jobs_Whole.calls (A0 : Option Addr) (c0 : Nat) (l0 : List S26) (r1 : List S26) (r2 : List S24) (w : World) (hr0 : Kd.C k26 w A0 l0.length l0) (hc0 : l0.length ≤ c0) (h : jobs_Whole.f l0 = some (r1, r2)) :
    Calls Try.prog 6 #[.slice A0 l0.length c0] w fun e w' => ∃ v0_ v1_ : Value, e = .returned (.tuple #[v0_, v1_]) ∧ Kd.R k26 26 w' w.heap.size (fun _ => True) v0_ r1 ∧ Kd.R k24 24 w' w.heap.size (fun _ => True) v1_ r2 ∧ Below w.heap.size w w' := by
  have hlen : l0.length ≤ 1000000 := by
    unfold jobs_Whole.f at h
    split at h
    · assumption
    · cases h
  have hsl : (sortedF l0).length ≤ 1000000 := Nat.le_trans (sortedF_length l0) hlen
  have hR : wholeGo (sortedF l0).length (sortedF l0) [] [] = (r1, r2) := by
    unfold jobs_Whole.f wholeF at h
    rw [if_pos hlen] at h
    exact Option.some.inj h
  have hcs := jobs_Sorted.calls A0 c0 l0 (sortedF l0) w hr0 hc0 (by unfold jobs_Sorted.f; rw [if_pos hlen])
  generalize sortedF l0 = s at hcs hR hsl
  have HS := Aside0.mk hcs
  have HR := Aside0.mk hR
  have hu24 := Try.underlying24
  have hu26 := Try.underlying26
  obtain ⟨i26, hi26, hz0, hz1, hz2⟩ := info_parts info26
  have HI := Aside0.mk hi26
  have HZ := Aside0.mk hz1
  clear h hcs hR hr0 hlen hi26 hz0 hz1 hz2
  go_enter Try.func6, Try.ntmps6
  go_wp2_with (go_at_call 17; refine HS.out.mono ?_; rintro e W3 ⟨v, rfl, hrow, hb3⟩; obtain ⟨A3, c3, rfl⟩ := Kd.R_slice hrow; have HB3 := Aside0.mk hb3; have HR3 := Aside0.mk (Kd.R_reads' hrow).2.2; have hc3 := (Kd.R_reads' hrow).2.1; clear hrow hb3)
  go_loopg [4, 5, 6] s.length (fun q v4 v5 v6 wx => ∃ (s' out : List S26) (bad : List S24) (A : Option Addr) (c B : Nat), v6 = .pointer (some ⟨B, 0, none⟩) ∧ s'.length = q ∧ s'.length ≤ c ∧ out.length + s'.length ≤ 1000000 ∧ bad.length + s'.length ≤ 1000000 ∧ Aside0 (wholeGo s'.length s' out bad = (r1, r2)) ∧ Aside0 (Kd.C k26 W3 A s'.length s') ∧ Aside0 (wx.heap[B]? = some (.cells #[.slice A s'.length c] 22 (0, 0))) ∧ Aside0 (W3.heap.size ≤ B) ∧
    Aside0 (Kd.R k26 26 wx W3.heap.size (fun _ => True) v4 out) ∧ Aside0 (Kd.R k24 24 wx W3.heap.size (fun _ => True) v5 bad) ∧ Aside0 (Below W3.heap.size W3 wx))
  case atStart => exact ⟨s, [], [], A3, c3, W3.heap.size, rfl, rfl, hc3, by simpa using hsl, by simpa using hsl, HR, HR3, ⟨blk_new W3 _⟩, ⟨Nat.le_refl _⟩, ⟨Kd.R_nil _ _ _ _ _⟩, ⟨Kd.R_nil _ _ _ _ _⟩, ⟨below_alloc (Below.refl _ _) _⟩⟩
  case round =>
    obtain ⟨s', out, bad, A, c, B, rfl, rfl, hc, hlo, hlb, HW, HC, HBox, HBs, HO, HBad, HBx⟩ := hrel
    have hbox := blk_cell HBox.out 0
    have hboxf := blk_frozen HBox.out 0
    cases s' with
    | nil =>
      have h1 : (out, bad) = (r1, r2) := HW.out
      simp only [Prod.mk.injEq] at h1
      obtain ⟨rfl, rfl⟩ := h1
      go_wp2
      go_ret2
      exact ⟨_, _, rfl, Kd.R_lower HO.out HB3.out.size, Kd.R_lower HBad.out HB3.out.size, below_then HB3.out HB3.out.size HBx.out⟩
    | cons x0 s2 =>
      have hpos : 0 < (x0 :: s2).length := by simp
      obtain ⟨u, hu⟩ : ∃ u, u = x0.f0.f0 := ⟨_, rfl⟩
      obtain ⟨t0, ht0⟩ : ∃ t, t = x0.f0.f1 := ⟨_, rfl⟩
      obtain ⟨m0, hm0⟩ : ∃ m, m = x0.f1 := ⟨_, rfl⟩
      obtain ⟨n, hn⟩ : ∃ n, n = unitLen u (x0 :: s2) := ⟨_, rfl⟩
      obtain ⟨ad, e1, hx0, hx1, hx2⟩ := at_T26 HC.out 0 (Int.le_refl 0) (by simp)
      cases e1
      have hfo : firstOther u (x0 :: s2) = if n = (x0 :: s2).length then -1 else (n : Int) := by unfold firstOther; rw [← hn]
      have hn0 : 0 < n := by rw [hn, hu]; exact unitLen_pos x0 s2
      have hnl : n ≤ (x0 :: s2).length := by rw [hn]; exact unitLen_le _ _
      have hcall := indexOther_calls B ad c x0 s2 wr hbox hc (Kd.C_below HC.out HBx.out) (by omega)
      rw [← hu, hfo] at hcall
      have z0 : W3.cell? ad = some (.int .i64 u) := by simpa [Addr.add, rd_T26, hu] using hx0
      have z1 : W3.cell? ⟨ad.block, ad.off + 1, none⟩ = some (.int .u8 t0) := by simpa [Addr.add, rd_T26, ht0] using hx1
      have z2 : W3.cell? ⟨ad.block, ad.off + 2, none⟩ = some (.bool m0) := by simpa [Addr.add, rd_T26, hm0] using hx2
      have Z0 := Aside0.mk z0
      have Z1 := Aside0.mk z1
      have Z2 := Aside0.mk z2
      have HN := Aside0.mk hn
      have HX := Aside0.mk (show u = x0.f0.f0 ∧ t0 = x0.f0.f1 ∧ m0 = x0.f1 from ⟨hu, ht0, hm0⟩)
      have HF := Aside0.mk hcall
      clear hfo hcall hu ht0 hm0 hn hx0 hx1 hx2 z0 z1 z2
      generalize hsl2 : (x0 :: s2).length = sl at hpos hc hbox hnl HF hlo hlb
      have HSL := Aside0.mk hsl2
      clear hsl2
      obtain ⟨iv, hiv⟩ : ∃ iv : Int, iv = if n = sl then -1 else (n : Int) := ⟨_, rfl⟩
      rw [← hiv] at HF
      have HIV := Aside0.mk hiv
      clear hiv
      go_upto_if 25 with (go_at_call 18; refine HF.out.mono ?_; rintro e w1 ⟨rfl, hb1⟩; have HB1 := Aside0.mk hb1; clear hb1)
      go_cut [7] (fun v7 wc => v7 = .int .i64 (n : Int) ∧ Aside0 (Below wr.heap.size wr wc))
      case first =>
        have hbox1 := (HB1.out.cell (World.block_lt_of_cell? wr _ hbox)).trans hbox
        have hiv := HIV.out
        by_cases hfull : n = sl
        · rw [if_pos hfull] at hiv
          subst hiv
          clear HIV
          go_wp2
          go_meet
          case rel => exact ⟨by rw [hfull], HB1⟩
        · rw [if_neg hfull] at hiv
          subst hiv
          clear HIV
          go_wp2
          go_meet
          case rel => exact ⟨rfl, HB1⟩
      case rest =>
        obtain ⟨rfl, HBc⟩ := hcut
        obtain ⟨wk, rfl⟩ : ∃ wk : World, wk = wc := ⟨_, rfl⟩
        clear HIV HF
        have hbox1 := (HBc.out.cell (World.block_lt_of_cell? wr _ hbox)).trans hbox
        have HBw := Aside0.mk (below_then HBx.out HBx.out.size HBc.out)
        have z0 := (HBw.out.cell (World.block_lt_of_cell? W3 _ Z0.out)).trans Z0.out
        have z1 := (HBw.out.cell (World.block_lt_of_cell? W3 _ Z1.out)).trans Z1.out
        have z2 := (HBw.out.cell (World.block_lt_of_cell? W3 _ Z2.out)).trans Z2.out
        have hkn := known_some t0
        have HK := Aside0.mk hkn
        clear hkn
        go_upto_region 8 with (fail)
        go_cut [8, 9] (fun v8 v9 wd => v8 = .pointer (some ⟨wk.heap.size, 0, none⟩) ∧ v9 = .bool (known t0) ∧ Aside0 (Below wk.heap.size wk wd) ∧ Aside0 (wd.heap[wk.heap.size]? = some (.cells #[.int .i64 u, .int .u8 t0, .bool m0] 26 (0, 0))))
        case first =>
          have hposI : (0 : Int) < (sl : Int) := by omega
          refine start_ (n := 12) (S := fun w' => w'.cell? ⟨B, 0, none⟩ = some (.slice (some ad) sl c) ∧ w'.cell? ad = some (.int .i64 u) ∧ w'.cell? ⟨ad.block, ad.off + 1, none⟩ = some (.int .u8 t0) ∧ w'.cell? ⟨ad.block, ad.off + 2, none⟩ = some (.bool m0)) (ds := [10]) #[false, false, false, false, false, false, false, false, false, false, false, false] (by kernel_rfl) rfl rfl ⟨hbox1, z0, z1, z2⟩ (fun hHeld => ?_)
          obtain ⟨W1, hW1⟩ : ∃ W1, W1 = wk.drew := ⟨_, rfl⟩
          rw [← hW1] at hHeld ⊢
          have hsz : Aside0 (W1.heap.size = wk.heap.size) := ⟨by rw [hW1]; rfl⟩
          have HBd : Aside0 (Below wk.heap.size wk W1) := ⟨by rw [hW1]; exact below_drew (Below.refl _ _)⟩
          clear hW1 hbox1 z0 z1 z2
          refine take_ (i := 0) (N := (some 28)) (v := ?_) (a' := ?_) #[true, false, false, false, false, false, false, false, false, false, false, false] rfl rfl (by kernel_rfl) (fun _ _ _ h => h) (Or.inl ⟨by rfl, ?_⟩) hHeld ?_ ?_
          rotate_left
          · rintro w' ⟨s0, s1, s2, s3⟩
            go_simp
            with_reducible rfl
          rotate_left
          · simp only [Act.put, List.setIfInBounds_toArray, List.set_cons_zero, List.set_cons_succ, i64_w, i32_w]
            rfl
          refine pure_ (i := 1) (N := (some 29)) (v := ?_) (a' := ?_) #[true, true, false, false, false, false, false, false, false, false, false, false] rfl rfl (by kernel_rfl) (fun _ _ _ h => h) (Or.inl ⟨by rfl, ?_⟩) ?_ ?_
          rotate_left
          · intro w'
            go_simp
            with_reducible rfl
          rotate_left
          · simp only [Act.put, List.setIfInBounds_toArray, List.set_cons_zero, List.set_cons_succ, i64_w, i32_w]
            rfl
          refine take_ (i := 2) (N := (some 30)) (v := ?_) (a' := ?_) #[true, true, true, false, false, false, false, false, false, false, false, false] rfl rfl (by kernel_rfl) (fun _ _ _ h => h) (Or.inl ⟨by rfl, ?_⟩) hHeld ?_ ?_
          rotate_left
          · rintro w' ⟨s0, s1, s2, s3⟩
            go_simp
            with_reducible rfl
          rotate_left
          · simp only [Act.put, List.setIfInBounds_toArray, List.set_cons_zero, List.set_cons_succ, i64_w, i32_w]
            rfl
          refine take_ (i := 3) (N := (some 31)) (v := ?_) (a' := ?_) #[true, true, true, true, false, false, false, false, false, false, false, false] rfl rfl (by kernel_rfl) (fun _ _ _ h => h) (Or.inl ⟨by rfl, ?_⟩) hHeld ?_ ?_
          rotate_left
          · rintro w' ⟨s0, s1, s2, s3⟩
            go_simp
            with_reducible rfl
          rotate_left
          · simp only [Act.put, List.setIfInBounds_toArray, List.set_cons_zero, List.set_cons_succ, i64_w, i32_w]
            rfl
          refine pure_ (i := 4) (N := (some 32)) (v := ?_) (a' := ?_) #[true, true, true, true, true, false, false, false, false, false, false, false] rfl rfl (by kernel_rfl) (fun _ _ _ h => h) (Or.inl ⟨by rfl, ?_⟩) ?_ ?_
          rotate_left
          · intro w'
            go_simp
            with_reducible rfl
          rotate_left
          · simp only [Act.put, List.setIfInBounds_toArray, List.set_cons_zero, List.set_cons_succ, i64_w, i32_w]
            rfl
          refine pure_ (i := 5) (N := (some 33)) (v := ?_) (a' := ?_) #[true, true, true, true, true, true, false, false, false, false, false, false] rfl rfl (by kernel_rfl) (fun _ _ _ h => h) (Or.inl ⟨by rfl, ?_⟩) ?_ ?_
          rotate_left
          · intro w'
            go_simp
            with_reducible rfl
          rotate_left
          · simp only [Act.put, List.setIfInBounds_toArray, List.set_cons_zero, List.set_cons_succ, i64_w, i32_w]
            rfl
          refine pure_ (i := 6) (N := (some 34)) (v := ?_) (a' := ?_) #[true, true, true, true, true, true, true, false, false, false, false, false] rfl rfl (by kernel_rfl) (fun _ _ _ h => h) (Or.inl ⟨by rfl, ?_⟩) ?_ ?_
          rotate_left
          · intro w'
            go_simp
            with_reducible rfl
          rotate_left
          · simp only [Act.put, List.setIfInBounds_toArray, List.set_cons_zero, List.set_cons_succ, i64_w, i32_w]
            rfl
          refine take_ (i := 7) (N := (some 35)) (v := ?_) (a' := ?_) #[true, true, true, true, true, true, true, true, false, false, false, false] rfl rfl (by kernel_rfl) (fun _ _ _ h => h) (Or.inl ⟨by rfl, ?_⟩) hHeld ?_ ?_
          rotate_left
          · rintro w' ⟨s0, s1, s2, s3⟩
            go_simp
            with_reducible rfl
          rotate_left
          · simp only [Act.put, List.setIfInBounds_toArray, List.set_cons_zero, List.set_cons_succ, i64_w, i32_w]
            rfl
          refine two_ (i := 8) (j := 9) (Ni := (some 36)) (Nj := (some 8)) #[true, true, true, true, true, true, true, true, true, false, false, false] #[true, true, true, true, true, true, true, true, false, true, false, false] rfl rfl rfl rfl (by kernel_rfl) (by decide) (by decide) (fun K hK => ?_) (fun K hK => ?_)
          · skip
            refine goes_ Try.func13 (by kernel_rfl) rfl #[.int .u8 t0] (by rfl) rfl rfl (by (try simp only [List.map_toArray, List.map_cons, List.map_nil]); first | done | rfl) ?_
            with_reducible refine (jobs_Known.calls t0 (known t0) _ HK.out).mono ?_
            rintro e w' ⟨rfl, ⟨nd, rfl⟩⟩
            refine ⟨_, rfl, ?_⟩
            refine hK.out _ _ hHeld (fun hHeld => ?_)
            clear hK K
            try (refine norm_ (a' := ?_) ?_ ?_; rotate_left; (first | (show Act.put _ _ _ = _; simp only [Act.put, List.setIfInBounds_toArray, List.set_cons_zero, List.set_cons_succ, i64_w, i32_w]; rfl) | rfl))
            obtain ⟨W2, hW2⟩ : ∃ W2, W2 = W1.drewN nd := ⟨_, rfl⟩
            rw [← hW2] at hHeld ⊢
            have hsz2 : Aside0 (W2.heap.size = wk.heap.size) := ⟨by rw [hW2]; exact hsz.out⟩
            have HBd2 : Aside0 (Below wk.heap.size wk W2) := ⟨by rw [hW2]; exact pw_below_drewN HBd.out nd⟩
            clear hW2
            refine one_ (i := 9) (N := (some 8)) #[true, true, true, true, true, true, true, true, true, true, false, false] rfl rfl (by kernel_rfl) (by decide) (fun K hK => ?_)
            rw [if_pos (by rfl)]
            unfold Oper.wp
            go_simp
            refine hK.out _ _ ⟨pw_cell_below (below_alloc (Below.refl _ _) _) hHeld.1, pw_cell_below (below_alloc (Below.refl _ _) _) hHeld.2.1, pw_cell_below (below_alloc (Below.refl _ _) _) hHeld.2.2.1, pw_cell_below (below_alloc (Below.refl _ _) _) hHeld.2.2.2⟩ (fun hHeld => ?_)
            clear hK K
            try (refine norm_ (a' := ?_) ?_ ?_; rotate_left; (first | (show Act.put _ _ _ = _; simp only [Act.put, List.setIfInBounds_toArray, List.set_cons_zero, List.set_cons_succ, i64_w, i32_w]; rfl) | rfl))
            refine last_ (i := 10) (N := none) #[true, true, true, true, true, true, true, true, true, true, true, false] rfl rfl (by kernel_rfl) (by decide) (fun K hK => ?_)
            rw [if_pos (by rfl)]
            unfold Oper.wp
            go_simp
            refine hK.out _ _ ?_
            clear hK K
            try (refine norm_ (a' := ?_) ?_ ?_; rotate_left; (first | (show Act.put _ _ _ = _; simp only [Act.put, List.setIfInBounds_toArray, List.set_cons_zero, List.set_cons_succ, i64_w, i32_w]; rfl) | rfl))
            refine pure_ (i := 11) (N := (some 9)) (v := ?_) (a' := ?_) #[true, true, true, true, true, true, true, true, true, true, true, true] rfl rfl (by kernel_rfl) (fun _ _ _ h => h) (Or.inl ⟨by rfl, ?_⟩) ?_ ?_
            rotate_left
            · intro w'
              go_simp
              with_reducible rfl
            rotate_left
            · simp only [Act.put, List.setIfInBounds_toArray, List.set_cons_zero, List.set_cons_succ, i64_w, i32_w]
              rfl
            refine done_ (by kernel_rfl) ?_
            go_wp2
            go_meet
            case rel => exact ⟨by rw [hsz2.out], rfl, ⟨below_alloc_at HBd2.out (by rw [hsz2.out]; exact Nat.le_refl _) _⟩, ⟨by rw [← hsz2.out]; exact blk_new W2 _⟩⟩
          · skip
            rw [if_pos (by rfl)]
            unfold Oper.wp
            go_simp
            refine hK.out _ _ ⟨pw_cell_below (below_alloc (Below.refl _ _) _) hHeld.1, pw_cell_below (below_alloc (Below.refl _ _) _) hHeld.2.1, pw_cell_below (below_alloc (Below.refl _ _) _) hHeld.2.2.1, pw_cell_below (below_alloc (Below.refl _ _) _) hHeld.2.2.2⟩ (fun hHeld => ?_)
            clear hK K
            try (refine norm_ (a' := ?_) ?_ ?_; rotate_left; (first | (show Act.put _ _ _ = _; simp only [Act.put, List.setIfInBounds_toArray, List.set_cons_zero, List.set_cons_succ, i64_w, i32_w]; rfl) | rfl))
            refine one_ (i := 8) (N := (some 36)) #[true, true, true, true, true, true, true, true, true, true, false, false] rfl rfl (by kernel_rfl) (by decide) (fun K hK => ?_)
            refine goes_ Try.func13 (by kernel_rfl) rfl #[.int .u8 t0] (by rfl) rfl rfl (by (try simp only [List.map_toArray, List.map_cons, List.map_nil]); first | done | rfl) ?_
            with_reducible refine (jobs_Known.calls t0 (known t0) _ HK.out).mono ?_
            rintro e w' ⟨rfl, ⟨nd, rfl⟩⟩
            refine ⟨_, rfl, ?_⟩
            refine hK.out _ _ hHeld (fun hHeld => ?_)
            clear hK K
            try (refine norm_ (a' := ?_) ?_ ?_; rotate_left; (first | (show Act.put _ _ _ = _; simp only [Act.put, List.setIfInBounds_toArray, List.set_cons_zero, List.set_cons_succ, i64_w, i32_w]; rfl) | rfl))
            refine last_ (i := 10) (N := none) #[true, true, true, true, true, true, true, true, true, true, true, false] rfl rfl (by kernel_rfl) (by decide) (fun K hK => ?_)
            rw [if_pos (by rfl)]
            unfold Oper.wp
            go_simp
            refine hK.out _ _ ?_
            clear hK K
            try (refine norm_ (a' := ?_) ?_ ?_; rotate_left; (first | (show Act.put _ _ _ = _; simp only [Act.put, List.setIfInBounds_toArray, List.set_cons_zero, List.set_cons_succ, i64_w, i32_w]; rfl) | rfl))
            refine pure_ (i := 11) (N := (some 9)) (v := ?_) (a' := ?_) #[true, true, true, true, true, true, true, true, true, true, true, true] rfl rfl (by kernel_rfl) (fun _ _ _ h => h) (Or.inl ⟨by rfl, ?_⟩) ?_ ?_
            rotate_left
            · intro w'
              go_simp
              with_reducible rfl
            rotate_left
            · simp only [Act.put, List.setIfInBounds_toArray, List.set_cons_zero, List.set_cons_succ, i64_w, i32_w]
              rfl
            refine done_ (by kernel_rfl) ?_
            go_wp2
            go_meet
            case rel =>
              refine ⟨by rw [hsz.out], rfl, ⟨?_⟩, ⟨?_⟩⟩
              · have h1 := pw_below_drewN (below_alloc_at HBd.out (by rw [hsz.out]; exact Nat.le_refl _) (.cells #[.int .i64 0, .int .u8 0, .bool false] 26)) nd
                rw [← hsz.out] at h1 ⊢
                exact ((h1.setCell (p := ⟨W1.heap.size, 0, none⟩) (Nat.le_refl _) _).setCell (p := ⟨W1.heap.size, 1, none⟩) (Nat.le_refl _) _).setCell (p := ⟨W1.heap.size, 2, none⟩) (Nat.le_refl _) _
              · have h1 : ((W1.alloc (.cells #[.int .i64 0, .int .u8 0, .bool false] 26)).drewN nd).heap[W1.heap.size]? = some (.cells #[.int .i64 0, .int .u8 0, .bool false] 26 (0, 0)) := blk_drewN (blk_new W1 _) nd
                rw [← hsz.out]
                exact blk_set (blk_set (blk_set h1 0 _) 1 _) 2 _
        case rest =>
          obtain ⟨rfl, rfl, HBd, HOne⟩ := hcut
          obtain ⟨wd, rfl⟩ : ∃ wd : World, wd = wc := ⟨_, rfl⟩
          have HBe := Aside0.mk (below_then HBw.out HBw.out.size HBd.out)
          have hboxd : wd.cell? ⟨B, 0, none⟩ = some (.slice (some ad) sl c) := (HBd.out.cell (World.block_lt_of_cell? wk _ hbox1)).trans hbox1
          have hto := cut_to (P := Try.prog) 22 26 .i64 Try.underlying22 HI.out (some ad) sl c (n : Int) (by omega) (by omega) hc
          rw [Int.toNat_natCast] at hto
          clear hbox1 z0 z1 z2 HK
          go_wp2
          have hHOne := HOne
          go_loopw [9, 41] (fun v9 i wy => ∃ (k : Nat) (t : Int) (m ok : Bool), k ≤ n ∧ i = .int .i64 k ∧ v9 = .bool ok ∧ Aside0 (((x0 :: s2).take k).foldl mergeS (t0, m0, known t0) = (t, m, ok)) ∧ Aside0 (wy.heap[wk.heap.size]? = some (.cells #[.int .i64 u, .int .u8 t, .bool m] 26 (0, 0))) ∧ Aside0 (Below wk.heap.size wk wy)) (fun _ i _ => n - (intOf i).toNat)
          case atStart => exact ⟨0, t0, m0, known t0, Nat.zero_le _, rfl, rfl, ⟨rfl⟩, hHOne, HBd⟩
          case round =>
            obtain ⟨wy, rfl⟩ : ∃ wy : World, wy = wr := ⟨_, rfl⟩
            obtain ⟨k, t, m, ok, hk, rfl, rfl, HFo, HOy, HBy⟩ := hrel
            clear hHOne HOne hboxd
            by_cases hlt : k < n
            · obtain ⟨x, hx⟩ : ∃ x, x = rd_T26 (x0 :: s2) k := ⟨_, rfl⟩
              have hsl1 := HSL.out
              obtain ⟨ad', e1, hx0, hx1, hx2⟩ := at_T26 HC.out k (by omega) (by omega)
              cases e1
              have hBy2 := below_then HBw.out HBw.out.size HBy.out
              replace hx0 := (hBy2.cell (World.block_lt_of_cell? W3 _ hx0)).trans hx0
              replace hx1 := (hBy2.cell (World.block_lt_of_cell? W3 _ hx1)).trans hx1
              replace hx2 := (hBy2.cell (World.block_lt_of_cell? W3 _ hx2)).trans hx2
              rw [← hx] at hx0 hx1 hx2
              simp only [Int.toNat_natCast] at hx0 hx1 hx2
              have HX2 := Aside0.mk hx
              have o0 : wy.cell? ⟨wk.heap.size, 0, none⟩ = some (.int .i64 u) := blk_cell HOy.out 0
              have o1 : wy.cell? ⟨wk.heap.size, 1, none⟩ = some (.int .u8 t) := blk_cell HOy.out 1
              have o2 : wy.cell? ⟨wk.heap.size, 2, none⟩ = some (.bool m) := blk_cell HOy.out 2
              have hba := below_alloc (Below.refl wy.heap.size wy) (.cells #[.int .i64 x.f0.f0, .int .u8 x.f0.f1, .bool x.f1] 26)
              have p0 := pw_cell_below hba o0
              have p1 := pw_cell_below hba o1
              have p2 := pw_cell_below hba o2
              clear hba
              obtain ⟨t', k', hmg⟩ : ∃ t' k', mergeT t x.f0.f1 = (t', k') := ⟨_, _, rfl⟩
              have HM := Aside0.mk (show jobs_Merge.f 3 t x.f0.f1 = some (t', k') by rw [merge_some, hmg])
              have HMG := Aside0.mk hmg
              clear hx hBy2 hsl1 hmg
              go_wp2_with (go_at_call 10; refine (jobs_Merge.calls 3 t x.f0.f1 t' k' _ HM.out).mono ?_; rintro e w' ⟨rfl, ⟨nd, rfl⟩⟩)
              obtain ⟨W1, hW1⟩ : ∃ W1, W1 = ((wy.alloc (.cells #[.int .i64 x.f0.f0, .int .u8 x.f0.f1, .bool x.f1] 26)).drewN nd) := ⟨_, rfl⟩
              replace p0 : W1.cell? ⟨wk.heap.size, 0, none⟩ = some (.int .i64 u) := by rw [hW1]; exact p0
              replace p1 : W1.cell? ⟨wk.heap.size, 1, none⟩ = some (.int .u8 t) := by rw [hW1]; exact p1
              replace p2 : W1.cell? ⟨wk.heap.size, 2, none⟩ = some (.bool m) := by rw [hW1]; exact p2
              have q2 : W1.cell? ⟨wy.heap.size, 2, none⟩ = some (.bool x.f1) := by rw [hW1]; exact (new3 wy _ _ _ _).2.2
              have HB1 := Aside0.mk (show W1.heap[wk.heap.size]? = some (.cells #[.int .i64 u, .int .u8 t, .bool m] 26 (0, 0)) by rw [hW1]; exact blk_alloc HOy.out _)
              have f1 : W1.frozen? ⟨wk.heap.size, 1, none⟩ = false := blk_frozen HB1.out 1
              have f2 : W1.frozen? ⟨wk.heap.size, 2, none⟩ = false := blk_frozen HB1.out 2
              have HBW := Aside0.mk (show Below wk.heap.size wk W1 by rw [hW1]; exact pw_below_drewN (below_alloc HBy.out _) nd)
              have hfo : ((x0 :: s2).take (k + 1)).foldl mergeS (t0, m0, known t0) = (t', m || x.f1, ok && k') := by
                rw [take_snoc _ k z26 (by have := HSL.out; omega), List.foldl_append, HFo.out]
                have e : (x0 :: s2).getD k z26 = x := by rw [HX2.out]; rfl
                rw [e]
                simp [mergeS, HMG.out]
              have HFn := Aside0.mk hfo
              clear hfo hx0 hx1 hx2 o0 o1 o2
              rw [← hW1]
              clear hW1
              have HNe := Aside0.mk (show wy.heap.size ≠ wk.heap.size by have := blk_lt HOy.out; omega)
              cases m <;> cases ok
              · skip
                refine start_ (n := 17) (S := fun w' => w'.cell? ⟨wk.heap.size, 2, none⟩ = some (.bool false) ∧ w'.cell? ⟨wy.heap.size, 2, none⟩ = some (.bool x.f1)) (ds := [15]) #[false, false, false, false, false, false, false, false, false, false, false, false, false, false, false, false, false] (by kernel_rfl) rfl rfl ⟨p2, q2⟩ (fun hHeld => ?_)
                refine pure_ (i := 0) (N := (some 55)) (v := ?_) (a' := ?_) #[true, false, false, false, false, false, false, false, false, false, false, false, false, false, false, false, false] rfl rfl (by kernel_rfl) (fun _ _ _ h => h) (Or.inl ⟨by rfl, ?_⟩) ?_ ?_
                rotate_left
                · intro w'
                  go_simp
                  with_reducible rfl
                rotate_left
                · simp only [Act.put, List.setIfInBounds_toArray, List.set_cons_zero, List.set_cons_succ, i64_w, i32_w]
                  rfl
                refine pure_ (i := 1) (N := (some 56)) (v := ?_) (a' := ?_) #[true, true, false, false, false, false, false, false, false, false, false, false, false, false, false, false, false] rfl rfl (by kernel_rfl) (fun _ _ _ h => h) (Or.inl ⟨by rfl, ?_⟩) ?_ ?_
                rotate_left
                · intro w'
                  go_simp
                  with_reducible rfl
                rotate_left
                · simp only [Act.put, List.setIfInBounds_toArray, List.set_cons_zero, List.set_cons_succ, i64_w, i32_w]
                  rfl
                refine pure_ (i := 7) (N := (some 62)) (v := ?_) (a' := ?_) #[true, true, false, false, false, false, false, true, false, false, false, false, false, false, false, false, false] rfl rfl (by kernel_rfl) (fun _ _ _ h => h) (Or.inl ⟨by rfl, ?_⟩) ?_ ?_
                rotate_left
                · intro w'
                  go_simp
                  with_reducible rfl
                rotate_left
                · simp only [Act.put, List.setIfInBounds_toArray, List.set_cons_zero, List.set_cons_succ, i64_w, i32_w]
                  rfl
                refine take_ (i := 2) (N := (some 57)) (v := ?_) (a' := ?_) #[true, true, true, false, false, false, false, true, false, false, false, false, false, false, false, false, false] rfl rfl (by kernel_rfl) (fun _ _ _ h => h) (Or.inl ⟨by rfl, ?_⟩) hHeld ?_ ?_
                rotate_left
                · rintro w' ⟨s0, s1⟩
                  go_simp
                  with_reducible rfl
                rotate_left
                · simp only [Act.put, List.setIfInBounds_toArray, List.set_cons_zero, List.set_cons_succ, i64_w, i32_w]
                  rfl
                refine pure_ (i := 3) (N := (some 58)) (v := ?_) (a' := ?_) #[true, true, true, true, false, false, false, true, false, false, false, false, false, false, false, false, false] rfl rfl (by kernel_rfl) (fun _ _ _ h => h) (Or.inl ⟨by rfl, ?_⟩) ?_ ?_
                rotate_left
                · intro w'
                  go_simp
                  with_reducible rfl
                rotate_left
                · simp only [Act.put, List.setIfInBounds_toArray, List.set_cons_zero, List.set_cons_succ, i64_w, i32_w]
                  rfl
                refine pure_ (i := 4) (N := (some 59)) (v := ?_) (a' := ?_) #[true, true, true, true, true, false, false, true, false, false, false, false, false, false, false, false, false] rfl rfl (by kernel_rfl) (fun _ _ _ h => h) (Or.inl ⟨by rfl, ?_⟩) ?_ ?_
                rotate_left
                · intro w'
                  go_simp
                  with_reducible rfl
                rotate_left
                · simp only [Act.put, List.setIfInBounds_toArray, List.set_cons_zero, List.set_cons_succ, i64_w, i32_w]
                  rfl
                refine pure_ (i := 8) (N := (some 63)) (v := ?_) (a' := ?_) #[true, true, true, true, true, false, false, true, true, false, false, false, false, false, false, false, false] rfl rfl (by kernel_rfl) (fun _ _ _ h => h) (Or.inl ⟨by rfl, ?_⟩) ?_ ?_
                rotate_left
                · intro w'
                  go_simp
                  with_reducible rfl
                rotate_left
                · simp only [Act.put, List.setIfInBounds_toArray, List.set_cons_zero, List.set_cons_succ, i64_w, i32_w]
                  rfl
                refine pure_ (i := 9) (N := (some 64)) (v := undef) (a' := ?_) #[true, true, true, true, true, false, false, true, true, true, false, false, false, false, false, false, false] rfl rfl (by kernel_rfl) (fun _ _ _ h => h) (Or.inr ⟨by rfl, rfl⟩) ?_ ?_
                rotate_left
                · simp only [Act.put, List.setIfInBounds_toArray, List.set_cons_zero, List.set_cons_succ, i64_w, i32_w]
                  rfl
                refine pure_ (i := 10) (N := (some 65)) (v := ?_) (a' := ?_) #[true, true, true, true, true, false, false, true, true, true, true, false, false, false, false, false, false] rfl rfl (by kernel_rfl) (fun _ _ _ h => h) (Or.inl ⟨by rfl, ?_⟩) ?_ ?_
                rotate_left
                · intro w'
                  go_simp
                  with_reducible rfl
                rotate_left
                · simp only [Act.put, List.setIfInBounds_toArray, List.set_cons_zero, List.set_cons_succ, i64_w, i32_w]
                  rfl
                refine pure_ (i := 11) (N := (some 66)) (v := ?_) (a' := ?_) #[true, true, true, true, true, false, false, true, true, true, true, true, false, false, false, false, false] rfl rfl (by kernel_rfl) (fun _ _ _ h => h) (Or.inl ⟨by rfl, ?_⟩) ?_ ?_
                rotate_left
                · intro w'
                  go_simp
                  with_reducible rfl
                rotate_left
                · simp only [Act.put, List.setIfInBounds_toArray, List.set_cons_zero, List.set_cons_succ, i64_w, i32_w]
                  rfl
                refine pure_ (i := 12) (N := (some 67)) (v := ?_) (a' := ?_) #[true, true, true, true, true, false, false, true, true, true, true, true, true, false, false, false, false] rfl rfl (by kernel_rfl) (fun _ _ _ h => h) (Or.inl ⟨by rfl, ?_⟩) ?_ ?_
                rotate_left
                · intro w'
                  go_simp
                  with_reducible rfl
                rotate_left
                · simp only [Act.put, List.setIfInBounds_toArray, List.set_cons_zero, List.set_cons_succ, i64_w, i32_w]
                  rfl
                refine take_ (i := 5) (N := (some 60)) (v := ?_) (a' := ?_) #[true, true, true, true, true, true, false, true, true, true, true, true, true, false, false, false, false] rfl rfl (by kernel_rfl) (fun _ _ _ h => h) (Or.inl ⟨by rfl, ?_⟩) hHeld ?_ ?_
                rotate_left
                · rintro w' ⟨s0, s1⟩
                  go_simp
                  with_reducible rfl
                rotate_left
                · simp only [Act.put, List.setIfInBounds_toArray, List.set_cons_zero, List.set_cons_succ, i64_w, i32_w]
                  rfl
                refine pure_ (i := 6) (N := (some 61)) (v := ?_) (a' := ?_) #[true, true, true, true, true, true, true, true, true, true, true, true, true, false, false, false, false] rfl rfl (by kernel_rfl) (fun _ _ _ h => h) (Or.inl ⟨by rfl, ?_⟩) ?_ ?_
                rotate_left
                · intro w'
                  go_simp
                  with_reducible rfl
                rotate_left
                · simp only [Act.put, List.setIfInBounds_toArray, List.set_cons_zero, List.set_cons_succ, i64_w, i32_w]
                  rfl
                refine one_ (i := 13) (N := none) #[true, true, true, true, true, true, true, true, true, true, true, true, true, true, false, false, false] rfl rfl (by kernel_rfl) (by decide) (fun K hK => ?_)
                rw [if_pos (by rfl)]
                unfold Oper.wp
                go_simp
                refine hK.out _ _ ⟨by go_simp, by go_simp⟩ (fun hHeld => ?_)
                clear hK K
                try (refine norm_ (a' := ?_) ?_ ?_; rotate_left; (first | (show Act.put _ _ _ = _; simp only [Act.put, List.setIfInBounds_toArray, List.set_cons_zero, List.set_cons_succ, i64_w, i32_w]; rfl) | rfl))
                refine pure_ (i := 14) (N := (some 68)) (v := ?_) (a' := ?_) #[true, true, true, true, true, true, true, true, true, true, true, true, true, true, true, false, false] rfl rfl (by kernel_rfl) (fun _ _ _ h => h) (Or.inl ⟨by rfl, ?_⟩) ?_ ?_
                rotate_left
                · intro w'
                  go_simp
                  with_reducible rfl
                rotate_left
                · simp only [Act.put, List.setIfInBounds_toArray, List.set_cons_zero, List.set_cons_succ, i64_w, i32_w]
                  rfl
                refine last_ (i := 15) (N := none) #[true, true, true, true, true, true, true, true, true, true, true, true, true, true, true, true, false] rfl rfl (by kernel_rfl) (by decide) (fun K hK => ?_)
                rw [if_pos (by rfl)]
                unfold Oper.wp
                go_simp
                refine hK.out _ _ ?_
                clear hK K
                try (refine norm_ (a' := ?_) ?_ ?_; rotate_left; (first | (show Act.put _ _ _ = _; simp only [Act.put, List.setIfInBounds_toArray, List.set_cons_zero, List.set_cons_succ, i64_w, i32_w]; rfl) | rfl))
                refine pure_ (i := 16) (N := (some 9)) (v := ?_) (a' := ?_) #[true, true, true, true, true, true, true, true, true, true, true, true, true, true, true, true, true] rfl rfl (by kernel_rfl) (fun _ _ _ h => h) (Or.inl ⟨by rfl, ?_⟩) ?_ ?_
                rotate_left
                · intro w'
                  go_simp
                  with_reducible rfl
                rotate_left
                · simp only [Act.put, List.setIfInBounds_toArray, List.set_cons_zero, List.set_cons_succ, i64_w, i32_w]
                  rfl
                refine done_ (by kernel_rfl) ?_
                go_wp2
                go_roundw
                case rel => exact ⟨k + 1, t', _, _, hlt, by go_num, by first | rfl | simp, HFn, ⟨blk_set (blk_set (blk_drew HB1.out) 1 (.int .u8 t')) 2 _⟩, ⟨(below_drew HBW.out).setCell (p := ⟨wk.heap.size, 1, none⟩) (Nat.le_refl _) _ |>.setCell (p := ⟨wk.heap.size, 2, none⟩) (Nat.le_refl _) _⟩⟩
                case measure => simp [intOf]; omega
              · skip
                refine start_ (n := 17) (S := fun w' => w'.cell? ⟨wk.heap.size, 2, none⟩ = some (.bool false) ∧ w'.cell? ⟨wy.heap.size, 2, none⟩ = some (.bool x.f1)) (ds := [15]) #[false, false, false, false, false, false, false, false, false, false, false, false, false, false, false, false, false] (by kernel_rfl) rfl rfl ⟨p2, q2⟩ (fun hHeld => ?_)
                refine pure_ (i := 0) (N := (some 55)) (v := ?_) (a' := ?_) #[true, false, false, false, false, false, false, false, false, false, false, false, false, false, false, false, false] rfl rfl (by kernel_rfl) (fun _ _ _ h => h) (Or.inl ⟨by rfl, ?_⟩) ?_ ?_
                rotate_left
                · intro w'
                  go_simp
                  with_reducible rfl
                rotate_left
                · simp only [Act.put, List.setIfInBounds_toArray, List.set_cons_zero, List.set_cons_succ, i64_w, i32_w]
                  rfl
                refine pure_ (i := 1) (N := (some 56)) (v := ?_) (a' := ?_) #[true, true, false, false, false, false, false, false, false, false, false, false, false, false, false, false, false] rfl rfl (by kernel_rfl) (fun _ _ _ h => h) (Or.inl ⟨by rfl, ?_⟩) ?_ ?_
                rotate_left
                · intro w'
                  go_simp
                  with_reducible rfl
                rotate_left
                · simp only [Act.put, List.setIfInBounds_toArray, List.set_cons_zero, List.set_cons_succ, i64_w, i32_w]
                  rfl
                refine pure_ (i := 7) (N := (some 62)) (v := ?_) (a' := ?_) #[true, true, false, false, false, false, false, true, false, false, false, false, false, false, false, false, false] rfl rfl (by kernel_rfl) (fun _ _ _ h => h) (Or.inl ⟨by rfl, ?_⟩) ?_ ?_
                rotate_left
                · intro w'
                  go_simp
                  with_reducible rfl
                rotate_left
                · simp only [Act.put, List.setIfInBounds_toArray, List.set_cons_zero, List.set_cons_succ, i64_w, i32_w]
                  rfl
                refine take_ (i := 2) (N := (some 57)) (v := ?_) (a' := ?_) #[true, true, true, false, false, false, false, true, false, false, false, false, false, false, false, false, false] rfl rfl (by kernel_rfl) (fun _ _ _ h => h) (Or.inl ⟨by rfl, ?_⟩) hHeld ?_ ?_
                rotate_left
                · rintro w' ⟨s0, s1⟩
                  go_simp
                  with_reducible rfl
                rotate_left
                · simp only [Act.put, List.setIfInBounds_toArray, List.set_cons_zero, List.set_cons_succ, i64_w, i32_w]
                  rfl
                refine pure_ (i := 3) (N := (some 58)) (v := ?_) (a' := ?_) #[true, true, true, true, false, false, false, true, false, false, false, false, false, false, false, false, false] rfl rfl (by kernel_rfl) (fun _ _ _ h => h) (Or.inl ⟨by rfl, ?_⟩) ?_ ?_
                rotate_left
                · intro w'
                  go_simp
                  with_reducible rfl
                rotate_left
                · simp only [Act.put, List.setIfInBounds_toArray, List.set_cons_zero, List.set_cons_succ, i64_w, i32_w]
                  rfl
                refine pure_ (i := 4) (N := (some 59)) (v := ?_) (a' := ?_) #[true, true, true, true, true, false, false, true, false, false, false, false, false, false, false, false, false] rfl rfl (by kernel_rfl) (fun _ _ _ h => h) (Or.inl ⟨by rfl, ?_⟩) ?_ ?_
                rotate_left
                · intro w'
                  go_simp
                  with_reducible rfl
                rotate_left
                · simp only [Act.put, List.setIfInBounds_toArray, List.set_cons_zero, List.set_cons_succ, i64_w, i32_w]
                  rfl
                refine pure_ (i := 8) (N := (some 63)) (v := ?_) (a' := ?_) #[true, true, true, true, true, false, false, true, true, false, false, false, false, false, false, false, false] rfl rfl (by kernel_rfl) (fun _ _ _ h => h) (Or.inl ⟨by rfl, ?_⟩) ?_ ?_
                rotate_left
                · intro w'
                  go_simp
                  with_reducible rfl
                rotate_left
                · simp only [Act.put, List.setIfInBounds_toArray, List.set_cons_zero, List.set_cons_succ, i64_w, i32_w]
                  rfl
                refine pure_ (i := 9) (N := (some 64)) (v := ?_) (a' := ?_) #[true, true, true, true, true, false, false, true, true, true, false, false, false, false, false, false, false] rfl rfl (by kernel_rfl) (fun _ _ _ h => h) (Or.inl ⟨by rfl, ?_⟩) ?_ ?_
                rotate_left
                · intro w'
                  go_simp
                  with_reducible rfl
                rotate_left
                · simp only [Act.put, List.setIfInBounds_toArray, List.set_cons_zero, List.set_cons_succ, i64_w, i32_w]
                  rfl
                refine pure_ (i := 10) (N := (some 65)) (v := ?_) (a' := ?_) #[true, true, true, true, true, false, false, true, true, true, true, false, false, false, false, false, false] rfl rfl (by kernel_rfl) (fun _ _ _ h => h) (Or.inl ⟨by rfl, ?_⟩) ?_ ?_
                rotate_left
                · intro w'
                  go_simp
                  with_reducible rfl
                rotate_left
                · simp only [Act.put, List.setIfInBounds_toArray, List.set_cons_zero, List.set_cons_succ, i64_w, i32_w]
                  rfl
                refine pure_ (i := 11) (N := (some 66)) (v := ?_) (a' := ?_) #[true, true, true, true, true, false, false, true, true, true, true, true, false, false, false, false, false] rfl rfl (by kernel_rfl) (fun _ _ _ h => h) (Or.inl ⟨by rfl, ?_⟩) ?_ ?_
                rotate_left
                · intro w'
                  go_simp
                  with_reducible rfl
                rotate_left
                · simp only [Act.put, List.setIfInBounds_toArray, List.set_cons_zero, List.set_cons_succ, i64_w, i32_w]
                  rfl
                refine pure_ (i := 12) (N := (some 67)) (v := ?_) (a' := ?_) #[true, true, true, true, true, false, false, true, true, true, true, true, true, false, false, false, false] rfl rfl (by kernel_rfl) (fun _ _ _ h => h) (Or.inl ⟨by rfl, ?_⟩) ?_ ?_
                rotate_left
                · intro w'
                  go_simp
                  with_reducible rfl
                rotate_left
                · simp only [Act.put, List.setIfInBounds_toArray, List.set_cons_zero, List.set_cons_succ, i64_w, i32_w]
                  rfl
                refine take_ (i := 5) (N := (some 60)) (v := ?_) (a' := ?_) #[true, true, true, true, true, true, false, true, true, true, true, true, true, false, false, false, false] rfl rfl (by kernel_rfl) (fun _ _ _ h => h) (Or.inl ⟨by rfl, ?_⟩) hHeld ?_ ?_
                rotate_left
                · rintro w' ⟨s0, s1⟩
                  go_simp
                  with_reducible rfl
                rotate_left
                · simp only [Act.put, List.setIfInBounds_toArray, List.set_cons_zero, List.set_cons_succ, i64_w, i32_w]
                  rfl
                refine pure_ (i := 6) (N := (some 61)) (v := ?_) (a' := ?_) #[true, true, true, true, true, true, true, true, true, true, true, true, true, false, false, false, false] rfl rfl (by kernel_rfl) (fun _ _ _ h => h) (Or.inl ⟨by rfl, ?_⟩) ?_ ?_
                rotate_left
                · intro w'
                  go_simp
                  with_reducible rfl
                rotate_left
                · simp only [Act.put, List.setIfInBounds_toArray, List.set_cons_zero, List.set_cons_succ, i64_w, i32_w]
                  rfl
                refine one_ (i := 13) (N := none) #[true, true, true, true, true, true, true, true, true, true, true, true, true, true, false, false, false] rfl rfl (by kernel_rfl) (by decide) (fun K hK => ?_)
                rw [if_pos (by rfl)]
                unfold Oper.wp
                go_simp
                refine hK.out _ _ ⟨by go_simp, by go_simp⟩ (fun hHeld => ?_)
                clear hK K
                try (refine norm_ (a' := ?_) ?_ ?_; rotate_left; (first | (show Act.put _ _ _ = _; simp only [Act.put, List.setIfInBounds_toArray, List.set_cons_zero, List.set_cons_succ, i64_w, i32_w]; rfl) | rfl))
                refine pure_ (i := 14) (N := (some 68)) (v := ?_) (a' := ?_) #[true, true, true, true, true, true, true, true, true, true, true, true, true, true, true, false, false] rfl rfl (by kernel_rfl) (fun _ _ _ h => h) (Or.inl ⟨by rfl, ?_⟩) ?_ ?_
                rotate_left
                · intro w'
                  go_simp
                  with_reducible rfl
                rotate_left
                · simp only [Act.put, List.setIfInBounds_toArray, List.set_cons_zero, List.set_cons_succ, i64_w, i32_w]
                  rfl
                refine last_ (i := 15) (N := none) #[true, true, true, true, true, true, true, true, true, true, true, true, true, true, true, true, false] rfl rfl (by kernel_rfl) (by decide) (fun K hK => ?_)
                rw [if_pos (by rfl)]
                unfold Oper.wp
                go_simp
                refine hK.out _ _ ?_
                clear hK K
                try (refine norm_ (a' := ?_) ?_ ?_; rotate_left; (first | (show Act.put _ _ _ = _; simp only [Act.put, List.setIfInBounds_toArray, List.set_cons_zero, List.set_cons_succ, i64_w, i32_w]; rfl) | rfl))
                refine pure_ (i := 16) (N := (some 9)) (v := ?_) (a' := ?_) #[true, true, true, true, true, true, true, true, true, true, true, true, true, true, true, true, true] rfl rfl (by kernel_rfl) (fun _ _ _ h => h) (Or.inl ⟨by rfl, ?_⟩) ?_ ?_
                rotate_left
                · intro w'
                  go_simp
                  with_reducible rfl
                rotate_left
                · simp only [Act.put, List.setIfInBounds_toArray, List.set_cons_zero, List.set_cons_succ, i64_w, i32_w]
                  rfl
                refine done_ (by kernel_rfl) ?_
                go_wp2
                go_roundw
                case rel => exact ⟨k + 1, t', _, _, hlt, by go_num, by first | rfl | simp, HFn, ⟨blk_set (blk_set (blk_drew HB1.out) 1 (.int .u8 t')) 2 _⟩, ⟨(below_drew HBW.out).setCell (p := ⟨wk.heap.size, 1, none⟩) (Nat.le_refl _) _ |>.setCell (p := ⟨wk.heap.size, 2, none⟩) (Nat.le_refl _) _⟩⟩
                case measure => simp [intOf]; omega
              · skip
                refine start_ (n := 17) (S := fun w' => w'.cell? ⟨wk.heap.size, 2, none⟩ = some (.bool true) ∧ w'.cell? ⟨wy.heap.size, 2, none⟩ = some (.bool x.f1)) (ds := [15]) #[false, false, false, false, false, false, false, false, false, false, false, false, false, false, false, false, false] (by kernel_rfl) rfl rfl ⟨p2, q2⟩ (fun hHeld => ?_)
                refine pure_ (i := 0) (N := (some 55)) (v := ?_) (a' := ?_) #[true, false, false, false, false, false, false, false, false, false, false, false, false, false, false, false, false] rfl rfl (by kernel_rfl) (fun _ _ _ h => h) (Or.inl ⟨by rfl, ?_⟩) ?_ ?_
                rotate_left
                · intro w'
                  go_simp
                  with_reducible rfl
                rotate_left
                · simp only [Act.put, List.setIfInBounds_toArray, List.set_cons_zero, List.set_cons_succ, i64_w, i32_w]
                  rfl
                refine pure_ (i := 1) (N := (some 56)) (v := ?_) (a' := ?_) #[true, true, false, false, false, false, false, false, false, false, false, false, false, false, false, false, false] rfl rfl (by kernel_rfl) (fun _ _ _ h => h) (Or.inl ⟨by rfl, ?_⟩) ?_ ?_
                rotate_left
                · intro w'
                  go_simp
                  with_reducible rfl
                rotate_left
                · simp only [Act.put, List.setIfInBounds_toArray, List.set_cons_zero, List.set_cons_succ, i64_w, i32_w]
                  rfl
                refine pure_ (i := 7) (N := (some 62)) (v := ?_) (a' := ?_) #[true, true, false, false, false, false, false, true, false, false, false, false, false, false, false, false, false] rfl rfl (by kernel_rfl) (fun _ _ _ h => h) (Or.inl ⟨by rfl, ?_⟩) ?_ ?_
                rotate_left
                · intro w'
                  go_simp
                  with_reducible rfl
                rotate_left
                · simp only [Act.put, List.setIfInBounds_toArray, List.set_cons_zero, List.set_cons_succ, i64_w, i32_w]
                  rfl
                refine take_ (i := 2) (N := (some 57)) (v := ?_) (a' := ?_) #[true, true, true, false, false, false, false, true, false, false, false, false, false, false, false, false, false] rfl rfl (by kernel_rfl) (fun _ _ _ h => h) (Or.inl ⟨by rfl, ?_⟩) hHeld ?_ ?_
                rotate_left
                · rintro w' ⟨s0, s1⟩
                  go_simp
                  with_reducible rfl
                rotate_left
                · simp only [Act.put, List.setIfInBounds_toArray, List.set_cons_zero, List.set_cons_succ, i64_w, i32_w]
                  rfl
                refine pure_ (i := 3) (N := (some 58)) (v := ?_) (a' := ?_) #[true, true, true, true, false, false, false, true, false, false, false, false, false, false, false, false, false] rfl rfl (by kernel_rfl) (fun _ _ _ h => h) (Or.inl ⟨by rfl, ?_⟩) ?_ ?_
                rotate_left
                · intro w'
                  go_simp
                  with_reducible rfl
                rotate_left
                · simp only [Act.put, List.setIfInBounds_toArray, List.set_cons_zero, List.set_cons_succ, i64_w, i32_w]
                  rfl
                refine pure_ (i := 4) (N := (some 59)) (v := undef) (a' := ?_) #[true, true, true, true, true, false, false, true, false, false, false, false, false, false, false, false, false] rfl rfl (by kernel_rfl) (fun _ _ _ h => h) (Or.inr ⟨by rfl, rfl⟩) ?_ ?_
                rotate_left
                · simp only [Act.put, List.setIfInBounds_toArray, List.set_cons_zero, List.set_cons_succ, i64_w, i32_w]
                  rfl
                refine pure_ (i := 8) (N := (some 63)) (v := ?_) (a' := ?_) #[true, true, true, true, true, false, false, true, true, false, false, false, false, false, false, false, false] rfl rfl (by kernel_rfl) (fun _ _ _ h => h) (Or.inl ⟨by rfl, ?_⟩) ?_ ?_
                rotate_left
                · intro w'
                  go_simp
                  with_reducible rfl
                rotate_left
                · simp only [Act.put, List.setIfInBounds_toArray, List.set_cons_zero, List.set_cons_succ, i64_w, i32_w]
                  rfl
                refine pure_ (i := 9) (N := (some 64)) (v := undef) (a' := ?_) #[true, true, true, true, true, false, false, true, true, true, false, false, false, false, false, false, false] rfl rfl (by kernel_rfl) (fun _ _ _ h => h) (Or.inr ⟨by rfl, rfl⟩) ?_ ?_
                rotate_left
                · simp only [Act.put, List.setIfInBounds_toArray, List.set_cons_zero, List.set_cons_succ, i64_w, i32_w]
                  rfl
                refine pure_ (i := 10) (N := (some 65)) (v := ?_) (a' := ?_) #[true, true, true, true, true, false, false, true, true, true, true, false, false, false, false, false, false] rfl rfl (by kernel_rfl) (fun _ _ _ h => h) (Or.inl ⟨by rfl, ?_⟩) ?_ ?_
                rotate_left
                · intro w'
                  go_simp
                  with_reducible rfl
                rotate_left
                · simp only [Act.put, List.setIfInBounds_toArray, List.set_cons_zero, List.set_cons_succ, i64_w, i32_w]
                  rfl
                refine pure_ (i := 11) (N := (some 66)) (v := ?_) (a' := ?_) #[true, true, true, true, true, false, false, true, true, true, true, true, false, false, false, false, false] rfl rfl (by kernel_rfl) (fun _ _ _ h => h) (Or.inl ⟨by rfl, ?_⟩) ?_ ?_
                rotate_left
                · intro w'
                  go_simp
                  with_reducible rfl
                rotate_left
                · simp only [Act.put, List.setIfInBounds_toArray, List.set_cons_zero, List.set_cons_succ, i64_w, i32_w]
                  rfl
                refine pure_ (i := 12) (N := (some 67)) (v := ?_) (a' := ?_) #[true, true, true, true, true, false, false, true, true, true, true, true, true, false, false, false, false] rfl rfl (by kernel_rfl) (fun _ _ _ h => h) (Or.inl ⟨by rfl, ?_⟩) ?_ ?_
                rotate_left
                · intro w'
                  go_simp
                  with_reducible rfl
                rotate_left
                · simp only [Act.put, List.setIfInBounds_toArray, List.set_cons_zero, List.set_cons_succ, i64_w, i32_w]
                  rfl
                refine pure_ (i := 5) (N := (some 60)) (v := undef) (a' := ?_) #[true, true, true, true, true, true, false, true, true, true, true, true, true, false, false, false, false] rfl rfl (by kernel_rfl) (fun _ _ _ h => h) (Or.inr ⟨by rfl, rfl⟩) ?_ ?_
                rotate_left
                · simp only [Act.put, List.setIfInBounds_toArray, List.set_cons_zero, List.set_cons_succ, i64_w, i32_w]
                  rfl
                refine pure_ (i := 6) (N := (some 61)) (v := ?_) (a' := ?_) #[true, true, true, true, true, true, true, true, true, true, true, true, true, false, false, false, false] rfl rfl (by kernel_rfl) (fun _ _ _ h => h) (Or.inl ⟨by rfl, ?_⟩) ?_ ?_
                rotate_left
                · intro w'
                  go_simp
                  with_reducible rfl
                rotate_left
                · simp only [Act.put, List.setIfInBounds_toArray, List.set_cons_zero, List.set_cons_succ, i64_w, i32_w]
                  rfl
                refine one_ (i := 13) (N := none) #[true, true, true, true, true, true, true, true, true, true, true, true, true, true, false, false, false] rfl rfl (by kernel_rfl) (by decide) (fun K hK => ?_)
                rw [if_pos (by rfl)]
                unfold Oper.wp
                go_simp
                refine hK.out _ _ ⟨by go_simp, by go_simp⟩ (fun hHeld => ?_)
                clear hK K
                try (refine norm_ (a' := ?_) ?_ ?_; rotate_left; (first | (show Act.put _ _ _ = _; simp only [Act.put, List.setIfInBounds_toArray, List.set_cons_zero, List.set_cons_succ, i64_w, i32_w]; rfl) | rfl))
                refine pure_ (i := 14) (N := (some 68)) (v := ?_) (a' := ?_) #[true, true, true, true, true, true, true, true, true, true, true, true, true, true, true, false, false] rfl rfl (by kernel_rfl) (fun _ _ _ h => h) (Or.inl ⟨by rfl, ?_⟩) ?_ ?_
                rotate_left
                · intro w'
                  go_simp
                  with_reducible rfl
                rotate_left
                · simp only [Act.put, List.setIfInBounds_toArray, List.set_cons_zero, List.set_cons_succ, i64_w, i32_w]
                  rfl
                refine last_ (i := 15) (N := none) #[true, true, true, true, true, true, true, true, true, true, true, true, true, true, true, true, false] rfl rfl (by kernel_rfl) (by decide) (fun K hK => ?_)
                rw [if_pos (by rfl)]
                unfold Oper.wp
                go_simp
                refine hK.out _ _ ?_
                clear hK K
                try (refine norm_ (a' := ?_) ?_ ?_; rotate_left; (first | (show Act.put _ _ _ = _; simp only [Act.put, List.setIfInBounds_toArray, List.set_cons_zero, List.set_cons_succ, i64_w, i32_w]; rfl) | rfl))
                refine pure_ (i := 16) (N := (some 9)) (v := ?_) (a' := ?_) #[true, true, true, true, true, true, true, true, true, true, true, true, true, true, true, true, true] rfl rfl (by kernel_rfl) (fun _ _ _ h => h) (Or.inl ⟨by rfl, ?_⟩) ?_ ?_
                rotate_left
                · intro w'
                  go_simp
                  with_reducible rfl
                rotate_left
                · simp only [Act.put, List.setIfInBounds_toArray, List.set_cons_zero, List.set_cons_succ, i64_w, i32_w]
                  rfl
                refine done_ (by kernel_rfl) ?_
                go_wp2
                go_roundw
                case rel => exact ⟨k + 1, t', _, _, hlt, by go_num, by first | rfl | simp, HFn, ⟨blk_set (blk_set (blk_drew HB1.out) 1 (.int .u8 t')) 2 _⟩, ⟨(below_drew HBW.out).setCell (p := ⟨wk.heap.size, 1, none⟩) (Nat.le_refl _) _ |>.setCell (p := ⟨wk.heap.size, 2, none⟩) (Nat.le_refl _) _⟩⟩
                case measure => simp [intOf]; omega
              · skip
                refine start_ (n := 17) (S := fun w' => w'.cell? ⟨wk.heap.size, 2, none⟩ = some (.bool true) ∧ w'.cell? ⟨wy.heap.size, 2, none⟩ = some (.bool x.f1)) (ds := [15]) #[false, false, false, false, false, false, false, false, false, false, false, false, false, false, false, false, false] (by kernel_rfl) rfl rfl ⟨p2, q2⟩ (fun hHeld => ?_)
                refine pure_ (i := 0) (N := (some 55)) (v := ?_) (a' := ?_) #[true, false, false, false, false, false, false, false, false, false, false, false, false, false, false, false, false] rfl rfl (by kernel_rfl) (fun _ _ _ h => h) (Or.inl ⟨by rfl, ?_⟩) ?_ ?_
                rotate_left
                · intro w'
                  go_simp
                  with_reducible rfl
                rotate_left
                · simp only [Act.put, List.setIfInBounds_toArray, List.set_cons_zero, List.set_cons_succ, i64_w, i32_w]
                  rfl
                refine pure_ (i := 1) (N := (some 56)) (v := ?_) (a' := ?_) #[true, true, false, false, false, false, false, false, false, false, false, false, false, false, false, false, false] rfl rfl (by kernel_rfl) (fun _ _ _ h => h) (Or.inl ⟨by rfl, ?_⟩) ?_ ?_
                rotate_left
                · intro w'
                  go_simp
                  with_reducible rfl
                rotate_left
                · simp only [Act.put, List.setIfInBounds_toArray, List.set_cons_zero, List.set_cons_succ, i64_w, i32_w]
                  rfl
                refine pure_ (i := 7) (N := (some 62)) (v := ?_) (a' := ?_) #[true, true, false, false, false, false, false, true, false, false, false, false, false, false, false, false, false] rfl rfl (by kernel_rfl) (fun _ _ _ h => h) (Or.inl ⟨by rfl, ?_⟩) ?_ ?_
                rotate_left
                · intro w'
                  go_simp
                  with_reducible rfl
                rotate_left
                · simp only [Act.put, List.setIfInBounds_toArray, List.set_cons_zero, List.set_cons_succ, i64_w, i32_w]
                  rfl
                refine take_ (i := 2) (N := (some 57)) (v := ?_) (a' := ?_) #[true, true, true, false, false, false, false, true, false, false, false, false, false, false, false, false, false] rfl rfl (by kernel_rfl) (fun _ _ _ h => h) (Or.inl ⟨by rfl, ?_⟩) hHeld ?_ ?_
                rotate_left
                · rintro w' ⟨s0, s1⟩
                  go_simp
                  with_reducible rfl
                rotate_left
                · simp only [Act.put, List.setIfInBounds_toArray, List.set_cons_zero, List.set_cons_succ, i64_w, i32_w]
                  rfl
                refine pure_ (i := 3) (N := (some 58)) (v := ?_) (a' := ?_) #[true, true, true, true, false, false, false, true, false, false, false, false, false, false, false, false, false] rfl rfl (by kernel_rfl) (fun _ _ _ h => h) (Or.inl ⟨by rfl, ?_⟩) ?_ ?_
                rotate_left
                · intro w'
                  go_simp
                  with_reducible rfl
                rotate_left
                · simp only [Act.put, List.setIfInBounds_toArray, List.set_cons_zero, List.set_cons_succ, i64_w, i32_w]
                  rfl
                refine pure_ (i := 4) (N := (some 59)) (v := undef) (a' := ?_) #[true, true, true, true, true, false, false, true, false, false, false, false, false, false, false, false, false] rfl rfl (by kernel_rfl) (fun _ _ _ h => h) (Or.inr ⟨by rfl, rfl⟩) ?_ ?_
                rotate_left
                · simp only [Act.put, List.setIfInBounds_toArray, List.set_cons_zero, List.set_cons_succ, i64_w, i32_w]
                  rfl
                refine pure_ (i := 8) (N := (some 63)) (v := ?_) (a' := ?_) #[true, true, true, true, true, false, false, true, true, false, false, false, false, false, false, false, false] rfl rfl (by kernel_rfl) (fun _ _ _ h => h) (Or.inl ⟨by rfl, ?_⟩) ?_ ?_
                rotate_left
                · intro w'
                  go_simp
                  with_reducible rfl
                rotate_left
                · simp only [Act.put, List.setIfInBounds_toArray, List.set_cons_zero, List.set_cons_succ, i64_w, i32_w]
                  rfl
                refine pure_ (i := 9) (N := (some 64)) (v := ?_) (a' := ?_) #[true, true, true, true, true, false, false, true, true, true, false, false, false, false, false, false, false] rfl rfl (by kernel_rfl) (fun _ _ _ h => h) (Or.inl ⟨by rfl, ?_⟩) ?_ ?_
                rotate_left
                · intro w'
                  go_simp
                  with_reducible rfl
                rotate_left
                · simp only [Act.put, List.setIfInBounds_toArray, List.set_cons_zero, List.set_cons_succ, i64_w, i32_w]
                  rfl
                refine pure_ (i := 10) (N := (some 65)) (v := ?_) (a' := ?_) #[true, true, true, true, true, false, false, true, true, true, true, false, false, false, false, false, false] rfl rfl (by kernel_rfl) (fun _ _ _ h => h) (Or.inl ⟨by rfl, ?_⟩) ?_ ?_
                rotate_left
                · intro w'
                  go_simp
                  with_reducible rfl
                rotate_left
                · simp only [Act.put, List.setIfInBounds_toArray, List.set_cons_zero, List.set_cons_succ, i64_w, i32_w]
                  rfl
                refine pure_ (i := 11) (N := (some 66)) (v := ?_) (a' := ?_) #[true, true, true, true, true, false, false, true, true, true, true, true, false, false, false, false, false] rfl rfl (by kernel_rfl) (fun _ _ _ h => h) (Or.inl ⟨by rfl, ?_⟩) ?_ ?_
                rotate_left
                · intro w'
                  go_simp
                  with_reducible rfl
                rotate_left
                · simp only [Act.put, List.setIfInBounds_toArray, List.set_cons_zero, List.set_cons_succ, i64_w, i32_w]
                  rfl
                refine pure_ (i := 12) (N := (some 67)) (v := ?_) (a' := ?_) #[true, true, true, true, true, false, false, true, true, true, true, true, true, false, false, false, false] rfl rfl (by kernel_rfl) (fun _ _ _ h => h) (Or.inl ⟨by rfl, ?_⟩) ?_ ?_
                rotate_left
                · intro w'
                  go_simp
                  with_reducible rfl
                rotate_left
                · simp only [Act.put, List.setIfInBounds_toArray, List.set_cons_zero, List.set_cons_succ, i64_w, i32_w]
                  rfl
                refine pure_ (i := 5) (N := (some 60)) (v := undef) (a' := ?_) #[true, true, true, true, true, true, false, true, true, true, true, true, true, false, false, false, false] rfl rfl (by kernel_rfl) (fun _ _ _ h => h) (Or.inr ⟨by rfl, rfl⟩) ?_ ?_
                rotate_left
                · simp only [Act.put, List.setIfInBounds_toArray, List.set_cons_zero, List.set_cons_succ, i64_w, i32_w]
                  rfl
                refine pure_ (i := 6) (N := (some 61)) (v := ?_) (a' := ?_) #[true, true, true, true, true, true, true, true, true, true, true, true, true, false, false, false, false] rfl rfl (by kernel_rfl) (fun _ _ _ h => h) (Or.inl ⟨by rfl, ?_⟩) ?_ ?_
                rotate_left
                · intro w'
                  go_simp
                  with_reducible rfl
                rotate_left
                · simp only [Act.put, List.setIfInBounds_toArray, List.set_cons_zero, List.set_cons_succ, i64_w, i32_w]
                  rfl
                refine one_ (i := 13) (N := none) #[true, true, true, true, true, true, true, true, true, true, true, true, true, true, false, false, false] rfl rfl (by kernel_rfl) (by decide) (fun K hK => ?_)
                rw [if_pos (by rfl)]
                unfold Oper.wp
                go_simp
                refine hK.out _ _ ⟨by go_simp, by go_simp⟩ (fun hHeld => ?_)
                clear hK K
                try (refine norm_ (a' := ?_) ?_ ?_; rotate_left; (first | (show Act.put _ _ _ = _; simp only [Act.put, List.setIfInBounds_toArray, List.set_cons_zero, List.set_cons_succ, i64_w, i32_w]; rfl) | rfl))
                refine pure_ (i := 14) (N := (some 68)) (v := ?_) (a' := ?_) #[true, true, true, true, true, true, true, true, true, true, true, true, true, true, true, false, false] rfl rfl (by kernel_rfl) (fun _ _ _ h => h) (Or.inl ⟨by rfl, ?_⟩) ?_ ?_
                rotate_left
                · intro w'
                  go_simp
                  with_reducible rfl
                rotate_left
                · simp only [Act.put, List.setIfInBounds_toArray, List.set_cons_zero, List.set_cons_succ, i64_w, i32_w]
                  rfl
                refine last_ (i := 15) (N := none) #[true, true, true, true, true, true, true, true, true, true, true, true, true, true, true, true, false] rfl rfl (by kernel_rfl) (by decide) (fun K hK => ?_)
                rw [if_pos (by rfl)]
                unfold Oper.wp
                go_simp
                refine hK.out _ _ ?_
                clear hK K
                try (refine norm_ (a' := ?_) ?_ ?_; rotate_left; (first | (show Act.put _ _ _ = _; simp only [Act.put, List.setIfInBounds_toArray, List.set_cons_zero, List.set_cons_succ, i64_w, i32_w]; rfl) | rfl))
                refine pure_ (i := 16) (N := (some 9)) (v := ?_) (a' := ?_) #[true, true, true, true, true, true, true, true, true, true, true, true, true, true, true, true, true] rfl rfl (by kernel_rfl) (fun _ _ _ h => h) (Or.inl ⟨by rfl, ?_⟩) ?_ ?_
                rotate_left
                · intro w'
                  go_simp
                  with_reducible rfl
                rotate_left
                · simp only [Act.put, List.setIfInBounds_toArray, List.set_cons_zero, List.set_cons_succ, i64_w, i32_w]
                  rfl
                refine done_ (by kernel_rfl) ?_
                go_wp2
                go_roundw
                case rel => exact ⟨k + 1, t', _, _, hlt, by go_num, by first | rfl | simp, HFn, ⟨blk_set (blk_set (blk_drew HB1.out) 1 (.int .u8 t')) 2 _⟩, ⟨(below_drew HBW.out).setCell (p := ⟨wk.heap.size, 1, none⟩) (Nat.le_refl _) _ |>.setCell (p := ⟨wk.heap.size, 2, none⟩) (Nat.le_refl _) _⟩⟩
                case measure => simp [intOf]; omega
            · have hkn : k = n := by omega
              subst hkn
              have HBY := Aside0.mk (below_then HBw.out HBw.out.size HBy.out)
              have HBoxY := Aside0.mk (blk_below (blk_below HBox.out HBc.out) HBy.out)
              have HOY := Aside0.mk (Kd.R_below (Kd.R_below HO.out HBc.out) HBy.out)
              have HBadY := Aside0.mk (Kd.R_below (Kd.R_below HBad.out HBc.out) HBy.out)
              rw [HSL.out] at HBoxY
              have hboxy : wy.cell? ⟨B, 0, none⟩ = some (.slice (some ad) sl c) := blk_cell HBoxY.out 0
              clear HBox HO HBad HBe HBd
              go_wp2
              go_loopw [5, 74] (fun v5 i wz => ∃ (j : Nat) (b' : List S24), j ≤ k ∧ i = .int .i64 j ∧ Aside0 (b' = if ok = true then bad else bad ++ ((x0 :: s2).take j).map (·.f0)) ∧ Aside0 (Kd.R k24 24 wz W3.heap.size (fun _ => True) v5 b') ∧ Aside0 (Kd.R k26 26 wz W3.heap.size (fun _ => True) u4 out) ∧ Aside0 (wz.heap[B]? = some (.cells #[.slice (some ad) sl c] 22 (0, 0))) ∧ Aside0 (wz.heap[wk.heap.size]? = some (.cells #[.int .i64 u, .int .u8 t, .bool m] 26 (0, 0))) ∧ Aside0 (Below W3.heap.size W3 wz)) (fun _ i _ => k - (intOf i).toNat)
              case atStart => exact ⟨0, bad, Nat.zero_le _, rfl, ⟨by simp⟩, HBadY, HOY, HBoxY, HOy, HBY⟩
              case round =>
                obtain ⟨wz, rfl⟩ : ∃ wz : World, wz = wr := ⟨_, rfl⟩
                obtain ⟨j, b', hj, rfl, HB', HBz, HOz, HBoxz, HOnez, HWz⟩ := hrel
                clear hboxy HBoxY HOY HBadY HOy HBY
                by_cases hjk : j < k
                · obtain ⟨x, hx⟩ : ∃ x, x = rd_T26 (x0 :: s2) j := ⟨_, rfl⟩
                  have hsl1 := HSL.out
                  obtain ⟨ad', e1, hx0, hx1, hx2⟩ := at_T26 HC.out j (by omega) (by omega)
                  cases e1
                  replace hx0 := (HWz.out.cell (World.block_lt_of_cell? W3 _ hx0)).trans hx0
                  replace hx1 := (HWz.out.cell (World.block_lt_of_cell? W3 _ hx1)).trans hx1
                  replace hx2 := (HWz.out.cell (World.block_lt_of_cell? W3 _ hx2)).trans hx2
                  rw [← hx] at hx0 hx1 hx2
                  simp only [Int.toNat_natCast] at hx0 hx1 hx2
                  have htk : ((x0 :: s2).take (j + 1)).map (·.f0) = ((x0 :: s2).take j).map (·.f0) ++ [x.f0] := by
                    rw [take_snoc _ j z26 (by omega), List.map_append, hx]
                    rfl
                  have hbl : b'.length + 1 ≤ 1000001 := by
                    rw [HB'.out]
                    split
                    · omega
                    · simp; omega
                  have HTK := Aside0.mk htk
                  have HBL := Aside0.mk hbl
                  clear hx hsl1 htk hbl
                  cases ok with
                  | true =>
                    go_wp2
                    go_roundw
                    case rel => exact ⟨j + 1, b', hjk, by go_num, ⟨by rw [HB'.out]; rfl⟩, ⟨Kd.R_alloc HBz.out _⟩, ⟨Kd.R_alloc HOz.out _⟩, ⟨blk_alloc HBoxz.out _⟩, ⟨blk_alloc HOnez.out _⟩, ⟨below_alloc HWz.out _⟩⟩
                    case measure => simp [intOf]; omega
                  | false =>
                    go_wp2_with (at_builtin; refine Kd.R_append k24 (w0 := W3) W3.heap.size rfl (.tmp 80) (.tmp 83) 28 24 (.agg #[(.int .i64 0), (.int .u8 0)]) 16 rfl Try.underlying28 info24 rfl (by decide) (by omega) u5 b' x.f0 [.int .i64 x.f0.f0, .int .u8 x.f0.f1] (fun _ => True) (fun _ => False) rfl (by rw [World.size_alloc]; rfl) (k24_mkM _ _ _ x.f0) (fun _ hk => hk.elim) (fun _ _ => trivial) (Kd.R_alloc HBz.out _) (below_alloc HWz.out _) (below_size (below_alloc HWz.out _)) (by have := HBL.out; omega) ?_; intro v1 w1 ho hb hg hat; obtain ⟨inner, hown⟩ := Kd.R_own HBz.out; have HOz1 := Aside0.mk (R_apart (Kd.R_alloc HOz.out _) (hown.alloc _) (by decide) hg); have HBoxz1 := Aside0.mk (blk_apart (blk_alloc HBoxz.out _) (hown.alloc _) (by decide) hg); have HOnez1 := Aside0.mk (blk_apart (blk_alloc HOnez.out _) (hown.alloc _) (by decide) hg); have HBz1 := Aside0.mk ho; have HWz1 := Aside0.mk hb; clear ho hb hg hat hown)
                    go_roundw
                    case rel => exact ⟨j + 1, b' ++ [x.f0], hjk, by go_num, ⟨by rw [HB'.out, HTK.out]; simp⟩, HBz1, HOz1, HBoxz1, HOnez1, HWz1⟩
                    case measure => simp [intOf]; omega
                · have hjn : j = k := by omega
                  subst hjn
                  have hw := HW.out
                  have hx0 := HX.out
                  rw [wholeGo_cons x0 s2 out bad j t m ok (by rw [HN.out, hx0.1]) (by rw [← hx0.2.1, ← hx0.2.2]; exact HFo.out), ← HB'.out, ← hx0.1] at hw
                  have hfr := cut_from (P := Try.prog) 22 26 .i64 Try.underlying22 HI.out 3 HZ.out (some ad) sl c (j : Int) (by omega) (by omega)
                  rw [Int.toNat_natCast] at hfr
                  have hcd := Kd.C_drop (k := k26) (m := j) HC.out (by rw [HSL.out]; omega) (by rw [HSL.out]; omega)
                  change Kd.C k26 W3 (if c = j then some ad else (some ad).map (·.add (j * 3))) ((x0 :: s2).drop j).length ((x0 :: s2).drop j) at hcd
                  have hdl : ((x0 :: s2).drop j).length = sl - j := by rw [List.length_drop, HSL.out]
                  generalize (if c = j then some ad else (some ad).map (·.add (j * 3))) = A2 at hfr hcd
                  have hbl : b'.length + (sl - j) ≤ 1000000 := by
                    rw [HB'.out]
                    split
                    · omega
                    · simp [HSL.out]; have := HSL.out; simp at this; omega
                  have hboxz : wz.cell? ⟨B, 0, none⟩ = some (.slice (some ad) sl c) := blk_cell HBoxz.out 0
                  have hboxfz : wz.frozen? ⟨B, 0, none⟩ = false := blk_frozen HBoxz.out 0
                  have hn0z : wz.cell? ⟨wk.heap.size, 0, none⟩ = some (.int .i64 u) := blk_cell HOnez.out 0
                  have hn1z : wz.cell? ⟨wk.heap.size, 1, none⟩ = some (.int .u8 t) := blk_cell HOnez.out 1
                  have hn2z : wz.cell? ⟨wk.heap.size, 2, none⟩ = some (.bool m) := blk_cell HOnez.out 2
                  have HWW := Aside0.mk hw
                  have HCD := Aside0.mk hcd
                  have HDL := Aside0.mk hdl
                  have HBL := Aside0.mk hbl
                  have HMeas := Aside0.mk (show ((x0 :: s2).drop j).length < (x0 :: s2).length by rw [HDL.out, HSL.out]; omega)
                  clear hw hx0 hcd hdl hbl HW HC HSL HN HFo HX HB'
                  generalize (x0 :: s2).drop j = s3 at HWW HCD HDL HMeas
                  cases ok with
                  | true =>
                    go_wp2_with (at_builtin; refine Kd.R_append k26 (w0 := W3) W3.heap.size rfl (.tmp 87) (.tmp 89) 22 26 (.agg #[(.int .i64 0), (.int .u8 0), (.bool false)]) 24 rfl Try.underlying22 info26 rfl (by decide) (by omega) u4 out (⟨⟨u, t⟩, m⟩ : S26) [.int .i64 u, .int .u8 t, .bool m] (fun _ => True) (fun _ => False) rfl rfl (k26_mkM _ _ _ (⟨⟨u, t⟩, m⟩ : S26)) (fun _ hk => hk.elim) (fun _ _ => trivial) HOz.out HWz.out (below_size HWz.out) (by omega) ?_; intro v1 w1 ho hb hg hat; obtain ⟨inner, hown⟩ := Kd.R_own HOz.out; have HBz1 := Aside0.mk (R_apart HBz.out hown (by decide) hg); have HBoxz1 := Aside0.mk (blk_apart HBoxz.out hown (by decide) hg); have HOz1 := Aside0.mk ho; have HWz1 := Aside0.mk hb; have hbox1 : w1.cell? ⟨B, 0, none⟩ = some (.slice (some ad) sl c) := blk_cell HBoxz1.out 0; have hboxf1 : w1.frozen? ⟨B, 0, none⟩ = false := blk_frozen HBoxz1.out 0; clear ho hb hg hat hown)
                    go_roundg s3.length
                    case measure => exact HMeas.out
                    case rel =>
                      refine ⟨s3, _, b', A2, c - j, w1.heap.size, rfl, rfl, by rw [HDL.out]; omega, by rw [HDL.out]; simp; omega, by rw [HDL.out]; exact HBL.out, HWW, HCD, ⟨?_⟩, ⟨below_size HWz1.out⟩, ⟨Kd.R_alloc (Kd.R_set HOz1.out HBoxz1.out (by decide) 0 _) _⟩, ⟨Kd.R_alloc (Kd.R_set HBz1.out HBoxz1.out (by decide) 0 _) _⟩, ⟨below_alloc (HWz1.out.setCell (p := ⟨B, 0, none⟩) HBs.out _) _⟩⟩
                      rw [HDL.out]
                      have := blk_new (w1.setCell ⟨B, 0, none⟩ (.slice A2 (sl - j) (c - j))) (.cells #[.slice A2 (sl - j) (c - j)] 22 (0, 0))
                      simpa using this
                  | false =>
                    go_wp2
                    go_roundg s3.length
                    case measure => exact HMeas.out
                    case rel =>
                      refine ⟨s3, _, b', A2, c - j, wz.heap.size, rfl, rfl, by rw [HDL.out]; omega, by rw [HDL.out]; simp; omega, by rw [HDL.out]; exact HBL.out, HWW, HCD, ⟨?_⟩, ⟨below_size HWz.out⟩, ⟨Kd.R_alloc (Kd.R_set HOz.out HBoxz.out (by decide) 0 _) _⟩, ⟨Kd.R_alloc (Kd.R_set HBz.out HBoxz.out (by decide) 0 _) _⟩, ⟨below_alloc (HWz.out.setCell (p := ⟨B, 0, none⟩) HBs.out _) _⟩⟩
                      rw [HDL.out]
                      have := blk_new (wz.setCell ⟨B, 0, none⟩ (.slice A2 (sl - j) (c - j))) (.cells #[.slice A2 (sl - j) (c - j)] 22 (0, 0))
                      simpa using this
end Go.Proofs.Ythbpjlfpfpcpbaa.P
