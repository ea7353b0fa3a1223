/- cycle.Ring: the least ring of items. Condition: next's and ring's; at most 1000000 items. -/
import Derived.Test.YtccngacadolgfaaFew
import Derived.Test.YtccngacadolgfaaRing1
set_option linter.unusedVariables false
set_option linter.unusedSimpArgs false
namespace Go.Proofs.Ytccngacadolgfaa.P
open Go.RowKit Go.Proofs.YtccngacadolgfaaW.PrintWords Go.Proofs.YtccngacadolgfaaW.PrintLast Go.Proofs.YtccngacadolgfaaW.PrintMore

theorem nil_nil (w : World) : (binOp .eql 34 (.slice none 0 0) (.slice none 0 0)).run Try.prog w = .ok (.bool true) w := by kernel_rfl
theorem some_nil (a : Addr) (n c : Nat) (w : World) : (binOp .eql 34 (.slice (some a) n c) (.slice none 0 0)).run Try.prog w = .ok (.bool false) w := by kernel_rfl
def better (best r : List Int) : List Int := if r ≠ [] ∧ (best = [] ∨ r.length < best.length) then r else best
def ringsF (nx : List (List Int)) : Nat → Option (List Int)
  | 0 => some []
  | j + 1 => (ringsF nx j).bind fun best => (ringF nx j).bind fun r => some (better best r)
theorem ringsF_step {nx : List (List Int)} {j : Nat} {x : List Int} (h : ringsF nx (j + 1) = some x) : ∃ b r, ringsF nx j = some b ∧ ringF nx j = some r ∧ better b r = x := by
  unfold ringsF at h
  obtain ⟨b, hb, h⟩ := Option.bind_eq_some_iff.1 h
  obtain ⟨r, hr, h⟩ := Option.bind_eq_some_iff.1 h
  exact ⟨b, r, hb, hr, Option.some.inj h⟩
theorem ringsF_pre {nx : List (List Int)} {n : Nat} {x : List Int} (h : ringsF nx n = some x) : ∀ j, j ≤ n → ∃ b, ringsF nx j = some b := by
  intro j hj
  induction n generalizing x with
  | zero => exact ⟨x, by rw [show j = 0 by omega]; exact h⟩
  | succ n ih =>
    rcases Nat.lt_or_ge n j with h1 | h1
    · exact ⟨x, by rw [show j = n + 1 by omega]; exact h⟩
    · obtain ⟨b, _, hb, _⟩ := ringsF_step h
      exact ih hb h1
theorem ringsF_at {nx : List (List Int)} {n : Nat} {x : List Int} (h : ringsF nx n = some x) (j : Nat) (hj : j < n) {b : List Int} (hb : ringsF nx j = some b) : ∃ r, ringF nx j = some r ∧ ringsF nx (j + 1) = some (better b r) := by
  obtain ⟨y, hy⟩ := ringsF_pre h (j + 1) hj
  obtain ⟨b', r, h1, h2, h3⟩ := ringsF_step hy
  rw [h1] at hb
  cases hb
  exact ⟨r, h2, by rw [hy, h3]⟩

def RS (w : World) (A0 : Option Addr) (n0 c0 : Nat) (A1 : Option Addr) (n1 c1 : Nat) (A2 : Option Addr) (n2 c2 : Nat) (A3 : Option Addr) (n3 c3 : Nat) (A6 : Option Addr) (n6 c6 : Nat) (A7 : Option Addr) (n7 c7 : Nat) (A8 : Option Addr) (n8 c8 : Nat) (A9 : Option Addr) (n9 c9 : Nat) (A4 : Option Addr) (c4 : Nat) (l4 : List (List Int)) (A5 : Option Addr) (c5 : Nat) (l5 : List (List Int)) (A : Option Addr) (c : Nat) (l : List S44) (B : Nat) (w' : World) : Prop := w'.cell? ⟨B, 0, none⟩ = some (.slice A0 n0 c0) ∧ w'.cell? ⟨B, 1, none⟩ = some (.slice A1 n1 c1) ∧ w'.cell? ⟨B, 2, none⟩ = some (.slice A2 n2 c2) ∧ w'.cell? ⟨B, 3, none⟩ = some (.slice A3 n3 c3) ∧ w'.cell? ⟨B, 4, none⟩ = some (.slice A4 l4.length c4) ∧ w'.cell? ⟨B, 5, none⟩ = some (.slice A5 l5.length c5) ∧ w'.cell? ⟨B, 6, none⟩ = some (.slice A6 n6 c6) ∧ w'.cell? ⟨B, 7, none⟩ = some (.slice A7 n7 c7) ∧ w'.cell? ⟨B, 8, none⟩ = some (.slice A8 n8 c8) ∧ w'.cell? ⟨B, 9, none⟩ = some (.slice A9 n9 c9) ∧ GOk w' A4 c4 l4 A5 c5 l5 ∧ Kd.C k44 w' A l.length l ∧ Below w.heap.size w w'
theorem RS.below {w : World} {A0 : Option Addr} {n0 c0 : Nat} {A1 : Option Addr} {n1 c1 : Nat} {A2 : Option Addr} {n2 c2 : Nat} {A3 : Option Addr} {n3 c3 : Nat} {A6 : Option Addr} {n6 c6 : Nat} {A7 : Option Addr} {n7 c7 : Nat} {A8 : Option Addr} {n8 c8 : Nat} {A9 : Option Addr} {n9 c9 : Nat} {A4 : Option Addr} {c4 : Nat} {l4 : List (List Int)} {A5 : Option Addr} {c5 : Nat} {l5 : List (List Int)} {A : Option Addr} {c : Nat} {l : List S44} {B : Nat} {w1 w2 : World} (h : RS w A0 n0 c0 A1 n1 c1 A2 n2 c2 A3 n3 c3 A6 n6 c6 A7 n7 c7 A8 n8 c8 A9 n9 c9 A4 c4 l4 A5 c5 l5 A c l B w1) (hb : Below w1.heap.size w1 w2) : RS w A0 n0 c0 A1 n1 c1 A2 n2 c2 A3 n3 c3 A6 n6 c6 A7 n7 c7 A8 n8 c8 A9 n9 c9 A4 c4 l4 A5 c5 l5 A c l B w2 := by
  obtain ⟨s0, s1, s2, s3, s4, s5, s6, s7, s8, s9, sg, sc, sb⟩ := h
  exact ⟨pw_cell_below hb s0, pw_cell_below hb s1, pw_cell_below hb s2, pw_cell_below hb s3, pw_cell_below hb s4, pw_cell_below hb s5, pw_cell_below hb s6, pw_cell_below hb s7, pw_cell_below hb s8, pw_cell_below hb s9, sg.below hb, Kd.C_below sc hb, below_then sb sb.size hb⟩
theorem C_some {α : Type} {d : Kd α} {w : World} {A : Option Addr} {l : List α} (z : α) (h : Kd.C d w A l.length l) : 0 < l.length → ∃ ad, A = some ad := fun hp => by
  obtain ⟨ad, c, e, _⟩ := Kd.C_get h z 0 (by omega) (by omega)
  exact ⟨ad, e⟩

theorem C_take' {α : Type} {d : Kd α} {w : World} {A : Option Addr} {l : List α} (h : Kd.C d w A l.length l) (m : Nat) : Kd.C d w A (l.take m).length (l.take m) := by
  rcases Nat.le_total m l.length with h1 | h1
  · exact Kd.C_take h h1
  · rw [List.take_of_length_le h1]; exact h

set_option maxRecDepth 100000 in
set_option maxHeartbeats 2000000 in
theorem ringC_calls (gv : Array Value) (A4 : Option Addr) (c4 : Nat) (l4 : List (List Int)) (A5 : Option Addr) (c5 : Nat) (l5 : List (List Int)) (A : Option Addr) (c : Nat) (l : List S44) (w : World) (hgv : IsG gv A4 c4 l4 A5 c5 l5) (hg : GOk w A4 c4 l4 A5 c5 l5) (hr : Kd.C k44 w A l.length l) (hc : l.length ≤ c) (hlen : l.length ≤ 1000000) (r : List Int) (hf : ringsF (nxF l4 l5 (l.take 64)) (l.take 64).length = some r) :
    Calls Try.prog 10 #[.agg gv, .slice A l.length c] w fun e w' => ∃ v : Value, e = .returned v ∧ Kd.R (Kd.int .i64) 3 w' w.heap.size (fun _ => True) v r ∧ Below w.heap.size w w' := by
  obtain ⟨A0, n0, c0, A1, n1, c1, A2, n2, c2, A3, n3, c3, A6, n6, c6, A7, n7, c7, A8, n8, c8, A9, n9, c9, rfl⟩ := hgv
  have hu24 := Try.underlying24
  obtain ⟨w1, hw1⟩ : ∃ w1, w1 = w.alloc (.cells #[.slice A0 n0 c0, .slice A1 n1 c1, .slice A2 n2 c2, .slice A3 n3 c3, .slice A4 l4.length c4, .slice A5 l5.length c5, .slice A6 n6 c6, .slice A7 n7 c7, .slice A8 n8 c8, .slice A9 n9 c9] 24) := ⟨_, rfl⟩
  have hs : RS w A0 n0 c0 A1 n1 c1 A2 n2 c2 A3 n3 c3 A6 n6 c6 A7 n7 c7 A8 n8 c8 A9 n9 c9 A4 c4 l4 A5 c5 l5 A c l w.heap.size w1.drew := by
    have b0 : Below w.heap.size w w1 := by rw [hw1]; exact below_alloc (Below.refl _ _) _
    have q0 : w1.heap[w.heap.size]? = some (.cells #[.slice A0 n0 c0, .slice A1 n1 c1, .slice A2 n2 c2, .slice A3 n3 c3, .slice A4 l4.length c4, .slice A5 l5.length c5, .slice A6 n6 c6, .slice A7 n7 c7, .slice A8 n8 c8, .slice A9 n9 c9] 24 (0, 0)) := by rw [hw1]; exact blk_new _ _
    exact ⟨(blk_cell q0 0).trans rfl, (blk_cell q0 1).trans rfl, (blk_cell q0 2).trans rfl, (blk_cell q0 3).trans rfl, (blk_cell q0 4).trans rfl, (blk_cell q0 5).trans rfl, (blk_cell q0 6).trans rfl, (blk_cell q0 7).trans rfl, (blk_cell q0 8).trans rfl, (blk_cell q0 9).trans rfl, hg.below (below_drew b0), Kd.C_below hr (below_drew b0), below_drew b0⟩
  have HS := Aside0.mk hs
  have HW1 := Aside0.mk hw1
  have HF := Aside0.mk hf
  have hml : (l.take 64).length ≤ 64 := by simp; omega
  have hmm : min l.length 64 = (l.take 64).length := by simp; omega
  have hmc : (l.take 64).length ≤ c := by simp; omega
  have hA := C_some z44 hr
  clear hw1 hs hf hg hr
  go_enter Try.func10, Try.ntmps10
  go_upto_region 1 with (fail)
  rw [← HW1.out]
  have hs := HS.out
  refine start_ (n := 5) (S := fun w' => RS w A0 n0 c0 A1 n1 c1 A2 n2 c2 A3 n3 c3 A6 n6 c6 A7 n7 c7 A8 n8 c8 A9 n9 c9 A4 c4 l4 A5 c5 l5 A c l w.heap.size w') (ds := []) #[false, false, false, false, false] (by kernel_rfl) rfl rfl hs (fun hHeld => ?_)
  refine pure_ (i := 1) (N := (some 10)) (v := ?_) (a' := ?_) #[false, true, false, false, false] rfl rfl (by kernel_rfl) (fun _ _ _ h => h) (Or.inl ⟨by rfl, ?_⟩) ?_ ?_
  rotate_left
  · intro w'
    go_simp
    with_reducible rfl
  rotate_left
  · simp only [Act.put, List.setIfInBounds_toArray, List.set_cons_zero, List.set_cons_succ, i64_w, i32_w]
    rfl
  refine take_ (i := 0) (N := (some 9)) (v := ?_) (a' := ?_) #[true, true, false, false, false] rfl rfl (by kernel_rfl) (fun _ _ _ h => h) (Or.inl ⟨by rfl, ?_⟩) hHeld ?_ ?_
  rotate_left
  · rintro w' ⟨s0, s1, s2, s3, s4, s5, s6, s7, s8, s9, _, _, _⟩
    go_simp
    with_reducible rfl
  rotate_left
  · simp only [Act.put, List.setIfInBounds_toArray, List.set_cons_zero, List.set_cons_succ, i64_w, i32_w]
    rfl
  refine one_ (i := 2) (N := (some 11)) #[true, true, true, false, false] rfl rfl (by kernel_rfl) (by decide) (fun K hK => ?_)
  refine goes_ Try.func20 (by kernel_rfl) rfl #[.slice A l.length c] (by rfl) rfl rfl (by (try simp only [List.map_toArray, List.map_cons, List.map_nil]); first | done | rfl) ?_
  refine (few_calls A c l.length _ hc hA hlen).mono ?_
  rintro e w' ⟨rfl, rfl⟩
  rw [hmm]
  refine ⟨_, rfl, ?_⟩
  refine hK.out _ _ hHeld (fun hHeld => ?_)
  clear hK K
  try (refine norm_ (a' := ?_) ?_ ?_; rotate_left; (first | (show Act.put _ _ _ = _; simp only [Act.put, List.setIfInBounds_toArray, List.set_cons_zero, List.set_cons_succ, i64_w, i32_w]; rfl) | rfl))
  refine one_ (i := 3) (N := (some 12)) #[true, true, true, true, false] rfl rfl (by kernel_rfl) (by decide) (fun K hK => ?_)
  refine goes_ Try.func19 (by kernel_rfl) rfl #[.agg #[.slice A0 n0 c0, .slice A1 n1 c1, .slice A2 n2 c2, .slice A3 n3 c3, .slice A4 l4.length c4, .slice A5 l5.length c5, .slice A6 n6 c6, .slice A7 n7 c7, .slice A8 n8 c8, .slice A9 n9 c9], .slice A (l.take 64).length c] (by rfl) rfl rfl (by (try simp only [List.map_toArray, List.map_cons, List.map_nil]); first | done | rfl) ?_
  refine (next_calls _ A4 c4 l4 A5 c5 l5 A c (l.take 64) _ ⟨_, _, _, _, _, _, _, _, _, _, _, _, _, _, _, _, _, _, _, _, _, _, _, _, rfl⟩ hHeld.2.2.2.2.2.2.2.2.2.2.1 (C_take' hHeld.2.2.2.2.2.2.2.2.2.2.2.1 64) hmc (by omega)).mono ?_
  rintro e w3 ⟨v3, rfl, ho3, hb3⟩
  refine ⟨_, rfl, ?_⟩
  refine hK.out _ _ (hHeld.below hb3) (fun hHeld => ?_)
  clear hK K
  try (refine norm_ (a' := ?_) ?_ ?_; rotate_left; (first | (show Act.put _ _ _ = _; simp only [Act.put, List.setIfInBounds_toArray, List.set_cons_zero, List.set_cons_succ, i64_w, i32_w]; rfl) | rfl))
  refine pure_ (i := 4) (N := (some 5)) (v := ?_) (a' := ?_) #[true, true, true, true, true] rfl rfl (by kernel_rfl) (fun _ _ _ h => h) (Or.inl ⟨by rfl, ?_⟩) ?_ ?_
  rotate_left
  · intro w'
    go_simp
    with_reducible rfl
  rotate_left
  · simp only [Act.put, List.setIfInBounds_toArray, List.set_cons_zero, List.set_cons_succ, i64_w, i32_w]
    rfl
  refine done_ (by kernel_rfl) ?_
  have HO3 := Aside0.mk ho3
  have HB3 := Aside0.mk hHeld.2.2.2.2.2.2.2.2.2.2.2.2
  rw [nxF_eq] at HO3
  obtain ⟨nx, hnx⟩ : ∃ nx, nx = nxF l4 l5 (l.take 64) := ⟨_, rfl⟩
  have hok : OkTo nx := by rw [hnx]; exact nxF_ok l4 l5 _ (by omega)
  have hnl : nx.length = (l.take 64).length := by rw [hnx, nxF_len]
  have hF := HF.out
  rw [← hnx, ← hnl] at hF
  rw [← hnx] at HO3
  have HFF := Aside0.mk hF
  have HOk := Aside0.mk hok
  have hnl64 : nx.length ≤ 64 := by omega
  clear hs hHeld ho3 hb3 hF hok hnx HF HS HW1 hnl hmm hml hmc hA
  obtain ⟨A3', c3', rfl⟩ := Kd.S_slice HO3.out
  obtain ⟨_, hcc3, hC3⟩ := Kd.S_reads' HO3.out
  have HC3 := Aside0.mk hC3
  clear hC3
  go_wp2
  go_loopw [6, 15] (fun v6 i wr => ∃ (j : Nat) (best : List Int), j ≤ nx.length ∧ i = .int .i64 j ∧ Aside0 (ringsF nx j = some best) ∧ Aside0 (Kd.R (Kd.int .i64) 3 wr w3.heap.size (fun _ => True) v6 best) ∧ Aside0 (best = [] → v6 = .slice none 0 0) ∧ Aside0 (Below w3.heap.size w3 wr)) (fun _ i _ => nx.length - (intOf i).toNat)
  case atStart => exact ⟨0, [], Nat.zero_le _, rfl, ⟨rfl⟩, ⟨Kd.R_nil _ _ _ _ _⟩, ⟨fun _ => rfl⟩, ⟨Below.refl _ _⟩⟩
  case round =>
    obtain ⟨j, best, hj, rfl, HR, HO, HN, HB⟩ := hrel
    by_cases hlt : j < nx.length
    · obtain ⟨rj, hrj, hnext⟩ := ringsF_at HFF.out j hlt HR.out
      have hcall := ring_calls A3' c3' nx j wr (Kd.C_below HC3.out HB.out) (by omega) HOk.out (by omega) (by omega) rj hrj
      have HCall := Aside0.mk hcall
      have HNext := Aside0.mk hnext
      clear hcall hrj hnext
      go_upto_region 7 with (go_at_call 21; refine HCall.out.mono ?_; rintro e w4 ⟨v4, rfl, ho4, hb4⟩; have HO4 := Aside0.mk ho4; have HB4 := Aside0.mk hb4; clear ho4 hb4)
      obtain ⟨A4', c4', rfl⟩ := Kd.R_slice HO4.out
      by_cases h0 : rj = []
      · subst h0
        have h1 : ¬ ((([] : List Int).length : Int) > 0) := by simp
        go_wp2
        go_roundw
        case rel => exact ⟨j + 1, best, hlt, by go_num, ⟨by rw [HNext.out]; exact congrArg some (by unfold better; simp)⟩, ⟨Kd.R_below HO.out HB4.out⟩, ⟨HN.out⟩, ⟨below_then HB.out HB.out.size HB4.out⟩⟩
        case measure => simp [intOf]; omega
      · have hpos : 0 < rj.length := List.length_pos_iff.2 h0
        have hposI : ((rj.length : Int) > 0) := by omega
        have hnn := nil_nil
        have hsn := some_nil
        by_cases hb0 : best = []
        · have hv6 := HN.out hb0
          subst hv6
          go_wp2
          go_roundw
          case rel => exact ⟨j + 1, rj, hlt, by go_num, ⟨by rw [HNext.out]; exact congrArg some (by unfold better; rw [if_pos ⟨h0, .inl hb0⟩])⟩, ⟨Kd.R_lower HO4.out HB.out.size⟩, ⟨fun h => absurd h h0⟩, ⟨below_then HB.out HB.out.size HB4.out⟩⟩
          case measure => simp [intOf]; omega
        · have hbp : 0 < best.length := List.length_pos_iff.2 hb0
          obtain ⟨gB, cB, hvB, _⟩ := Kd.R_form HO.out hbp
          subst hvB
          by_cases hlt2 : rj.length < best.length
          · have hltI : ((rj.length : Int) < best.length) := by omega
            go_wp2
            go_roundw
            case rel => exact ⟨j + 1, rj, hlt, by go_num, ⟨by rw [HNext.out]; exact congrArg some (by unfold better; rw [if_pos ⟨h0, .inr hlt2⟩])⟩, ⟨Kd.R_lower HO4.out HB.out.size⟩, ⟨fun h => absurd h h0⟩, ⟨below_then HB.out HB.out.size HB4.out⟩⟩
            case measure => simp [intOf]; omega
          · have hltI : ¬ ((rj.length : Int) < best.length) := by omega
            go_wp2
            go_roundw
            case rel => exact ⟨j + 1, best, hlt, by go_num, ⟨by rw [HNext.out]; exact congrArg some (by unfold better; rw [if_neg (fun h => h.2.elim hb0 hlt2)])⟩, ⟨Kd.R_below HO.out HB4.out⟩, ⟨fun h => absurd h hb0⟩, ⟨below_then HB.out HB.out.size HB4.out⟩⟩
            case measure => simp [intOf]; omega
    · have hjn : j = nx.length := by omega
      subst hjn
      have hb : best = r := by have h := HFF.out; rw [HR.out] at h; exact Option.some.inj h
      subst hb
      go_wp2
      go_ret
      exact ⟨_, rfl, Kd.R_lower HO.out HB3.out.size, below_then HB3.out HB3.out.size HB.out⟩
end Go.Proofs.Ytccngacadolgfaa.P
