/- graph.Graph.Ahead, cycle.Ahead: which of two jobs comes ahead. Condition: rows of at most 100 places. -/
import Derived.Test.YtccngacadolgfaaC1
import Derived.Test.YtccngacadolgfaaGx
import Derived.Outline
set_option linter.unusedVariables false
set_option linter.unusedSimpArgs false
namespace Go.Proofs.Ytccngacadolgfaa.P
open Go.RowKit Go.Proofs.YtccngacadolgfaaW.PrintWords Go.Proofs.YtccngacadolgfaaW.PrintLast Go.Proofs.YtccngacadolgfaaW.PrintMore

/-- Is a place in a unit's row? -/
def hasB (l : List (List Int)) (i k : Int) : Bool := decide (0 ≤ i) && (decide (i < l.length) && decide (k ∈ rd_L1 l i))
theorem index_f (l : List Int) (x : Int) (hl : l.length ≤ 1000) : ∀ (k j : Nat), j ≤ l.length → l.length - j < k → ∃ n, slices_Index_int_int.l0 k l x (l.length : Int) j = some n ∧ (0 ≤ n ↔ x ∈ l.drop j)
  | 0, j, _, h => by omega
  | k + 1, j, hj, h => by
    unfold slices_Index_int_int.l0
    by_cases h1 : (j : Int) < l.length
    · have hj1 : j < l.length := by omega
      rw [if_pos h1, if_pos (by omega), if_pos h1]
      have e : rd l j = l[j] := by unfold rd; rw [Int.toNat_natCast, List.getD_eq_getElem?_getD, List.getElem?_eq_getElem hj1]; rfl
      rw [List.drop_eq_getElem_cons hj1, e]
      by_cases hx : x = l[j]
      · rw [if_pos hx]
        exact ⟨j, rfl, by rw [← hx]; exact ⟨fun _ => List.mem_cons_self, fun _ => by omega⟩⟩
      · rw [if_neg hx]
        obtain ⟨n, h2, h3⟩ := index_f l x hl k (j + 1) hj1 (by omega)
        refine ⟨n, ?_, h3.trans ⟨List.mem_cons_of_mem _, fun h => (List.mem_cons.1 h).resolve_left hx⟩⟩
        rw [show wrap64 ((j : Int) + 1) = ((j + 1 : Nat) : Int) by unfold wrap64; omega]
        exact h2
    · rw [if_neg h1, show j = l.length by omega, List.drop_length]
      exact ⟨-1, rfl, by simp⟩
theorem has_f (l : List (List Int)) (i x : Int) (hl : (rd_L1 l i).length ≤ 1000) (k : Nat) (hk : 1000 < k) : graph_has.f k l i x = some (hasB l i x) := by
  unfold graph_has.f hasB
  by_cases h0 : 0 ≤ i
  · rw [if_pos h0, decide_eq_true h0]
    by_cases h1 : i < l.length
    · rw [if_pos h1, if_pos h0, decide_eq_true h1]
      obtain ⟨n, h2, h3⟩ := index_f (rd_L1 l i) x hl k 0 (Nat.zero_le _) (by omega)
      unfold slices_Contains_int_int.f slices_Index_int_int.f
      rw [show ((0 : Nat) : Int) = 0 from rfl] at h2
      rw [h2]
      rw [List.drop_zero] at h3
      simp [decide_eq_decide.2 h3]
    · rw [if_neg h1, decide_eq_false h1]; rfl
  · rw [if_neg h0, decide_eq_false h0]; rfl

/-- A graph's value: of its ten rows the rows After and Before are known. -/
def IsG (gv : Array Value) (A4 : Option Addr) (c4 : Nat) (l4 : List (List Int)) (A5 : Option Addr) (c5 : Nat) (l5 : List (List Int)) : Prop := ∃ A0 n0 c0 A1 n1 c1 A2 n2 c2 A3 n3 c3 A6 n6 c6 A7 n7 c7 A8 n8 c8 A9 n9 c9, gv = #[.slice A0 n0 c0, .slice A1 n1 c1, .slice A2 n2 c2, .slice A3 n3 c3, .slice A4 l4.length c4, .slice A5 l5.length c5, .slice A6 n6 c6, .slice A7 n7 c7, .slice A8 n8 c8, .slice A9 n9 c9]
structure GOk (w : World) (A4 : Option Addr) (c4 : Nat) (l4 : List (List Int)) (A5 : Option Addr) (c5 : Nat) (l5 : List (List Int)) : Prop where
  r4 : Kd.C (Kd.slice 3 (Kd.int .i64)) w A4 l4.length l4
  h4 : l4.length ≤ c4
  r5 : Kd.C (Kd.slice 3 (Kd.int .i64)) w A5 l5.length l5
  h5 : l5.length ≤ c5
  m4 : ∀ i, (rd_L1 l4 i).length ≤ 1000
  m5 : ∀ i, (rd_L1 l5 i).length ≤ 1000
theorem GOk.below {w w1 : World} {A4 : Option Addr} {c4 : Nat} {l4 : List (List Int)} {A5 : Option Addr} {c5 : Nat} {l5 : List (List Int)} (h : GOk w A4 c4 l4 A5 c5 l5) (hb : Below w.heap.size w w1) : GOk w1 A4 c4 l4 A5 c5 l5 :=
  ⟨Kd.C_below h.r4 hb, h.h4, Kd.C_below h.r5 hb, h.h5, h.m4, h.m5⟩
def upB (l4 l5 : List (List Int)) (a b : Int) : Bool := hasB l4 b a || hasB l5 a b

set_option maxRecDepth 100000 in
set_option maxHeartbeats 4000000 in
theorem gAhead_calls (gv : Array Value) (A4 : Option Addr) (c4 : Nat) (l4 : List (List Int)) (A5 : Option Addr) (c5 : Nat) (l5 : List (List Int)) (a b : Int) (w : World) (hgv : IsG gv A4 c4 l4 A5 c5 l5) (hg : GOk w A4 c4 l4 A5 c5 l5) :
    Calls Try.prog 33 #[.agg gv, .int .i64 a, .int .i64 b] w fun e w' => e = .returned (.bool (upB l4 l5 a b)) ∧ Below w.heap.size w w' := by
  obtain ⟨A0, n0, c0, A1, n1, c1, A2, n2, c2, A3, n3, c3, A6, n6, c6, A7, n7, c7, A8, n8, c8, A9, n9, c9, rfl⟩ := hgv
  have HG := Aside0.mk hg
  have hu24 := Try.underlying24
  clear hg
  unfold upB
  obtain ⟨q4, hq4⟩ : ∃ q4, q4 = hasB l4 b a := ⟨_, rfl⟩
  obtain ⟨q5, hq5⟩ : ∃ q5, q5 = hasB l5 a b := ⟨_, rfl⟩
  rw [← hq4, ← hq5]
  have HQ4 := Aside0.mk hq4
  have HQ5 := Aside0.mk hq5
  clear hq4 hq5
  go_enter Try.func33, Try.ntmps33
  go_upto_region 1 with (fail)
  obtain ⟨W, hW⟩ : ∃ W, W = w.alloc (.cells #[.slice A0 n0 c0, .slice A1 n1 c1, .slice A2 n2 c2, .slice A3 n3 c3, .slice A4 l4.length c4, .slice A5 l5.length c5, .slice A6 n6 c6, .slice A7 n7 c7, .slice A8 n8 c8, .slice A9 n9 c9] 24) := ⟨_, rfl⟩
  have HB := Aside0.mk (show Below w.heap.size w W by rw [hW]; exact below_alloc (Below.refl _ _) _)
  have h4 : W.cell? ⟨w.heap.size, 4, none⟩ = some (.slice A4 l4.length c4) := by rw [hW]; exact (blk_cell (blk_new _ _) 4).trans rfl
  have h5 : W.cell? ⟨w.heap.size, 5, none⟩ = some (.slice A5 l5.length c5) := by rw [hW]; exact (blk_cell (blk_new _ _) 5).trans rfl
  rw [← hW]
  have HGW := Aside0.mk (HG.out.below HB.out)
  clear hW HG
  have hc4 := graph_has.calls 2000 A4 c4 l4 b a _ W HGW.out.r4 HGW.out.h4 (has_f l4 b a (HGW.out.m4 b) 2000 (by decide))
  rw [← HQ4.out] at hc4
  have HC4 := Aside0.mk hc4
  clear hc4 HQ4
  cases q4 with
  | true =>
    go_wp2_with (go_at_call 47; refine HC4.out.mono ?_; rintro e w1 ⟨rfl, ⟨nd, rfl⟩⟩; have HB1 := Aside0.mk (pw_below_drewN HB.out nd))
    go_ret
    exact ⟨rfl, HB1.out⟩
  | false =>
    go_wp2_with (first
      | (go_at_call 47; refine HC4.out.mono ?_; rintro e w1 ⟨rfl, ⟨nd, rfl⟩⟩; have HB1 := Aside0.mk (pw_below_drewN HB.out nd); have hc5 := graph_has.calls 2000 A5 c5 l5 a b _ (W.drewN nd) (Kd.C_below HGW.out.r5 (pw_below_drewN (Below.refl _ _) nd)) HGW.out.h5 (has_f l5 a b (HGW.out.m5 a) 2000 (by decide)); rw [← HQ5.out] at hc5; have HC5 := Aside0.mk hc5; clear hc5 HC4)
      | (go_at_call 47; refine HC5.out.mono ?_; rintro e w2 ⟨rfl, ⟨nd2, rfl⟩⟩; have HB2 := Aside0.mk (pw_below_drewN HB1.out nd2)))
    go_ret
    exact ⟨by simp, by first | exact HB2.out | exact pw_below_drewN HB.out _⟩

/-- Does a job come ahead of another one? -/
def aheadB (l4 l5 : List (List Int)) (ua ta ub tb : Int) : Bool := if ua = ub then false else if ta = 2 ∧ tb = 2 then upB l4 l5 ub ua else if ta = 2 then upB l4 l5 ua ub || upB l4 l5 ub ua else if tb = 2 then false else upB l4 l5 ua ub
def AS (w : World) (A0 : Option Addr) (n0 c0 : Nat) (A1 : Option Addr) (n1 c1 : Nat) (A2 : Option Addr) (n2 c2 : Nat) (A3 : Option Addr) (n3 c3 : Nat) (A6 : Option Addr) (n6 c6 : Nat) (A7 : Option Addr) (n7 c7 : Nat) (A8 : Option Addr) (n8 c8 : Nat) (A9 : Option Addr) (n9 c9 : Nat) (A4 : Option Addr) (c4 : Nat) (l4 : List (List Int)) (A5 : Option Addr) (c5 : Nat) (l5 : List (List Int)) (ua ta ub tb : Int) (B B1 B2 : Nat) (w' : World) : Prop := w'.cell? ⟨B, 0, none⟩ = some (.slice A0 n0 c0) ∧ w'.cell? ⟨B, 1, none⟩ = some (.slice A1 n1 c1) ∧ w'.cell? ⟨B, 2, none⟩ = some (.slice A2 n2 c2) ∧ w'.cell? ⟨B, 3, none⟩ = some (.slice A3 n3 c3) ∧ w'.cell? ⟨B, 4, none⟩ = some (.slice A4 l4.length c4) ∧ w'.cell? ⟨B, 5, none⟩ = some (.slice A5 l5.length c5) ∧ w'.cell? ⟨B, 6, none⟩ = some (.slice A6 n6 c6) ∧ w'.cell? ⟨B, 7, none⟩ = some (.slice A7 n7 c7) ∧ w'.cell? ⟨B, 8, none⟩ = some (.slice A8 n8 c8) ∧ w'.cell? ⟨B, 9, none⟩ = some (.slice A9 n9 c9) ∧ w'.cell? ⟨B1, 0, none⟩ = some (.int .i64 ua) ∧ w'.cell? ⟨B1, 1, none⟩ = some (.int .u8 ta) ∧ w'.cell? ⟨B2, 0, none⟩ = some (.int .i64 ub) ∧ w'.cell? ⟨B2, 1, none⟩ = some (.int .u8 tb) ∧ GOk w' A4 c4 l4 A5 c5 l5 ∧ Below w.heap.size w w'
theorem AS.below {w : World} {A0 : Option Addr} {n0 c0 : Nat} {A1 : Option Addr} {n1 c1 : Nat} {A2 : Option Addr} {n2 c2 : Nat} {A3 : Option Addr} {n3 c3 : Nat} {A6 : Option Addr} {n6 c6 : Nat} {A7 : Option Addr} {n7 c7 : Nat} {A8 : Option Addr} {n8 c8 : Nat} {A9 : Option Addr} {n9 c9 : Nat} {A4 : Option Addr} {c4 : Nat} {l4 : List (List Int)} {A5 : Option Addr} {c5 : Nat} {l5 : List (List Int)} {ua ta ub tb : Int} {B B1 B2 : Nat} {w1 w2 : World} (h : AS w A0 n0 c0 A1 n1 c1 A2 n2 c2 A3 n3 c3 A6 n6 c6 A7 n7 c7 A8 n8 c8 A9 n9 c9 A4 c4 l4 A5 c5 l5 ua ta ub tb B B1 B2 w1) (hb : Below w1.heap.size w1 w2) : AS w A0 n0 c0 A1 n1 c1 A2 n2 c2 A3 n3 c3 A6 n6 c6 A7 n7 c7 A8 n8 c8 A9 n9 c9 A4 c4 l4 A5 c5 l5 ua ta ub tb B B1 B2 w2 := by
  obtain ⟨s0, s1, s2, s3, s4, s5, s6, s7, s8, s9, t0, t1, u0, u1, sg, sb⟩ := h
  exact ⟨pw_cell_below hb s0, pw_cell_below hb s1, pw_cell_below hb s2, pw_cell_below hb s3, pw_cell_below hb s4, pw_cell_below hb s5, pw_cell_below hb s6, pw_cell_below hb s7, pw_cell_below hb s8, pw_cell_below hb s9, pw_cell_below hb t0, pw_cell_below hb t1, pw_cell_below hb u0, pw_cell_below hb u1, sg.below hb, below_then sb sb.size hb⟩

set_option maxRecDepth 100000 in
set_option maxHeartbeats 8000000 in
theorem ahead_calls (gv : Array Value) (A4 : Option Addr) (c4 : Nat) (l4 : List (List Int)) (A5 : Option Addr) (c5 : Nat) (l5 : List (List Int)) (ua ta ub tb : Int) (w : World) (hgv : IsG gv A4 c4 l4 A5 c5 l5) (hg : GOk w A4 c4 l4 A5 c5 l5) :
    Calls Try.prog 27 #[.agg gv, .agg #[.int .i64 ua, .int .u8 ta], .agg #[.int .i64 ub, .int .u8 tb]] w fun e w' => e = .returned (.bool (aheadB l4 l5 ua ta ub tb)) ∧ Below w.heap.size w w' := by
  obtain ⟨A0, n0, c0, A1, n1, c1, A2, n2, c2, A3, n3, c3, A6, n6, c6, A7, n7, c7, A8, n8, c8, A9, n9, c9, rfl⟩ := hgv
  have HG := Aside0.mk hg
  have hu24 := Try.underlying24
  have hu39 := Try.underlying39
  clear hg
  obtain ⟨r, hr⟩ : ∃ r, r = aheadB l4 l5 ua ta ub tb := ⟨_, rfl⟩
  rw [← hr]
  unfold aheadB at hr
  obtain ⟨up, hup⟩ : ∃ q, q = upB l4 l5 ua ub := ⟨_, rfl⟩
  obtain ⟨dn, hdn⟩ : ∃ q, q = upB l4 l5 ub ua := ⟨_, rfl⟩
  rw [← hup, ← hdn] at hr
  have HR := Aside0.mk hr
  clear hr
  have HU := Aside0.mk hup
  have HD := Aside0.mk hdn
  clear hup hdn
  go_enter Try.func27, Try.ntmps27
  go_upto_region 1 with (fail)
  obtain ⟨B, hB⟩ : ∃ B, B = w.heap.size := ⟨_, rfl⟩
  obtain ⟨W, hW⟩ : ∃ W, W = ((w.alloc (.cells #[.slice A0 n0 c0, .slice A1 n1 c1, .slice A2 n2 c2, .slice A3 n3 c3, .slice A4 l4.length c4, .slice A5 l5.length c5, .slice A6 n6 c6, .slice A7 n7 c7, .slice A8 n8 c8, .slice A9 n9 c9] 24)).alloc (.cells #[.int .i64 ua, .int .u8 ta] 39)).alloc (.cells #[.int .i64 ub, .int .u8 tb] 39) := ⟨_, rfl⟩
  have hs : AS w A0 n0 c0 A1 n1 c1 A2 n2 c2 A3 n3 c3 A6 n6 c6 A7 n7 c7 A8 n8 c8 A9 n9 c9 A4 c4 l4 A5 c5 l5 ua ta ub tb B (B + 1) (B + 1 + 1) W.drew := by
    have b0 : Below w.heap.size w W := by rw [hW]; exact below_alloc (below_alloc (below_alloc (Below.refl _ _) _) _) _
    have q0 : W.heap[B]? = some (.cells #[.slice A0 n0 c0, .slice A1 n1 c1, .slice A2 n2 c2, .slice A3 n3 c3, .slice A4 l4.length c4, .slice A5 l5.length c5, .slice A6 n6 c6, .slice A7 n7 c7, .slice A8 n8 c8, .slice A9 n9 c9] 24 (0, 0)) := by rw [hW, hB]; exact blk_alloc (blk_alloc (blk_new _ _) _) _
    have q1 : W.heap[B + 1]? = some (.cells #[.int .i64 ua, .int .u8 ta] 39 (0, 0)) := by
      have h_ := blk_new (w.alloc (.cells #[.slice A0 n0 c0, .slice A1 n1 c1, .slice A2 n2 c2, .slice A3 n3 c3, .slice A4 l4.length c4, .slice A5 l5.length c5, .slice A6 n6 c6, .slice A7 n7 c7, .slice A8 n8 c8, .slice A9 n9 c9] 24)) (.cells #[.int .i64 ua, .int .u8 ta] 39)
      rw [World.size_alloc] at h_
      rw [hW, hB]; exact blk_alloc h_ _
    have q2 : W.heap[B + 1 + 1]? = some (.cells #[.int .i64 ub, .int .u8 tb] 39 (0, 0)) := by
      have h_ := blk_new ((w.alloc (.cells #[.slice A0 n0 c0, .slice A1 n1 c1, .slice A2 n2 c2, .slice A3 n3 c3, .slice A4 l4.length c4, .slice A5 l5.length c5, .slice A6 n6 c6, .slice A7 n7 c7, .slice A8 n8 c8, .slice A9 n9 c9] 24)).alloc (.cells #[.int .i64 ua, .int .u8 ta] 39)) (.cells #[.int .i64 ub, .int .u8 tb] 39)
      rw [World.size_alloc, World.size_alloc] at h_
      rw [hW, hB]; exact h_
    exact ⟨(blk_cell q0 0).trans rfl, (blk_cell q0 1).trans rfl, (blk_cell q0 2).trans rfl, (blk_cell q0 3).trans rfl, (blk_cell q0 4).trans rfl, (blk_cell q0 5).trans rfl, (blk_cell q0 6).trans rfl, (blk_cell q0 7).trans rfl, (blk_cell q0 8).trans rfl, (blk_cell q0 9).trans rfl, (blk_cell q1 0).trans rfl, (blk_cell q1 1).trans rfl, (blk_cell q2 0).trans rfl, (blk_cell q2 1).trans rfl, HG.out.below (below_drew b0), below_drew b0⟩
  rw [← hW]
  rw [← hB]
  obtain ⟨B1, hB1⟩ : ∃ B1, B1 = B + 1 := ⟨_, rfl⟩
  obtain ⟨B2, hB2⟩ : ∃ B2, B2 = B1 + 1 := ⟨_, rfl⟩
  rw [← hB1] at hs ⊢
  rw [← hB2] at hs ⊢
  clear hW hB hB1 hB2
  refine start_ (n := 14) (S := fun w' => AS w A0 n0 c0 A1 n1 c1 A2 n2 c2 A3 n3 c3 A6 n6 c6 A7 n7 c7 A8 n8 c8 A9 n9 c9 A4 c4 l4 A5 c5 l5 ua ta ub tb B B1 B2 w') (ds := []) #[false, false, false, false, false, false, false, false, false, false, false, false, false, false] (by kernel_rfl) rfl rfl hs (fun hHeld => ?_)
  refine pure_ (i := 1) (N := (some 12)) (v := ?_) (a' := ?_) #[false, true, false, false, false, false, false, false, false, false, false, false, false, false] rfl rfl (by kernel_rfl) (fun _ _ _ h => h) (Or.inl ⟨by rfl, ?_⟩) ?_ ?_
  rotate_left
  · intro w'
    go_simp
    with_reducible rfl
  rotate_left
  · simp only [Act.put, List.setIfInBounds_toArray, List.set_cons_zero, List.set_cons_succ, i64_w, i32_w]
    rfl
  refine pure_ (i := 3) (N := (some 14)) (v := ?_) (a' := ?_) #[false, true, false, true, false, false, false, false, false, false, false, false, false, false] rfl rfl (by kernel_rfl) (fun _ _ _ h => h) (Or.inl ⟨by rfl, ?_⟩) ?_ ?_
  rotate_left
  · intro w'
    go_simp
    with_reducible rfl
  rotate_left
  · simp only [Act.put, List.setIfInBounds_toArray, List.set_cons_zero, List.set_cons_succ, i64_w, i32_w]
    rfl
  refine pure_ (i := 7) (N := (some 18)) (v := ?_) (a' := ?_) #[false, true, false, true, false, false, false, true, false, false, false, false, false, false] rfl rfl (by kernel_rfl) (fun _ _ _ h => h) (Or.inl ⟨by rfl, ?_⟩) ?_ ?_
  rotate_left
  · intro w'
    go_simp
    with_reducible rfl
  rotate_left
  · simp only [Act.put, List.setIfInBounds_toArray, List.set_cons_zero, List.set_cons_succ, i64_w, i32_w]
    rfl
  refine pure_ (i := 9) (N := (some 20)) (v := ?_) (a' := ?_) #[false, true, false, true, false, false, false, true, false, true, false, false, false, false] rfl rfl (by kernel_rfl) (fun _ _ _ h => h) (Or.inl ⟨by rfl, ?_⟩) ?_ ?_
  rotate_left
  · intro w'
    go_simp
    with_reducible rfl
  rotate_left
  · simp only [Act.put, List.setIfInBounds_toArray, List.set_cons_zero, List.set_cons_succ, i64_w, i32_w]
    rfl
  refine take_ (i := 0) (N := (some 11)) (v := ?_) (a' := ?_) #[true, true, false, true, false, false, false, true, false, true, false, false, false, false] rfl rfl (by kernel_rfl) (fun _ _ _ h => h) (Or.inl ⟨by rfl, ?_⟩) hHeld ?_ ?_
  rotate_left
  · rintro w' ⟨s0, s1, s2, s3, s4, s5, s6, s7, s8, s9, t0, t1, u0, u1, _, _⟩
    go_simp
    with_reducible rfl
  rotate_left
  · simp only [Act.put, List.setIfInBounds_toArray, List.set_cons_zero, List.set_cons_succ, i64_w, i32_w]
    rfl
  refine take_ (i := 2) (N := (some 13)) (v := ?_) (a' := ?_) #[true, true, true, true, false, false, false, true, false, true, false, false, false, false] rfl rfl (by kernel_rfl) (fun _ _ _ h => h) (Or.inl ⟨by rfl, ?_⟩) hHeld ?_ ?_
  rotate_left
  · rintro w' ⟨s0, s1, s2, s3, s4, s5, s6, s7, s8, s9, t0, t1, u0, u1, _, _⟩
    go_simp
    with_reducible rfl
  rotate_left
  · simp only [Act.put, List.setIfInBounds_toArray, List.set_cons_zero, List.set_cons_succ, i64_w, i32_w]
    rfl
  refine take_ (i := 4) (N := (some 15)) (v := ?_) (a' := ?_) #[true, true, true, true, true, false, false, true, false, true, false, false, false, false] rfl rfl (by kernel_rfl) (fun _ _ _ h => h) (Or.inl ⟨by rfl, ?_⟩) hHeld ?_ ?_
  rotate_left
  · rintro w' ⟨s0, s1, s2, s3, s4, s5, s6, s7, s8, s9, t0, t1, u0, u1, _, _⟩
    go_simp
    with_reducible rfl
  rotate_left
  · simp only [Act.put, List.setIfInBounds_toArray, List.set_cons_zero, List.set_cons_succ, i64_w, i32_w]
    rfl
  refine take_ (i := 6) (N := (some 17)) (v := ?_) (a' := ?_) #[true, true, true, true, true, false, true, true, false, true, false, false, false, false] rfl rfl (by kernel_rfl) (fun _ _ _ h => h) (Or.inl ⟨by rfl, ?_⟩) hHeld ?_ ?_
  rotate_left
  · rintro w' ⟨s0, s1, s2, s3, s4, s5, s6, s7, s8, s9, t0, t1, u0, u1, _, _⟩
    go_simp
    with_reducible rfl
  rotate_left
  · simp only [Act.put, List.setIfInBounds_toArray, List.set_cons_zero, List.set_cons_succ, i64_w, i32_w]
    rfl
  refine take_ (i := 8) (N := (some 19)) (v := ?_) (a' := ?_) #[true, true, true, true, true, false, true, true, true, true, false, false, false, false] rfl rfl (by kernel_rfl) (fun _ _ _ h => h) (Or.inl ⟨by rfl, ?_⟩) hHeld ?_ ?_
  rotate_left
  · rintro w' ⟨s0, s1, s2, s3, s4, s5, s6, s7, s8, s9, t0, t1, u0, u1, _, _⟩
    go_simp
    with_reducible rfl
  rotate_left
  · simp only [Act.put, List.setIfInBounds_toArray, List.set_cons_zero, List.set_cons_succ, i64_w, i32_w]
    rfl
  refine take_ (i := 10) (N := (some 21)) (v := ?_) (a' := ?_) #[true, true, true, true, true, false, true, true, true, true, true, false, false, false] rfl rfl (by kernel_rfl) (fun _ _ _ h => h) (Or.inl ⟨by rfl, ?_⟩) hHeld ?_ ?_
  rotate_left
  · rintro w' ⟨s0, s1, s2, s3, s4, s5, s6, s7, s8, s9, t0, t1, u0, u1, _, _⟩
    go_simp
    with_reducible rfl
  rotate_left
  · simp only [Act.put, List.setIfInBounds_toArray, List.set_cons_zero, List.set_cons_succ, i64_w, i32_w]
    rfl
  refine one_ (i := 5) (N := (some 16)) #[true, true, true, true, true, true, true, true, true, true, true, false, false, false] rfl rfl (by kernel_rfl) (by decide) (fun K hK => ?_)
  refine goes_ Try.func33 (by kernel_rfl) rfl #[.agg #[.slice A0 n0 c0, .slice A1 n1 c1, .slice A2 n2 c2, .slice A3 n3 c3, .slice A4 l4.length c4, .slice A5 l5.length c5, .slice A6 n6 c6, .slice A7 n7 c7, .slice A8 n8 c8, .slice A9 n9 c9], .int .i64 ua, .int .i64 ub] (by rfl) rfl rfl (by (try simp only [List.map_toArray, List.map_cons, List.map_nil]); first | done | rfl) ?_
  refine (gAhead_calls _ A4 c4 l4 A5 c5 l5 ua ub _ ⟨_, _, _, _, _, _, _, _, _, _, _, _, _, _, _, _, _, _, _, _, _, _, _, _, rfl⟩ hHeld.2.2.2.2.2.2.2.2.2.2.2.2.2.2.1).mono ?_
  rintro e w' ⟨rfl, hb⟩
  rw [← HU.out]
  refine ⟨_, rfl, ?_⟩
  refine hK.out _ _ (hHeld.below hb) (fun hHeld => ?_)
  clear hK K
  try (refine norm_ (a' := ?_) ?_ ?_; rotate_left; (first | (show Act.put _ _ _ = _; simp only [Act.put, List.setIfInBounds_toArray, List.set_cons_zero, List.set_cons_succ, i64_w, i32_w]; rfl) | rfl))
  refine one_ (i := 11) (N := (some 22)) #[true, true, true, true, true, true, true, true, true, true, true, true, false, false] rfl rfl (by kernel_rfl) (by decide) (fun K hK => ?_)
  refine goes_ Try.func33 (by kernel_rfl) rfl #[.agg #[.slice A0 n0 c0, .slice A1 n1 c1, .slice A2 n2 c2, .slice A3 n3 c3, .slice A4 l4.length c4, .slice A5 l5.length c5, .slice A6 n6 c6, .slice A7 n7 c7, .slice A8 n8 c8, .slice A9 n9 c9], .int .i64 ub, .int .i64 ua] (by rfl) rfl rfl (by (try simp only [List.map_toArray, List.map_cons, List.map_nil]); first | done | rfl) ?_
  refine (gAhead_calls _ A4 c4 l4 A5 c5 l5 ub ua _ ⟨_, _, _, _, _, _, _, _, _, _, _, _, _, _, _, _, _, _, _, _, _, _, _, _, rfl⟩ hHeld.2.2.2.2.2.2.2.2.2.2.2.2.2.2.1).mono ?_
  rintro e w' ⟨rfl, hb⟩
  rw [← HD.out]
  refine ⟨_, rfl, ?_⟩
  refine hK.out _ _ (hHeld.below hb) (fun hHeld => ?_)
  clear hK K
  try (refine norm_ (a' := ?_) ?_ ?_; rotate_left; (first | (show Act.put _ _ _ = _; simp only [Act.put, List.setIfInBounds_toArray, List.set_cons_zero, List.set_cons_succ, i64_w, i32_w]; rfl) | rfl))
  refine pure_ (i := 12) (N := (some 7)) (v := ?_) (a' := ?_) #[true, true, true, true, true, true, true, true, true, true, true, true, true, false] rfl rfl (by kernel_rfl) (fun _ _ _ h => h) (Or.inl ⟨by rfl, ?_⟩) ?_ ?_
  rotate_left
  · intro w'
    go_simp
    with_reducible rfl
  rotate_left
  · simp only [Act.put, List.setIfInBounds_toArray, List.set_cons_zero, List.set_cons_succ, i64_w, i32_w]
    rfl
  refine pure_ (i := 13) (N := (some 8)) (v := ?_) (a' := ?_) #[true, true, true, true, true, true, true, true, true, true, true, true, true, true] rfl rfl (by kernel_rfl) (fun _ _ _ h => h) (Or.inl ⟨by rfl, ?_⟩) ?_ ?_
  rotate_left
  · intro w'
    go_simp
    with_reducible rfl
  rotate_left
  · simp only [Act.put, List.setIfInBounds_toArray, List.set_cons_zero, List.set_cons_succ, i64_w, i32_w]
    rfl
  refine done_ (by kernel_rfl) ?_
  have hs2 := hHeld.below (below_drew (Below.refl _ _))
  have HB2 := Aside0.mk hHeld.2.2.2.2.2.2.2.2.2.2.2.2.2.2.2
  clear hs hHeld
  go_upto_region 2 with (fail)
  refine start_ (n := 8) (S := fun w' => AS w A0 n0 c0 A1 n1 c1 A2 n2 c2 A3 n3 c3 A6 n6 c6 A7 n7 c7 A8 n8 c8 A9 n9 c9 A4 c4 l4 A5 c5 l5 ua ta ub tb B B1 B2 w') (ds := []) #[false, false, false, false, false, false, false, false] (by kernel_rfl) rfl rfl hs2 (fun hHeld => ?_)
  refine pure_ (i := 0) (N := (some 23)) (v := ?_) (a' := ?_) #[true, false, false, false, false, false, false, false] rfl rfl (by kernel_rfl) (fun _ _ _ h => h) (Or.inl ⟨by rfl, ?_⟩) ?_ ?_
  rotate_left
  · intro w'
    go_simp
    with_reducible rfl
  rotate_left
  · simp only [Act.put, List.setIfInBounds_toArray, List.set_cons_zero, List.set_cons_succ, i64_w, i32_w]
    rfl
  refine pure_ (i := 3) (N := (some 26)) (v := ?_) (a' := ?_) #[true, false, false, true, false, false, false, false] rfl rfl (by kernel_rfl) (fun _ _ _ h => h) (Or.inl ⟨by rfl, ?_⟩) ?_ ?_
  rotate_left
  · intro w'
    go_simp
    with_reducible rfl
  rotate_left
  · simp only [Act.put, List.setIfInBounds_toArray, List.set_cons_zero, List.set_cons_succ, i64_w, i32_w]
    rfl
  refine take_ (i := 1) (N := (some 24)) (v := ?_) (a' := ?_) #[true, true, false, true, false, false, false, false] rfl rfl (by kernel_rfl) (fun _ _ _ h => h) (Or.inl ⟨by rfl, ?_⟩) hHeld ?_ ?_
  rotate_left
  · rintro w' ⟨s0, s1, s2, s3, s4, s5, s6, s7, s8, s9, t0, t1, u0, u1, _, _⟩
    go_simp
    with_reducible rfl
  rotate_left
  · simp only [Act.put, List.setIfInBounds_toArray, List.set_cons_zero, List.set_cons_succ, i64_w, i32_w]
    rfl
  refine pure_ (i := 2) (N := (some 25)) (v := ?_) (a' := ?_) #[true, true, true, true, false, false, false, false] rfl rfl (by kernel_rfl) (fun _ _ _ h => h) (Or.inl ⟨by rfl, ?_⟩) ?_ ?_
  rotate_left
  · intro w'
    go_simp
    with_reducible rfl
  rotate_left
  · simp only [Act.put, List.setIfInBounds_toArray, List.set_cons_zero, List.set_cons_succ, i64_w, i32_w]
    rfl
  refine pure_ (i := 6) (N := (some 9)) (v := ?_) (a' := ?_) #[true, true, true, true, false, false, true, false] rfl rfl (by kernel_rfl) (fun _ _ _ h => h) (Or.inl ⟨by rfl, ?_⟩) ?_ ?_
  rotate_left
  · intro w'
    go_simp
    with_reducible rfl
  rotate_left
  · simp only [Act.put, List.setIfInBounds_toArray, List.set_cons_zero, List.set_cons_succ, i64_w, i32_w]
    rfl
  refine take_ (i := 4) (N := (some 27)) (v := ?_) (a' := ?_) #[true, true, true, true, true, false, true, false] rfl rfl (by kernel_rfl) (fun _ _ _ h => h) (Or.inl ⟨by rfl, ?_⟩) hHeld ?_ ?_
  rotate_left
  · rintro w' ⟨s0, s1, s2, s3, s4, s5, s6, s7, s8, s9, t0, t1, u0, u1, _, _⟩
    go_simp
    with_reducible rfl
  rotate_left
  · simp only [Act.put, List.setIfInBounds_toArray, List.set_cons_zero, List.set_cons_succ, i64_w, i32_w]
    rfl
  refine pure_ (i := 5) (N := (some 28)) (v := ?_) (a' := ?_) #[true, true, true, true, true, true, true, false] rfl rfl (by kernel_rfl) (fun _ _ _ h => h) (Or.inl ⟨by rfl, ?_⟩) ?_ ?_
  rotate_left
  · intro w'
    go_simp
    with_reducible rfl
  rotate_left
  · simp only [Act.put, List.setIfInBounds_toArray, List.set_cons_zero, List.set_cons_succ, i64_w, i32_w]
    rfl
  refine pure_ (i := 7) (N := (some 10)) (v := ?_) (a' := ?_) #[true, true, true, true, true, true, true, true] rfl rfl (by kernel_rfl) (fun _ _ _ h => h) (Or.inl ⟨by rfl, ?_⟩) ?_ ?_
  rotate_left
  · intro w'
    go_simp
    with_reducible rfl
  rotate_left
  · simp only [Act.put, List.setIfInBounds_toArray, List.set_cons_zero, List.set_cons_succ, i64_w, i32_w]
    rfl
  refine done_ (by kernel_rfl) ?_
  obtain ⟨_, _, _, _, _, _, _, _, _, _, t0, _, u0, _, _, _⟩ := hHeld
  have HB3 := Aside0.mk (below_drew HB2.out)
  obtain ⟨W3, hW3⟩ : ∃ W3, W3 = w'.drew := ⟨_, rfl⟩
  rw [← hW3] at t0 u0 HB3 ⊢
  clear hs2 hW3
  by_cases hab : ua = ub
  · subst hab
    go_wp2
    go_ret
    exact ⟨by rw [HR.out]; simp, HB3.out⟩
  · cases hfa : (ta == 2) <;> cases hfb : (tb == 2)
    · go_wp2
      go_ret
      exact ⟨by rw [HR.out]; simp at hfa hfb; simp [hab, hfa, hfb], HB3.out⟩
    · go_wp2
      go_ret
      exact ⟨by rw [HR.out]; simp at hfa hfb; simp [hab, hfa, hfb], HB3.out⟩
    · cases up
      · go_wp2
        go_ret
        exact ⟨by rw [HR.out]; simp at hfa hfb; simp [hab, hfa, hfb], HB3.out⟩
      · go_wp2
        go_ret
        exact ⟨by rw [HR.out]; simp at hfa hfb; simp [hab, hfa, hfb], HB3.out⟩
    · go_wp2
      go_ret
      exact ⟨by rw [HR.out]; simp at hfa hfb; simp [hab, hfa, hfb], HB3.out⟩
end Go.Proofs.Ytccngacadolgfaa.P
