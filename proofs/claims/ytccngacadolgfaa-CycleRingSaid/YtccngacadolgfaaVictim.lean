/- cycle.Victim: of the least ring of items the last one that need not be there. Conditions: Ring's; the ring's places are places of the items. -/
import Derived.Test.YtccngacadolgfaaRing2
import Derived.Test.YtccngacadolgfaaBackward
import Derived.Test.YtccngacadolgfaaSortI
import Derived.RangeFuncLeaves
set_option linter.unusedVariables false
set_option linter.unusedSimpArgs false
namespace Go.Proofs.Ytccngacadolgfaa.P
open Go.RowKit Go.Shelf Go.Proofs.YtccngacadolgfaaW.PrintWords Go.Proofs.YtccngacadolgfaaW.PrintLast Go.Proofs.YtccngacadolgfaaW.PrintMore

/-- The place that has to go. -/
def vicF (l : List S44) (s : List Int) : Option Int := s.reverse.find? fun i => !(rd_T44 l i).f1
def vicV (l : List S44) (s : List Int) : Value := match vicF l s with
  | some i => .tuple #[.agg #[.int .i64 (rd_T44 l i).f0.f0, .int .u8 (rd_T44 l i).f0.f1], .bool true, .int .i64 0]
  | none => .tuple #[.agg #[.int .i64 0, .int .u8 0], .bool false, .int .i64 (if s = [] then 0 else 230)]



attribute [local go_sem] Oper.semAt_some
set_option maxRecDepth 100000 in
theorem backward_calls (A : Option Addr) (n c : Nat) (w : World) : Calls Try.prog 26 #[.slice A n c] w fun e w' => e = .returned (.func (.func 32) #[] #[.pointer (some ⟨w.heap.size, 0, none⟩)]) ∧ w' = w.alloc (.cells #[.slice A n c] 34) := by
  go_enter Try.func26, Try.ntmps26
  go_wp2
  go_ret
  exact ⟨rfl, rfl⟩

theorem results_victim (tmps : Array Value) (W : World) (g1 g2 g3 : Nat) (x y z : Int) (b : Bool) (h1 : tmps.getD 4 undef = .pointer (some ⟨g1, 0, none⟩)) (h2 : tmps.getD 5 undef = .pointer (some ⟨g2, 0, none⟩)) (h3 : tmps.getD 6 undef = .pointer (some ⟨g3, 0, none⟩))
    (hb1 : W.heap[g1]? = some (.cells #[.int .i64 x, .int .u8 y] 39 (0, 0))) (hb2 : W.heap[g2]? = some (.cells #[.bool b] 4 (0, 0))) (hb3 : W.heap[g3]? = some (.cells #[.int .i64 z] 40 (0, 0))) :
    (results Try.f15 tmps).run Try.prog W = .ok (.tuple #[.agg #[.int .i64 x, .int .u8 y], .bool b, .int .i64 z]) W := by
  have hr : Try.f15.results = #[.cell 4 39, .cell 5 4, .cell 6 40] := rfl
  have q1 := run_loadVar_row (P := Try.prog) W g1 39 39 _ (0, 0) _ hb1 Try.underlying39 rfl (by kernel_rfl)
  have c2 := blk_cell hb2 0
  have c3 := blk_cell hb3 0
  replace c2 : W.cell? ⟨g2, 0, none⟩ = some (.bool b) := c2.trans rfl
  replace c3 : W.cell? ⟨g3, 0, none⟩ = some (.int .i64 z) := c3.trans rfl
  have q2 : (loadVar 4 ⟨g2, 0, none⟩).run Try.prog W = .ok (.bool b) W := by
    have hu := Try.underlying4
    simp [loadVar, Sem.run_bind, isAgg, run_underlying hu, go_sem, c2]
  have q3 : (loadVar 40 ⟨g3, 0, none⟩).run Try.prog W = .ok (.int .i64 z) W := by
    have hu := Try.underlying40
    simp [loadVar, Sem.run_bind, isAgg, run_underlying hu, go_sem, c3]
  simp at h1 h2 h3
  simp [results, hr, h1, h2, h3, asAddr, q1, q2, q3]

abbrev VP (l : List S44) : Type := {x : Int × Int // l = [] ∨ (0 ≤ x.2 ∧ x.2 < l.length)}
theorem VP.zero (l : List S44) : l = [] ∨ (0 ≤ ((0, 0) : Int × Int).2 ∧ ((0, 0) : Int × Int).2 < l.length) := by
  cases l with
  | nil => exact .inl rfl
  | cons a l => exact .inr ⟨Int.le_refl _, by simp⟩
def vmk (l : List S44) (s : List Int) (m : Nat) : VP l := if h : l = [] ∨ (0 ≤ (bAt s m).2 ∧ (bAt s m).2 < l.length) then ⟨bAt s m, h⟩ else ⟨(0, 0), VP.zero l⟩
theorem vmk_val {l : List S44} {s : List Int} (hs : ∀ i ∈ s, 0 ≤ i ∧ i < l.length) (m : Nat) (hm : m < s.length) : (vmk l s m).1 = bAt s m := by
  have h : l = [] ∨ (0 ≤ (bAt s m).2 ∧ (bAt s m).2 < l.length) := by
    refine .inr (hs _ ?_)
    unfold bAt rd
    simp only [Int.toNat_natCast]
    rw [List.getD_eq_getElem?_getD, List.getElem?_eq_getElem (by omega)]
    exact List.getElem_mem _
  unfold vmk
  rw [dif_pos h]
def vI (w4 : World) (l : List S44) (pre : List (VP l)) (W : World) : Prop := (∀ p ∈ pre, (rd_T44 l p.1.2).f1 = true) ∧ Below w4.heap.size w4 W
def vOut (w : World) (x y z : Int) (b : Bool) (W : World) : Prop := Below w.heap.size w W ∧ W.heap[w.heap.size + 1 + 1]? = some (.cells #[.int .i64 x, .int .u8 y] 39 (0, 0)) ∧ W.heap[w.heap.size + 1 + 1 + 1]? = some (.cells #[.bool b] 4 (0, 0)) ∧ W.heap[w.heap.size + 1 + 1 + 1 + 1]? = some (.cells #[.int .i64 z] 40 (0, 0))
def vX (w : World) (l : List S44) (c : Code) (pre : List (VP l)) (W : World) : Prop := c = .ret ∧ ∃ pre0 x, pre = pre0 ++ [x] ∧ (∀ p ∈ pre0, (rd_T44 l p.1.2).f1 = true) ∧ (rd_T44 l x.1.2).f1 = false ∧ vOut w (rd_T44 l x.1.2).f0.f0 (rd_T44 l x.1.2).f0.f1 0 true W
theorem vI_own (w4 : World) (l : List S44) : OwnFrom w4.heap.size (vI w4 l) := fun s W W' row hs hg hr => ⟨hs.1, hs.2.grown hg hs.2.size (fun k e => (hr k e).1)⟩
theorem notrow {W W' : World} {row : Option Nat} {b : Nat} {cs : Array Value} {t : TypeId} (h : W.heap[b]? = some (.cells cs t (0, 0))) (hg : W.grownBy W' row) (hr : ∀ r, row = some r → ∃ o : Obj, W.heap[r]? = some o ∧ o.isCells = false) : W'.heap[b]? = some (.cells cs t (0, 0)) :=
  blk_grown h hg (fun e => by
    obtain ⟨o, ho, hc⟩ := hr b e.symm
    rw [h] at ho
    cases ho
    cases hc)
theorem vOut_grown {w W W' : World} {x y z : Int} {b : Bool} {row : Option Nat} (h : vOut w x y z b W) (hg : W.grownBy W' row) (hr : ∀ r, row = some r → w.heap.size ≤ r ∧ ∃ o : Obj, W.heap[r]? = some o ∧ o.isCells = false) : vOut w x y z b W' := by
  obtain ⟨h0, h1, h2, h3⟩ := h
  have hr' := fun r e => (hr r e).2
  exact ⟨h0.grown hg h0.size (fun k e => (hr k e).1), notrow h1 hg hr', notrow h2 hg hr', notrow h3 hg hr'⟩
theorem vOut_put {w W : World} {a0 a1 a2 a3 : Value} (hB : Below w.heap.size w W) (h1 : W.heap[w.heap.size + 1 + 1]? = some (.cells #[a0, a1] 39 (0, 0))) (h2 : W.heap[w.heap.size + 1 + 1 + 1]? = some (.cells #[a2] 4 (0, 0))) (h3 : W.heap[w.heap.size + 1 + 1 + 1 + 1]? = some (.cells #[a3] 40 (0, 0))) (x y z : Int) (b : Bool) :
    vOut w x y z b ((((W.setCell ⟨w.heap.size + 1 + 1, 0, none⟩ (.int .i64 x)).setCell ⟨w.heap.size + 1 + 1, 1, none⟩ (.int .u8 y)).setCell ⟨w.heap.size + 1 + 1 + 1, 0, none⟩ (.bool b)).setCell ⟨w.heap.size + 1 + 1 + 1 + 1, 0, none⟩ (.int .i64 z)) := by
  have far : ∀ (X : World) (p : Addr) (u : Value) (k : Nat) (o : Obj), X.heap[k]? = some o → k ≠ p.block → (X.setCell p u).heap[k]? = some o := fun X p u k o h hne => (Below.heap_setCell X p u k hne).trans h
  refine ⟨(((hB.setCell (by simp; omega) _).setCell (by simp; omega) _).setCell (by simp; omega) _).setCell (by simp; omega) _, ?_, ?_, ?_⟩
  · refine far _ _ _ _ _ (far _ _ _ _ _ ?_ (by simp)) (by simp)
    exact blk_put (blk_put h1 0 _ rfl) 1 _ rfl
  · refine far _ _ _ _ _ ?_ (by simp)
    exact blk_put (far _ _ _ _ _ (far _ _ _ _ _ h2 (by simp)) (by simp)) 0 _ rfl
  · exact blk_put (far _ _ _ _ _ (far _ _ _ _ _ (far _ _ _ _ _ h3 (by simp; omega)) (by simp; omega)) (by simp)) 0 _ rfl
theorem vKeeps {w W : World} {B : Nat} (hw : w.heap.size + 1 + 1 + 1 + 1 < B) (x y z b : Value) : KeepsFrom B W ((((W.setCell ⟨w.heap.size + 1 + 1, 0, none⟩ x).setCell ⟨w.heap.size + 1 + 1, 1, none⟩ y).setCell ⟨w.heap.size + 1 + 1 + 1, 0, none⟩ b).setCell ⟨w.heap.size + 1 + 1 + 1 + 1, 0, none⟩ z) :=
  ((((KeepsFrom.refl B W).trans ((KeepsOthers.setCell _ _ _).from B)).trans ((KeepsOthers.setCell _ _ _).from B)).trans ((KeepsOthers.setCell _ _ _).from B)).trans ((KeepsOthers.setCell _ _ _).from B)
theorem victim_leaves {w W : World} {D : Nat} {rv : Value} {x y z : Int} {b : Bool} (tmps : Array Value) (h1 : tmps.getD 4 undef = .pointer (some ⟨w.heap.size + 1 + 1, 0, none⟩)) (h2 : tmps.getD 5 undef = .pointer (some ⟨w.heap.size + 1 + 1 + 1, 0, none⟩)) (h3 : tmps.getD 6 undef = .pointer (some ⟨w.heap.size + 1 + 1 + 1 + 1, 0, none⟩))
    (ho : vOut w x y z b W) (hD : w.heap.size ≤ D) (hK : W.heap[D]? = some (.deferred (some []))) (hrv : rv = .tuple #[.agg #[.int .i64 x, .int .u8 y], .bool b, .int .i64 z]) :
    LeavesInM Fence.wide 20 Try.prog Try.f15 tmps (fun e w' => e = .returned rv ∧ Below w.heap.size w w') [{ target := .collected D, args := #[] }] .returning W := by
  have hv := fun o' => vOut_grown ho (grownBy_putObj' W D o') (fun r e => by cases e; exact ⟨hD, _, hK, rfl⟩)
  refine ⟨by simp, .inl ⟨_, _, rfl, run_takeDeferred hK, ?_⟩⟩
  exact ⟨_, results_victim tmps _ _ _ _ x y z b h1 h2 h3 (hv _).2.1 (hv _).2.2.1 (hv _).2.2.2, by rw [hrv], (hv _).1⟩
theorem vX_own (w : World) (l : List S44) (c : Code) (B : Nat) (hB : w.heap.size ≤ B) : OwnFrom B (vX w l c) := fun s W W' row hs hg hr => by
  obtain ⟨hc, pre0, x, h1, h2, h3, h4⟩ := hs
  exact ⟨hc, pre0, x, h1, h2, h3, vOut_grown h4 hg (fun r e => ⟨Nat.le_trans hB (hr r e).1, (hr r e).2⟩)⟩

theorem vmk_snd {l : List S44} {s : List Int} (hs : ∀ i ∈ s, 0 ≤ i ∧ i < l.length) (m : Nat) (hm : m ≤ s.length) : (mpre (vmk l s) m).map (fun p => p.1.2) = s.reverse.take m := by
  apply List.ext_getElem?
  intro j
  rw [List.getElem?_map, mpre, List.getElem?_map]
  rcases Nat.lt_or_ge j m with h | h
  · rw [List.getElem?_range h, List.getElem?_take_of_lt h, List.getElem?_reverse (by omega)]
    simp only [Option.map_some]
    rw [vmk_val hs j (by omega)]
    simp only [bAt, rd, Int.toNat_natCast]
    rw [List.getD_eq_getElem?_getD, List.getElem?_eq_getElem (by omega)]
    rfl
  · rw [List.getElem?_eq_none (by simpa using h), List.getElem?_eq_none (by simp; omega)]
    rfl
theorem vicV_none {l : List S44} {s : List Int} (hs : ∀ i ∈ s, 0 ≤ i ∧ i < l.length) (h : ∀ p ∈ mpre (vmk l s) s.length, (rd_T44 l p.1.2).f1 = true) : vicV l s = .tuple #[.agg #[.int .i64 0, .int .u8 0], .bool false, .int .i64 (if s = [] then 0 else 230)] := by
  have hn : vicF l s = none := by
    unfold vicF
    rw [List.find?_eq_none]
    intro i hi
    have : i ∈ (mpre (vmk l s) s.length).map (fun p => p.1.2) := by rw [vmk_snd hs _ (Nat.le_refl _), List.take_of_length_le (by simp)]; exact hi
    obtain ⟨p, hp, rfl⟩ := List.mem_map.1 this
    simp [h p hp]
  unfold vicV
  rw [hn]
theorem vicV_some {l : List S44} {s : List Int} (hs : ∀ i ∈ s, 0 ≤ i ∧ i < l.length) {m : Nat} (hm : m ≤ s.length) {pre : List (VP l)} {x : VP l} (he : pre ++ [x] = mpre (vmk l s) m) (h : ∀ p ∈ pre, (rd_T44 l p.1.2).f1 = true) (hx : (rd_T44 l x.1.2).f1 = false) :
    vicV l s = .tuple #[.agg #[.int .i64 (rd_T44 l x.1.2).f0.f0, .int .u8 (rd_T44 l x.1.2).f0.f1], .bool true, .int .i64 0] := by
  have hn : vicF l s = some x.1.2 := by
    unfold vicF
    have e := vmk_snd hs m hm
    rw [← he, List.map_append, List.map_singleton] at e
    rw [← List.take_append_drop m s.reverse, ← e, List.append_assoc, List.find?_append]
    have h0 : (pre.map (fun p => p.1.2)).find? (fun i => !(rd_T44 l i).f1) = none := by
      rw [List.find?_eq_none]
      intro i hi
      obtain ⟨p, hp, rfl⟩ := List.mem_map.1 hi
      simp [h p hp]
    rw [h0]
    simp [hx]
  unfold vicV
  rw [hn]

def VS (w : World) (A0 : Option Addr) (n0 c0 : Nat) (A1 : Option Addr) (n1 c1 : Nat) (A2 : Option Addr) (n2 c2 : Nat) (A3 : Option Addr) (n3 c3 : Nat) (A6 : Option Addr) (n6 c6 : Nat) (A7 : Option Addr) (n7 c7 : Nat) (A8 : Option Addr) (n8 c8 : Nat) (A9 : Option Addr) (n9 c9 : Nat) (A4 : Option Addr) (c4 : Nat) (l4 : List (List Int)) (A5 : Option Addr) (c5 : Nat) (l5 : List (List Int)) (A : Option Addr) (c : Nat) (l : List S44) (B : Nat) (w' : World) : Prop := RS w A0 n0 c0 A1 n1 c1 A2 n2 c2 A3 n3 c3 A6 n6 c6 A7 n7 c7 A8 n8 c8 A9 n9 c9 A4 c4 l4 A5 c5 l5 A c l B w' ∧ w'.cell? ⟨B + 1, 0, none⟩ = some (.slice A l.length c) ∧ w'.heap[B + 1 + 1]? = some (.cells #[.int .i64 0, .int .u8 0] 39 (0, 0)) ∧ w'.heap[B + 1 + 1 + 1]? = some (.cells #[.bool false] 4 (0, 0)) ∧ w'.heap[B + 1 + 1 + 1 + 1]? = some (.cells #[.int .i64 0] 40 (0, 0))
theorem blk_new' (x : World) (cs : Array Value) (t : TypeId) (b : Nat) (h : x.heap.size = b) : (x.alloc (.cells cs t)).heap[b]? = some (.cells cs t (0, 0)) := h ▸ blk_new x _
theorem blk_below {w w' : World} {b : Nat} {o : Obj} (h : w.heap[b]? = some o) (hb : Below w.heap.size w w') : w'.heap[b]? = some o := (hb.block b (Array.getElem?_eq_some_iff.1 h).1).trans h
theorem VS.below {w : World} {A0 : Option Addr} {n0 c0 : Nat} {A1 : Option Addr} {n1 c1 : Nat} {A2 : Option Addr} {n2 c2 : Nat} {A3 : Option Addr} {n3 c3 : Nat} {A6 : Option Addr} {n6 c6 : Nat} {A7 : Option Addr} {n7 c7 : Nat} {A8 : Option Addr} {n8 c8 : Nat} {A9 : Option Addr} {n9 c9 : Nat} {A4 : Option Addr} {c4 : Nat} {l4 : List (List Int)} {A5 : Option Addr} {c5 : Nat} {l5 : List (List Int)} {A : Option Addr} {c : Nat} {l : List S44} {B : Nat} {w1 w2 : World} (h : VS w A0 n0 c0 A1 n1 c1 A2 n2 c2 A3 n3 c3 A6 n6 c6 A7 n7 c7 A8 n8 c8 A9 n9 c9 A4 c4 l4 A5 c5 l5 A c l B w1) (hb : Below w1.heap.size w1 w2) : VS w A0 n0 c0 A1 n1 c1 A2 n2 c2 A3 n3 c3 A6 n6 c6 A7 n7 c7 A8 n8 c8 A9 n9 c9 A4 c4 l4 A5 c5 l5 A c l B w2 := by
  obtain ⟨h0, h1, h2, h3, h4⟩ := h
  exact ⟨h0.below hb, pw_cell_below hb h1, blk_below h2 hb, blk_below h3 hb, blk_below h4 hb⟩

set_option maxRecDepth 100000 in
set_option maxHeartbeats 2000000 in
theorem victim_calls (gv : Array Value) (A4 : Option Addr) (c4 : Nat) (l4 : List (List Int)) (A5 : Option Addr) (c5 : Nat) (l5 : List (List Int)) (A : Option Addr) (c : Nat) (l : List S44) (w : World) (hgv : IsG gv A4 c4 l4 A5 c5 l5) (hg : GOk w A4 c4 l4 A5 c5 l5) (hr : Kd.C k44 w A l.length l) (hc : l.length ≤ c) (hlen : l.length ≤ 1000000) (r : List Int) (hf : ringsF (nxF l4 l5 (l.take 64)) (l.take 64).length = some r) (hm : ∀ i ∈ r, 0 ≤ i ∧ i < l.length) (hrl : r.length ≤ 1000000) :
    Calls Try.prog 15 #[.agg gv, .slice A l.length c] w fun e w' => e = .returned (vicV l (sortInts r)) ∧ Below w.heap.size w w' := by
  obtain ⟨A0, n0, c0, A1, n1, c1, A2, n2, c2, A3, n3, c3, A6, n6, c6, A7, n7, c7, A8, n8, c8, A9, n9, c9, rfl⟩ := hgv
  have hu24 := Try.underlying24
  have HG := Aside0.mk hg
  have HC := Aside0.mk hr
  have HF := Aside0.mk hf
  have HM := Aside0.mk hm
  obtain ⟨s, hs⟩ : ∃ s, s = sortInts r := ⟨_, rfl⟩
  rw [← hs]
  obtain ⟨rv, hrv⟩ : ∃ rv, rv = vicV l s := ⟨_, rfl⟩
  rw [← hrv]
  have HRV := Aside0.mk hrv
  have HSs := Aside0.mk hs
  clear hg hr hf hm hs hrv
  refine callsIn_wide.1 (callsIn_of_wp_marks (n := 20) Try.func15 rfl trivial (wpIn_wide.2 ?_))
  simp only [Try.ntmps15, List.size_toArray, List.length_cons, List.length_nil, Nat.reduceAdd, Nat.reduceSub, Array.replicate_succ, Array.replicate_zero, List.push_toArray, List.append_toArray, List.nil_append, List.cons_append]
  go_upto_region 1 with (fail)
  obtain ⟨W0, hW0⟩ : ∃ x, x = (((((w.alloc (.cells #[.slice A0 n0 c0, .slice A1 n1 c1, .slice A2 n2 c2, .slice A3 n3 c3, .slice A4 l4.length c4, .slice A5 l5.length c5, .slice A6 n6 c6, .slice A7 n7 c7, .slice A8 n8 c8, .slice A9 n9 c9] 24)).alloc (.cells #[.slice A l.length c] 25)).alloc (.cells #[.int .i64 0, .int .u8 0] 39)).alloc (.cells #[.bool false] 4)).alloc (.cells #[.int .i64 0] 40)) := ⟨_, rfl⟩
  have hs : VS w A0 n0 c0 A1 n1 c1 A2 n2 c2 A3 n3 c3 A6 n6 c6 A7 n7 c7 A8 n8 c8 A9 n9 c9 A4 c4 l4 A5 c5 l5 A c l w.heap.size W0 := by
    rw [hW0]
    have b0 := below_alloc (Below.refl _ w) (.cells #[.slice A0 n0 c0, .slice A1 n1 c1, .slice A2 n2 c2, .slice A3 n3 c3, .slice A4 l4.length c4, .slice A5 l5.length c5, .slice A6 n6 c6, .slice A7 n7 c7, .slice A8 n8 c8, .slice A9 n9 c9] 24)
    have q0 : (w.alloc (.cells #[.slice A0 n0 c0, .slice A1 n1 c1, .slice A2 n2 c2, .slice A3 n3 c3, .slice A4 l4.length c4, .slice A5 l5.length c5, .slice A6 n6 c6, .slice A7 n7 c7, .slice A8 n8 c8, .slice A9 n9 c9] 24)).heap[w.heap.size]? = some (.cells #[.slice A0 n0 c0, .slice A1 n1 c1, .slice A2 n2 c2, .slice A3 n3 c3, .slice A4 l4.length c4, .slice A5 l5.length c5, .slice A6 n6 c6, .slice A7 n7 c7, .slice A8 n8 c8, .slice A9 n9 c9] 24 (0, 0)) := blk_new _ _
    have b1 := below_alloc b0 (.cells #[.slice A l.length c] 25)
    have b2 := below_alloc b1 (.cells #[.int .i64 0, .int .u8 0] 39)
    have b3 := below_alloc b2 (.cells #[.bool false] 4)
    have b4 := below_alloc b3 (.cells #[.int .i64 0] 40)
    have r0 : RS w A0 n0 c0 A1 n1 c1 A2 n2 c2 A3 n3 c3 A6 n6 c6 A7 n7 c7 A8 n8 c8 A9 n9 c9 A4 c4 l4 A5 c5 l5 A c l w.heap.size (w.alloc (.cells #[.slice A0 n0 c0, .slice A1 n1 c1, .slice A2 n2 c2, .slice A3 n3 c3, .slice A4 l4.length c4, .slice A5 l5.length c5, .slice A6 n6 c6, .slice A7 n7 c7, .slice A8 n8 c8, .slice A9 n9 c9] 24)) := ⟨(blk_cell q0 0).trans rfl, (blk_cell q0 1).trans rfl, (blk_cell q0 2).trans rfl, (blk_cell q0 3).trans rfl, (blk_cell q0 4).trans rfl, (blk_cell q0 5).trans rfl, (blk_cell q0 6).trans rfl, (blk_cell q0 7).trans rfl, (blk_cell q0 8).trans rfl, (blk_cell q0 9).trans rfl, HG.out.below b0, Kd.C_below HC.out b0, b0⟩
    have bz := fun (x : World) (o : Obj) => below_alloc (Below.refl x.heap.size x) o
    refine ⟨(((r0.below (bz _ _)).below (bz _ _)).below (bz _ _)).below (bz _ _), ?_, ?_, ?_, ?_⟩
    · refine pw_cell_below (bz _ _) (pw_cell_below (bz _ _) (pw_cell_below (bz _ _) ?_))
      exact (blk_cell (blk_new' _ _ _ _ (by simp only [World.size_alloc])) 0).trans rfl
    · refine blk_below (blk_below ?_ (bz _ _)) (bz _ _)
      exact blk_new' _ _ _ _ (by simp only [World.size_alloc])
    · refine blk_below ?_ (bz _ _)
      exact blk_new' _ _ _ _ (by simp only [World.size_alloc])
    · exact blk_new' _ _ _ _ (by simp only [World.size_alloc])
  have HS := Aside0.mk hs
  rw [← hW0]
  clear hW0 hs
  obtain ⟨⟨s0, s1, s2, s3, s4, s5, s6, s7, s8, s9, _, _, _⟩, sl, _, _, _⟩ := HS.out
  have hgv := HS.out.1.2.2.2.2.2.2.2.2.2.2
  have HGV := Aside0.mk hgv
  clear hgv
  go_upto_region 2 with (go_at_call 10; refine (ringC_calls _ A4 c4 l4 A5 c5 l5 A c l _ ⟨_, _, _, _, _, _, _, _, _, _, _, _, _, _, _, _, _, _, _, _, _, _, _, _, rfl⟩ HGV.out.1 HGV.out.2.1 hc hlen r HF.out).mono ?_; rintro e w2 ⟨v2, rfl, ho2, hb2⟩; have HO2 := Aside0.mk ho2; have HB2 := Aside0.mk hb2; clear ho2 hb2)
  clear s0 s1 s2 s3 s4 s5 s6 s7 s8 s9 sl HGV HG HC HF
  go_upto_region 3 with (go_at_call 25; refine (sort_ints HO2.out (by omega)).mono ?_; rintro e w3 ⟨rfl, ho3, hg3⟩; have HO3 := Aside0.mk ho3; have HB3 := Aside0.mk (HB2.out.grown hg3 HB2.out.size (own_base (rowInt HO2.out))); clear ho3 hg3)
  have hs := HSs.out
  have hsl : s.length ≤ 1000000 := by rw [hs, sortInts_len]; exact hrl
  have HMs : Aside0 (∀ i ∈ s, 0 ≤ i ∧ i < l.length) := ⟨fun i hi => HM.out i ((sortInts_mem r i).1 (hs ▸ hi))⟩
  rw [← hs] at HO3
  clear hs HM HO2 HB2 HSs
  have HS3 := Aside0.mk (HS.out.below HB3.out)
  obtain ⟨As, cs, rfl⟩ := Kd.R_slice HO3.out
  go_wp2_with (go_at_call 26; refine (backward_calls _ _ _ _).mono ?_; rintro e w4 ⟨rfl, hw4⟩; have HW4 := Aside0.mk hw4; clear hw4)
  have hseq := backward_seq (fun x : VP l => epair x.1) (vmk l s) Fence.wide (20 - 1) trivial rfl (by decide) w3.heap.size As cs s w4 (by rw [HW4.out]; exact (blk_cell (blk_new _ _) 0).trans rfl) (by rw [HW4.out]; exact Kd.C_alloc (Kd.R_reads' HO3.out).2.2 _) hsl (fun m hm => by rw [vmk_val HMs.out m hm])
  have HS4 := Aside0.mk (show VS w A0 n0 c0 A1 n1 c1 A2 n2 c2 A3 n3 c3 A6 n6 c6 A7 n7 c7 A8 n8 c8 A9 n9 c9 A4 c4 l4 A5 c5 l5 A c l w.heap.size w4 by rw [HW4.out]; exact HS3.out.below (below_alloc (Below.refl _ _) _))
  have hsz4 : w.heap.size ≤ w4.heap.size := HS4.out.1.2.2.2.2.2.2.2.2.2.2.2.2.size
  clear HS3 HS HB3 HW4
  refine (wpIn_wide (n := 20)).1 (wpIn_rangeFunc_ownH rfl (by decide) (gf := 32) (lb := #[.pointer (some ⟨w3.heap.size, 0, none⟩)]) rfl trivial (enters_of Try.func32 (by kernel_rfl) rfl) hseq belowK_t (belowK_b (Nat.le_refl _)) (Below.refl _ _) (fun _ => rfl)
    (vI w4 l) (vX w l) (vI_own w4 l) (fun c => vX_own w l c _ hsz4) ⟨by simp, Below.refl _ _⟩ (fun x a' W => a' = { tmps := #[.agg #[.slice A0 n0 c0, .slice A1 n1 c1, .slice A2 n2 c2, .slice A3 n3 c3, .slice A4 l4.length c4, .slice A5 l5.length c5, .slice A6 n6 c6, .slice A7 n7 c7, .slice A8 n8 c8, .slice A9 n9 c9], .slice A l.length c, .pointer (some ⟨w.heap.size, 0, none⟩), .pointer (some ⟨w.heap.size + 1, 0, none⟩), .pointer (some ⟨w.heap.size + 1 + 1, 0, none⟩), .pointer (some ⟨w.heap.size + 1 + 1 + 1, 0, none⟩), .pointer (some ⟨w.heap.size + 1 + 1 + 1 + 1, 0, none⟩), .slice As s.length cs, undef, .int .i64 x.1.2, .agg #[.slice A0 n0 c0, .slice A1 n1 c1, .slice A2 n2 c2, .slice A3 n3 c3, .slice A4 l4.length c4, .slice A5 l5.length c5, .slice A6 n6 c6, .slice A7 n7 c7, .slice A8 n8 c8, .slice A9 n9 c9], .slice A l.length c, .slice As s.length cs, .slice As s.length cs, .tuple #[], .slice As s.length cs, .func (.func 32) #[] #[.pointer (some ⟨w3.heap.size, 0, none⟩)], .int .i64 x.1.1, .int .i64 x.1.2, undef, undef, undef, undef, undef, undef, undef, undef, undef, undef, undef, undef, undef, undef, undef, undef], defers := [] }) (fun _ _ _ _ _ _ hs _ _ => hs) ?assign ?body ?done ?stop)
  case assign =>
    rintro l1 pre x W K hI hK
    unfold epair
    gi_wp2
    exact hK _ _ (KeepsFrom.refl _ _) (Below.refl _ _) hI rfl
  case body =>
    rintro l1 pre x a' W _ _ hI rfl hlen'
    have hl0 : l ≠ [] := by
      rintro rfl
      cases s with
      | nil => simp at hlen'
      | cons a s => have := HMs.out a (by simp); simp at this; omega
    obtain ⟨hx0, hx1⟩ := x.2.resolve_left hl0
    obtain ⟨i, hi⟩ : ∃ i, i = x.1.2 := ⟨_, rfl⟩
    obtain ⟨it, hit⟩ : ∃ it, it = rd_T44 l i := ⟨_, rfl⟩
    obtain ⟨⟨_, _, _, _, _, _, _, _, _, _, _, hCl, hBw⟩, hlb, hb1, hb2, hb3⟩ := HS4.out.below hI.2
    rw [← hi] at hx0 hx1
    obtain ⟨ad, e1, hy0, hy1, hy2⟩ := at_T44 hCl i hx0 hx1
    cases e1
    rw [← hit] at hy0 hy1 hy2
    have d1 : W.cell? ⟨w.heap.size + 1 + 1, 0, none⟩ = some (.int .i64 0) := (blk_cell hb1 0).trans rfl
    have d2 : W.cell? ⟨w.heap.size + 1 + 1, 1, none⟩ = some (.int .u8 0) := (blk_cell hb1 1).trans rfl
    have d3 : W.cell? ⟨w.heap.size + 1 + 1 + 1, 0, none⟩ = some (.bool false) := (blk_cell hb2 0).trans rfl
    have d4 : W.cell? ⟨w.heap.size + 1 + 1 + 1 + 1, 0, none⟩ = some (.int .i64 0) := (blk_cell hb3 0).trans rfl
    have f1 := blk_frozen hb1 0
    have f2 := blk_frozen hb1 1
    have f3 := blk_frozen hb2 0
    have f4 := blk_frozen hb3 0
    have HI := Aside0.mk hI
    have HX := Aside0.mk (show it = rd_T44 l x.1.2 by rw [hit, hi])
    have HB1 := Aside0.mk hb1
    have HB2 := Aside0.mk hb2
    have HB3 := Aside0.mk hb3
    have HBw := Aside0.mk hBw
    rw [← hi]
    clear hi hit hI hb1 hb2 hb3 hBw hl0 hCl
    obtain ⟨⟨u, t⟩, m⟩ := it
    cases m with
    | true =>
      gi_wp2
      refine ⟨KeepsFrom.refl _ _, Below.refl _ _, ?_, HI.out.2⟩
      intro p hp
      rcases List.mem_append.1 hp with h | h
      · exact HI.out.1 p h
      · rw [List.mem_singleton.1 h, ← HX.out]
    | false =>
      gi_wp2
      refine ⟨vKeeps (by have := HB3.out; have := (Array.getElem?_eq_some_iff.1 HS4.out.2.2.2.2).1; omega) _ _ _ _, rfl, pre, x, rfl, HI.out.1, ?_, ?_⟩
      · rw [← HX.out]
      · rw [← HX.out]
        exact vOut_put HBw.out HB1.out HB2.out HB3.out _ _ _ _
  case done =>
    rintro D ss W hD rfl hI hK
    obtain ⟨⟨_, _, _, _, _, _, _, _, _, _, _, _, hBw⟩, _, hb1, hb2, hb3⟩ := HS4.out.below hI.2
    have d1 : W.cell? ⟨w.heap.size + 1 + 1, 0, none⟩ = some (.int .i64 0) := (blk_cell hb1 0).trans rfl
    have d2 : W.cell? ⟨w.heap.size + 1 + 1, 1, none⟩ = some (.int .u8 0) := (blk_cell hb1 1).trans rfl
    have d3 : W.cell? ⟨w.heap.size + 1 + 1 + 1, 0, none⟩ = some (.bool false) := (blk_cell hb2 0).trans rfl
    have d4 : W.cell? ⟨w.heap.size + 1 + 1 + 1 + 1, 0, none⟩ = some (.int .i64 0) := (blk_cell hb3 0).trans rfl
    have f1 := blk_frozen hb1 0
    have f2 := blk_frozen hb1 1
    have f3 := blk_frozen hb2 0
    have f4 := blk_frozen hb3 0
    have HB1 := Aside0.mk hb1
    have HB2 := Aside0.mk hb2
    have HB3 := Aside0.mk hb3
    have HBw := Aside0.mk hBw
    have HRv := Aside0.mk (HRV.out.trans (vicV_none HMs.out hI.1))
    have HK := Aside0.mk hK
    clear hb1 hb2 hb3 hBw HRV hI hK
    by_cases h0 : s = []
    · subst h0
      have hl0 : ¬ ((([] : List Int).length : Int) > 0) := by simp
      go_wp2
      exact victim_leaves _ rfl rfl rfl (vOut_put HBw.out HB1.out HB2.out HB3.out 0 0 0 false) (Nat.le_trans hsz4 hD) ((vKeeps (by have := (Array.getElem?_eq_some_iff.1 HS4.out.2.2.2.2).1; omega) _ _ _ _).same D _ hD HK.out rfl) HRv.out
    · have hl0 : ((s.length : Int) > 0) := by have := List.length_pos_iff.2 h0; omega
      go_wp2
      exact victim_leaves _ rfl rfl rfl (vOut_put HBw.out HB1.out HB2.out HB3.out 0 0 230 false) (Nat.le_trans hsz4 hD) ((vKeeps (by have := (Array.getElem?_eq_some_iff.1 HS4.out.2.2.2.2).1; omega) _ _ _ _).same D _ hD HK.out rfl) (by rw [HRv.out, if_neg h0])
  case stop =>
    rintro D c0' pre W hD ⟨m, hm, hpre⟩ ⟨rfl, pre0, x, hp, hall, hx, ho⟩ hK
    have HRv := Aside0.mk (HRV.out.trans (vicV_some HMs.out hm (hp.symm.trans hpre) hall hx))
    have HK := Aside0.mk hK
    have HO := Aside0.mk ho
    clear HRV ho hK
    gi_wp2
    exact victim_leaves _ rfl rfl rfl HO.out (Nat.le_trans hsz4 hD) HK.out HRv.out
end Go.Proofs.Ytccngacadolgfaa.P
