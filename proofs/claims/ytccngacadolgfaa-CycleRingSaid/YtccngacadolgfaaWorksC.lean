/- clepsydralaw23.works: the chapter's examples hold. No condition. -/
import Derived.Test.YtccngacadolgfaaVictim
import Derived.Test.YtccngacadolgfaaOrderC
import Derived.Test.YtccngacadolgfaaQ2
set_option linter.unusedVariables false
set_option linter.unusedSimpArgs false
namespace Go.Proofs.Ytccngacadolgfaa.P
open Go.RowKit Go.Proofs.YtccngacadolgfaaW.PrintWords Go.Proofs.YtccngacadolgfaaW.PrintLast Go.Proofs.YtccngacadolgfaaW.PrintMore

/-- A block that holds a row's cells reads as the row. -/
theorem C_block {α : Type} {d : Kd α} {w : World} {b : Nat} {t : TypeId} (hd : 0 < d.sz) (ps : List (α × List Value)) (cs : Array Value) (hcs : cs.toList = ps.flatMap Prod.snd) (hl : ∀ p ∈ ps, p.2.length = d.sz) (hK : ∀ p ∈ ps, d.K w p.1 p.2) (hb : w.heap[b]? = some (.cells cs t (0, 0))) (hn : ps.length ≤ 1000000) : Kd.C d w (some ⟨b, 0, none⟩) (ps.map Prod.fst).length (ps.map Prod.fst) := by
  refine ⟨rfl, by simp; omega, fun _ => ⟨_, rfl, fun j p hp => ?_⟩⟩
  rw [List.getElem?_map] at hp
  obtain ⟨q, hq, rfl⟩ := Option.map_eq_some_iff.1 hp
  have hqm := List.mem_of_getElem? hq
  refine ⟨q.2, hl q hqm, hK q hqm, fun i u hu => ?_⟩
  have key : ∀ (l : List (α × List Value)) (j : Nat), (∀ p ∈ l, p.2.length = d.sz) → l[j]? = some q → (l.flatMap Prod.snd)[j * d.sz + i]? = some u := by
    intro l
    induction l with
    | nil => intro j _ h; simp at h
    | cons a l ih =>
      intro j hl h
      rw [List.flatMap_cons]
      cases j with
      | zero =>
        simp at h
        subst h
        rw [Nat.zero_mul, Nat.zero_add, List.getElem?_append_left (List.getElem?_eq_some_iff.1 hu).1]
        exact hu
      | succ j =>
        rw [List.getElem?_append_right (by rw [hl a (by simp), Nat.succ_mul]; omega), hl a (by simp), Nat.succ_mul, show j * d.sz + d.sz + i - d.sz = j * d.sz + i by omega]
        exact ih j (fun p hp => hl p (by simp [hp])) (by simpa using h)
  have h2 := key ps j hl hq
  rw [← hcs, Array.getElem?_toList] at h2
  have : (⟨b, 0, none⟩ : Addr).add (j * d.sz + i) = ⟨b, j * d.sz + i, none⟩ := by unfold Addr.add; split <;> simp_all
  rw [this, blk_cell hb]
  exact h2
theorem C_int1 {w : World} {b : Nat} {t : TypeId} (x : Int) (hb : w.heap[b]? = some (.cells #[.int .i64 x] t (0, 0))) : Kd.C (Kd.int .i64) w (some ⟨b, 0, none⟩) 1 [x] :=
  C_block (by decide) [(x, [.int .i64 x])] _ rfl (by simp; rfl) (by intro p hp; rw [List.mem_singleton.1 hp]; rfl) hb (by simp)
theorem C_int2 (x y : Int) (w : World) (t : TypeId) : Kd.C (Kd.int .i64) (w.alloc (.cells #[.int .i64 x, .int .i64 y] t)) (some ⟨w.heap.size, 0, none⟩) 2 [x, y] :=
  C_block (by decide) [(x, [.int .i64 x]), (y, [.int .i64 y])] _ rfl (by intro p hp; simp only [List.mem_cons, List.not_mem_nil, or_false] at hp; rcases hp with rfl | rfl <;> rfl) (by intro p hp; simp only [List.mem_cons, List.not_mem_nil, or_false] at hp; rcases hp with rfl | rfl <;> rfl) (blk_new _ _) (by simp)
theorem drawn0_below {w w' : World} (h : Drawn0 w w') : Below w.heap.size w w' := by
  obtain ⟨n, rfl⟩ := h
  exact pw_below_drewN (Below.refl _ _) n
theorem C_empty {α : Type} (d : Kd α) (w : World) (A : Option Addr) : Kd.C d w A 0 [] := ⟨rfl, by omega, fun h => absurd h (Nat.lt_irrefl 0)⟩
theorem K_row {w : World} {A : Option Addr} {c : Nat} {row : List Int} (h : Kd.C (Kd.int .i64) w A row.length row) (hc : row.length ≤ c) : (Kd.slice 3 (Kd.int .i64)).K w row [.slice A row.length c] := ⟨A, c, rfl, hc, h⟩
theorem same012 : clepsydrakit_SameInts.f 20 [0, 1, 2] [0, 1, 2] = some true := by kernel_rfl
theorem same01 : clepsydrakit_SameInts.f 20 [0, 1] [0, 1] = some true := by kernel_rfl
theorem same10 : clepsydrakit_SameInts.f 20 [1, 0] [1, 0] = some true := by kernel_rfl
theorem worksRing : ringsF (nxF [[2], [0], [1]] [[], [], []] (List.take 64 [⟨⟨0, 1⟩, false⟩, ⟨⟨1, 1⟩, false⟩, ⟨⟨2, 1⟩, false⟩])) (List.take 64 ([⟨⟨0, 1⟩, false⟩, ⟨⟨1, 1⟩, false⟩, ⟨⟨2, 1⟩, false⟩] : List S44)).length = some [0, 1, 2] := by kernel_rfl
theorem worksOrd1 : ordF (nxF [[2], [0], [1]] [[], [], []] (List.take 64 [⟨⟨0, 1⟩, false⟩, ⟨⟨1, 1⟩, false⟩])) = [0, 1] := by kernel_rfl
theorem worksOrd2 : ordF (nxF [[2], [0], [1]] [[], [], []] (List.take 64 [⟨⟨0, 2⟩, false⟩, ⟨⟨1, 2⟩, false⟩])) = [1, 0] := by kernel_rfl

def WS (w : World) (A4 : Option Addr) (y4 : List (List Int)) (A5 : Option Addr) (y5 : List (List Int)) (B : Nat) (A3 : Option Addr) (t3 : List Int) (A6 : Option Addr) (t6 : List Int) (w' : World) : Prop := RS w none 0 0 none 0 0 none 0 0 none 0 0 none 0 0 none 0 0 none 0 0 none 0 0 A4 3 y4 A5 3 y5 none 0 [] B w' ∧ Kd.C (Kd.int .i64) w' A3 t3.length t3 ∧ Kd.C (Kd.int .i64) w' A6 t6.length t6
theorem WS.below {w : World} {A4 : Option Addr} {y4 : List (List Int)} {A5 : Option Addr} {y5 : List (List Int)} {B : Nat} {A3 : Option Addr} {t3 : List Int} {A6 : Option Addr} {t6 : List Int} {w1 w2 : World} (h : WS w A4 y4 A5 y5 B A3 t3 A6 t6 w1) (hb : Below w1.heap.size w1 w2) : WS w A4 y4 A5 y5 B A3 t3 A6 t6 w2 := ⟨h.1.below hb, Kd.C_below h.2.1 hb, Kd.C_below h.2.2 hb⟩

set_option maxRecDepth 100000 in
set_option maxHeartbeats 4000000 in
theorem works_calls (w : World) : Calls Try.prog 7 #[] w fun e w' => e = .returned (.bool true) ∧ Below w.heap.size w w' := by
  have hu24 := Try.underlying24
  go_enter Try.func7, Try.ntmps7
  go_upto_region 2 with (fail)
  obtain ⟨W1, hW1⟩ : ∃ x, x = (((((((((w.alloc (.cells #[.int .i64 2] 3)).alloc (.cells #[.int .i64 0] 3)).alloc (.cells #[.int .i64 1] 3)).alloc (.cells #[.slice (some ⟨w.heap.size, 0, none⟩) 1 1, .slice (some ⟨w.heap.size + 1, 0, none⟩) 1 1, .slice (some ⟨w.heap.size + 1 + 1, 0, none⟩) 1 1] 34)).alloc (.cells #[] 3)).alloc (.cells #[] 3)).alloc (.cells #[] 3)).alloc (.cells #[.slice (some ⟨w.heap.size + 1 + 1 + 1 + 1, 0, none⟩) 0 0, .slice (some ⟨w.heap.size + 1 + 1 + 1 + 1 + 1, 0, none⟩) 0 0, .slice (some ⟨w.heap.size + 1 + 1 + 1 + 1 + 1 + 1, 0, none⟩) 0 0] 34)).alloc (.cells #[.slice none 0 0, .slice none 0 0, .slice none 0 0, .slice none 0 0, .slice (some ⟨w.heap.size + 1 + 1 + 1, 0, none⟩) 3 3, .slice (some ⟨w.heap.size + 1 + 1 + 1 + 1 + 1 + 1 + 1, 0, none⟩) 3 3, .slice none 0 0, .slice none 0 0, .slice none 0 0, .slice none 0 0] 24)) := ⟨_, rfl⟩
  have hs : RS w none 0 0 none 0 0 none 0 0 none 0 0 none 0 0 none 0 0 none 0 0 none 0 0 (some ⟨w.heap.size + 1 + 1 + 1, 0, none⟩) 3 [[2], [0], [1]] (some ⟨w.heap.size + 1 + 1 + 1 + 1 + 1 + 1 + 1, 0, none⟩) 3 [[], [], []] none 0 [] (w.heap.size + 1 + 1 + 1 + 1 + 1 + 1 + 1 + 1) W1 := by
    rw [hW1]
    have bz := fun (x : World) (o : Obj) => below_alloc (Below.refl x.heap.size x) o
    have q0 : ((((((((((w.alloc (.cells #[.int .i64 2] 3)).alloc (.cells #[.int .i64 0] 3)).alloc (.cells #[.int .i64 1] 3)).alloc (.cells #[.slice (some ⟨w.heap.size, 0, none⟩) 1 1, .slice (some ⟨w.heap.size + 1, 0, none⟩) 1 1, .slice (some ⟨w.heap.size + 1 + 1, 0, none⟩) 1 1] 34)).alloc (.cells #[] 3)).alloc (.cells #[] 3)).alloc (.cells #[] 3)).alloc (.cells #[.slice (some ⟨w.heap.size + 1 + 1 + 1 + 1, 0, none⟩) 0 0, .slice (some ⟨w.heap.size + 1 + 1 + 1 + 1 + 1, 0, none⟩) 0 0, .slice (some ⟨w.heap.size + 1 + 1 + 1 + 1 + 1 + 1, 0, none⟩) 0 0] 34)).alloc (.cells #[.slice none 0 0, .slice none 0 0, .slice none 0 0, .slice none 0 0, .slice (some ⟨w.heap.size + 1 + 1 + 1, 0, none⟩) 3 3, .slice (some ⟨w.heap.size + 1 + 1 + 1 + 1 + 1 + 1 + 1, 0, none⟩) 3 3, .slice none 0 0, .slice none 0 0, .slice none 0 0, .slice none 0 0] 24))).heap[w.heap.size]? = some (.cells #[.int .i64 2] 3 (0, 0)) := (blk_below (blk_below (blk_below (blk_below (blk_below (blk_below (blk_below (blk_below (blk_new' _ _ _ (w.heap.size) (by simp only [World.size_alloc])) (bz _ _)) (bz _ _)) (bz _ _)) (bz _ _)) (bz _ _)) (bz _ _)) (bz _ _)) (bz _ _))
    have q1 : ((((((((((w.alloc (.cells #[.int .i64 2] 3)).alloc (.cells #[.int .i64 0] 3)).alloc (.cells #[.int .i64 1] 3)).alloc (.cells #[.slice (some ⟨w.heap.size, 0, none⟩) 1 1, .slice (some ⟨w.heap.size + 1, 0, none⟩) 1 1, .slice (some ⟨w.heap.size + 1 + 1, 0, none⟩) 1 1] 34)).alloc (.cells #[] 3)).alloc (.cells #[] 3)).alloc (.cells #[] 3)).alloc (.cells #[.slice (some ⟨w.heap.size + 1 + 1 + 1 + 1, 0, none⟩) 0 0, .slice (some ⟨w.heap.size + 1 + 1 + 1 + 1 + 1, 0, none⟩) 0 0, .slice (some ⟨w.heap.size + 1 + 1 + 1 + 1 + 1 + 1, 0, none⟩) 0 0] 34)).alloc (.cells #[.slice none 0 0, .slice none 0 0, .slice none 0 0, .slice none 0 0, .slice (some ⟨w.heap.size + 1 + 1 + 1, 0, none⟩) 3 3, .slice (some ⟨w.heap.size + 1 + 1 + 1 + 1 + 1 + 1 + 1, 0, none⟩) 3 3, .slice none 0 0, .slice none 0 0, .slice none 0 0, .slice none 0 0] 24))).heap[w.heap.size + 1]? = some (.cells #[.int .i64 0] 3 (0, 0)) := (blk_below (blk_below (blk_below (blk_below (blk_below (blk_below (blk_below (blk_new' _ _ _ (w.heap.size + 1) (by simp only [World.size_alloc])) (bz _ _)) (bz _ _)) (bz _ _)) (bz _ _)) (bz _ _)) (bz _ _)) (bz _ _))
    have q2 : ((((((((((w.alloc (.cells #[.int .i64 2] 3)).alloc (.cells #[.int .i64 0] 3)).alloc (.cells #[.int .i64 1] 3)).alloc (.cells #[.slice (some ⟨w.heap.size, 0, none⟩) 1 1, .slice (some ⟨w.heap.size + 1, 0, none⟩) 1 1, .slice (some ⟨w.heap.size + 1 + 1, 0, none⟩) 1 1] 34)).alloc (.cells #[] 3)).alloc (.cells #[] 3)).alloc (.cells #[] 3)).alloc (.cells #[.slice (some ⟨w.heap.size + 1 + 1 + 1 + 1, 0, none⟩) 0 0, .slice (some ⟨w.heap.size + 1 + 1 + 1 + 1 + 1, 0, none⟩) 0 0, .slice (some ⟨w.heap.size + 1 + 1 + 1 + 1 + 1 + 1, 0, none⟩) 0 0] 34)).alloc (.cells #[.slice none 0 0, .slice none 0 0, .slice none 0 0, .slice none 0 0, .slice (some ⟨w.heap.size + 1 + 1 + 1, 0, none⟩) 3 3, .slice (some ⟨w.heap.size + 1 + 1 + 1 + 1 + 1 + 1 + 1, 0, none⟩) 3 3, .slice none 0 0, .slice none 0 0, .slice none 0 0, .slice none 0 0] 24))).heap[w.heap.size + 1 + 1]? = some (.cells #[.int .i64 1] 3 (0, 0)) := (blk_below (blk_below (blk_below (blk_below (blk_below (blk_below (blk_new' _ _ _ (w.heap.size + 1 + 1) (by simp only [World.size_alloc])) (bz _ _)) (bz _ _)) (bz _ _)) (bz _ _)) (bz _ _)) (bz _ _))
    have q3 : ((((((((((w.alloc (.cells #[.int .i64 2] 3)).alloc (.cells #[.int .i64 0] 3)).alloc (.cells #[.int .i64 1] 3)).alloc (.cells #[.slice (some ⟨w.heap.size, 0, none⟩) 1 1, .slice (some ⟨w.heap.size + 1, 0, none⟩) 1 1, .slice (some ⟨w.heap.size + 1 + 1, 0, none⟩) 1 1] 34)).alloc (.cells #[] 3)).alloc (.cells #[] 3)).alloc (.cells #[] 3)).alloc (.cells #[.slice (some ⟨w.heap.size + 1 + 1 + 1 + 1, 0, none⟩) 0 0, .slice (some ⟨w.heap.size + 1 + 1 + 1 + 1 + 1, 0, none⟩) 0 0, .slice (some ⟨w.heap.size + 1 + 1 + 1 + 1 + 1 + 1, 0, none⟩) 0 0] 34)).alloc (.cells #[.slice none 0 0, .slice none 0 0, .slice none 0 0, .slice none 0 0, .slice (some ⟨w.heap.size + 1 + 1 + 1, 0, none⟩) 3 3, .slice (some ⟨w.heap.size + 1 + 1 + 1 + 1 + 1 + 1 + 1, 0, none⟩) 3 3, .slice none 0 0, .slice none 0 0, .slice none 0 0, .slice none 0 0] 24))).heap[w.heap.size + 1 + 1 + 1]? = some (.cells #[.slice (some ⟨w.heap.size, 0, none⟩) 1 1, .slice (some ⟨w.heap.size + 1, 0, none⟩) 1 1, .slice (some ⟨w.heap.size + 1 + 1, 0, none⟩) 1 1] 34 (0, 0)) := (blk_below (blk_below (blk_below (blk_below (blk_below (blk_new' _ _ _ (w.heap.size + 1 + 1 + 1) (by simp only [World.size_alloc])) (bz _ _)) (bz _ _)) (bz _ _)) (bz _ _)) (bz _ _))
    have q4 : ((((((((((w.alloc (.cells #[.int .i64 2] 3)).alloc (.cells #[.int .i64 0] 3)).alloc (.cells #[.int .i64 1] 3)).alloc (.cells #[.slice (some ⟨w.heap.size, 0, none⟩) 1 1, .slice (some ⟨w.heap.size + 1, 0, none⟩) 1 1, .slice (some ⟨w.heap.size + 1 + 1, 0, none⟩) 1 1] 34)).alloc (.cells #[] 3)).alloc (.cells #[] 3)).alloc (.cells #[] 3)).alloc (.cells #[.slice (some ⟨w.heap.size + 1 + 1 + 1 + 1, 0, none⟩) 0 0, .slice (some ⟨w.heap.size + 1 + 1 + 1 + 1 + 1, 0, none⟩) 0 0, .slice (some ⟨w.heap.size + 1 + 1 + 1 + 1 + 1 + 1, 0, none⟩) 0 0] 34)).alloc (.cells #[.slice none 0 0, .slice none 0 0, .slice none 0 0, .slice none 0 0, .slice (some ⟨w.heap.size + 1 + 1 + 1, 0, none⟩) 3 3, .slice (some ⟨w.heap.size + 1 + 1 + 1 + 1 + 1 + 1 + 1, 0, none⟩) 3 3, .slice none 0 0, .slice none 0 0, .slice none 0 0, .slice none 0 0] 24))).heap[w.heap.size + 1 + 1 + 1 + 1]? = some (.cells #[] 3 (0, 0)) := (blk_below (blk_below (blk_below (blk_below (blk_new' _ _ _ (w.heap.size + 1 + 1 + 1 + 1) (by simp only [World.size_alloc])) (bz _ _)) (bz _ _)) (bz _ _)) (bz _ _))
    have q5 : ((((((((((w.alloc (.cells #[.int .i64 2] 3)).alloc (.cells #[.int .i64 0] 3)).alloc (.cells #[.int .i64 1] 3)).alloc (.cells #[.slice (some ⟨w.heap.size, 0, none⟩) 1 1, .slice (some ⟨w.heap.size + 1, 0, none⟩) 1 1, .slice (some ⟨w.heap.size + 1 + 1, 0, none⟩) 1 1] 34)).alloc (.cells #[] 3)).alloc (.cells #[] 3)).alloc (.cells #[] 3)).alloc (.cells #[.slice (some ⟨w.heap.size + 1 + 1 + 1 + 1, 0, none⟩) 0 0, .slice (some ⟨w.heap.size + 1 + 1 + 1 + 1 + 1, 0, none⟩) 0 0, .slice (some ⟨w.heap.size + 1 + 1 + 1 + 1 + 1 + 1, 0, none⟩) 0 0] 34)).alloc (.cells #[.slice none 0 0, .slice none 0 0, .slice none 0 0, .slice none 0 0, .slice (some ⟨w.heap.size + 1 + 1 + 1, 0, none⟩) 3 3, .slice (some ⟨w.heap.size + 1 + 1 + 1 + 1 + 1 + 1 + 1, 0, none⟩) 3 3, .slice none 0 0, .slice none 0 0, .slice none 0 0, .slice none 0 0] 24))).heap[w.heap.size + 1 + 1 + 1 + 1 + 1]? = some (.cells #[] 3 (0, 0)) := (blk_below (blk_below (blk_below (blk_new' _ _ _ (w.heap.size + 1 + 1 + 1 + 1 + 1) (by simp only [World.size_alloc])) (bz _ _)) (bz _ _)) (bz _ _))
    have q6 : ((((((((((w.alloc (.cells #[.int .i64 2] 3)).alloc (.cells #[.int .i64 0] 3)).alloc (.cells #[.int .i64 1] 3)).alloc (.cells #[.slice (some ⟨w.heap.size, 0, none⟩) 1 1, .slice (some ⟨w.heap.size + 1, 0, none⟩) 1 1, .slice (some ⟨w.heap.size + 1 + 1, 0, none⟩) 1 1] 34)).alloc (.cells #[] 3)).alloc (.cells #[] 3)).alloc (.cells #[] 3)).alloc (.cells #[.slice (some ⟨w.heap.size + 1 + 1 + 1 + 1, 0, none⟩) 0 0, .slice (some ⟨w.heap.size + 1 + 1 + 1 + 1 + 1, 0, none⟩) 0 0, .slice (some ⟨w.heap.size + 1 + 1 + 1 + 1 + 1 + 1, 0, none⟩) 0 0] 34)).alloc (.cells #[.slice none 0 0, .slice none 0 0, .slice none 0 0, .slice none 0 0, .slice (some ⟨w.heap.size + 1 + 1 + 1, 0, none⟩) 3 3, .slice (some ⟨w.heap.size + 1 + 1 + 1 + 1 + 1 + 1 + 1, 0, none⟩) 3 3, .slice none 0 0, .slice none 0 0, .slice none 0 0, .slice none 0 0] 24))).heap[w.heap.size + 1 + 1 + 1 + 1 + 1 + 1]? = some (.cells #[] 3 (0, 0)) := (blk_below (blk_below (blk_new' _ _ _ (w.heap.size + 1 + 1 + 1 + 1 + 1 + 1) (by simp only [World.size_alloc])) (bz _ _)) (bz _ _))
    have q7 : ((((((((((w.alloc (.cells #[.int .i64 2] 3)).alloc (.cells #[.int .i64 0] 3)).alloc (.cells #[.int .i64 1] 3)).alloc (.cells #[.slice (some ⟨w.heap.size, 0, none⟩) 1 1, .slice (some ⟨w.heap.size + 1, 0, none⟩) 1 1, .slice (some ⟨w.heap.size + 1 + 1, 0, none⟩) 1 1] 34)).alloc (.cells #[] 3)).alloc (.cells #[] 3)).alloc (.cells #[] 3)).alloc (.cells #[.slice (some ⟨w.heap.size + 1 + 1 + 1 + 1, 0, none⟩) 0 0, .slice (some ⟨w.heap.size + 1 + 1 + 1 + 1 + 1, 0, none⟩) 0 0, .slice (some ⟨w.heap.size + 1 + 1 + 1 + 1 + 1 + 1, 0, none⟩) 0 0] 34)).alloc (.cells #[.slice none 0 0, .slice none 0 0, .slice none 0 0, .slice none 0 0, .slice (some ⟨w.heap.size + 1 + 1 + 1, 0, none⟩) 3 3, .slice (some ⟨w.heap.size + 1 + 1 + 1 + 1 + 1 + 1 + 1, 0, none⟩) 3 3, .slice none 0 0, .slice none 0 0, .slice none 0 0, .slice none 0 0] 24))).heap[w.heap.size + 1 + 1 + 1 + 1 + 1 + 1 + 1]? = some (.cells #[.slice (some ⟨w.heap.size + 1 + 1 + 1 + 1, 0, none⟩) 0 0, .slice (some ⟨w.heap.size + 1 + 1 + 1 + 1 + 1, 0, none⟩) 0 0, .slice (some ⟨w.heap.size + 1 + 1 + 1 + 1 + 1 + 1, 0, none⟩) 0 0] 34 (0, 0)) := (blk_below (blk_new' _ _ _ (w.heap.size + 1 + 1 + 1 + 1 + 1 + 1 + 1) (by simp only [World.size_alloc])) (bz _ _))
    have q8 : ((((((((((w.alloc (.cells #[.int .i64 2] 3)).alloc (.cells #[.int .i64 0] 3)).alloc (.cells #[.int .i64 1] 3)).alloc (.cells #[.slice (some ⟨w.heap.size, 0, none⟩) 1 1, .slice (some ⟨w.heap.size + 1, 0, none⟩) 1 1, .slice (some ⟨w.heap.size + 1 + 1, 0, none⟩) 1 1] 34)).alloc (.cells #[] 3)).alloc (.cells #[] 3)).alloc (.cells #[] 3)).alloc (.cells #[.slice (some ⟨w.heap.size + 1 + 1 + 1 + 1, 0, none⟩) 0 0, .slice (some ⟨w.heap.size + 1 + 1 + 1 + 1 + 1, 0, none⟩) 0 0, .slice (some ⟨w.heap.size + 1 + 1 + 1 + 1 + 1 + 1, 0, none⟩) 0 0] 34)).alloc (.cells #[.slice none 0 0, .slice none 0 0, .slice none 0 0, .slice none 0 0, .slice (some ⟨w.heap.size + 1 + 1 + 1, 0, none⟩) 3 3, .slice (some ⟨w.heap.size + 1 + 1 + 1 + 1 + 1 + 1 + 1, 0, none⟩) 3 3, .slice none 0 0, .slice none 0 0, .slice none 0 0, .slice none 0 0] 24))).heap[w.heap.size + 1 + 1 + 1 + 1 + 1 + 1 + 1 + 1]? = some (.cells #[.slice none 0 0, .slice none 0 0, .slice none 0 0, .slice none 0 0, .slice (some ⟨w.heap.size + 1 + 1 + 1, 0, none⟩) 3 3, .slice (some ⟨w.heap.size + 1 + 1 + 1 + 1 + 1 + 1 + 1, 0, none⟩) 3 3, .slice none 0 0, .slice none 0 0, .slice none 0 0, .slice none 0 0] 24 (0, 0)) := (blk_new' _ _ _ (w.heap.size + 1 + 1 + 1 + 1 + 1 + 1 + 1 + 1) (by simp only [World.size_alloc]))
    have hB : Below w.heap.size w (((((((((w.alloc (.cells #[.int .i64 2] 3)).alloc (.cells #[.int .i64 0] 3)).alloc (.cells #[.int .i64 1] 3)).alloc (.cells #[.slice (some ⟨w.heap.size, 0, none⟩) 1 1, .slice (some ⟨w.heap.size + 1, 0, none⟩) 1 1, .slice (some ⟨w.heap.size + 1 + 1, 0, none⟩) 1 1] 34)).alloc (.cells #[] 3)).alloc (.cells #[] 3)).alloc (.cells #[] 3)).alloc (.cells #[.slice (some ⟨w.heap.size + 1 + 1 + 1 + 1, 0, none⟩) 0 0, .slice (some ⟨w.heap.size + 1 + 1 + 1 + 1 + 1, 0, none⟩) 0 0, .slice (some ⟨w.heap.size + 1 + 1 + 1 + 1 + 1 + 1, 0, none⟩) 0 0] 34)).alloc (.cells #[.slice none 0 0, .slice none 0 0, .slice none 0 0, .slice none 0 0, .slice (some ⟨w.heap.size + 1 + 1 + 1, 0, none⟩) 3 3, .slice (some ⟨w.heap.size + 1 + 1 + 1 + 1 + 1 + 1 + 1, 0, none⟩) 3 3, .slice none 0 0, .slice none 0 0, .slice none 0 0, .slice none 0 0] 24)) := below_alloc (below_alloc (below_alloc (below_alloc (below_alloc (below_alloc (below_alloc (below_alloc (below_alloc (Below.refl _ _) _) _) _) _) _) _) _) _) _
    generalize (((((((((w.alloc (.cells #[.int .i64 2] 3)).alloc (.cells #[.int .i64 0] 3)).alloc (.cells #[.int .i64 1] 3)).alloc (.cells #[.slice (some ⟨w.heap.size, 0, none⟩) 1 1, .slice (some ⟨w.heap.size + 1, 0, none⟩) 1 1, .slice (some ⟨w.heap.size + 1 + 1, 0, none⟩) 1 1] 34)).alloc (.cells #[] 3)).alloc (.cells #[] 3)).alloc (.cells #[] 3)).alloc (.cells #[.slice (some ⟨w.heap.size + 1 + 1 + 1 + 1, 0, none⟩) 0 0, .slice (some ⟨w.heap.size + 1 + 1 + 1 + 1 + 1, 0, none⟩) 0 0, .slice (some ⟨w.heap.size + 1 + 1 + 1 + 1 + 1 + 1, 0, none⟩) 0 0] 34)).alloc (.cells #[.slice none 0 0, .slice none 0 0, .slice none 0 0, .slice none 0 0, .slice (some ⟨w.heap.size + 1 + 1 + 1, 0, none⟩) 3 3, .slice (some ⟨w.heap.size + 1 + 1 + 1 + 1 + 1 + 1 + 1, 0, none⟩) 3 3, .slice none 0 0, .slice none 0 0, .slice none 0 0, .slice none 0 0] 24)) = X at *
    refine ⟨(blk_cell q8 0).trans rfl, (blk_cell q8 1).trans rfl, (blk_cell q8 2).trans rfl, (blk_cell q8 3).trans rfl, (blk_cell q8 4).trans rfl, (blk_cell q8 5).trans rfl, (blk_cell q8 6).trans rfl, (blk_cell q8 7).trans rfl, (blk_cell q8 8).trans rfl, (blk_cell q8 9).trans rfl, ⟨?_, by decide, ?_, by decide, ?_, ?_⟩, C_empty _ _ _, hB⟩
    · exact C_block (by decide) [([2], [.slice (some ⟨w.heap.size, 0, none⟩) 1 1]), ([0], [.slice (some ⟨w.heap.size + 1, 0, none⟩) 1 1]), ([1], [.slice (some ⟨w.heap.size + 1 + 1, 0, none⟩) 1 1])] _ rfl (by intro p hp; simp only [List.mem_cons, List.not_mem_nil, or_false] at hp; rcases hp with rfl | rfl | rfl <;> rfl) (by intro p hp; simp only [List.mem_cons, List.not_mem_nil, or_false] at hp; rcases hp with rfl | rfl | rfl; exact K_row (C_int1 2 q0) (Nat.le_refl _); exact K_row (C_int1 0 q1) (Nat.le_refl _); exact K_row (C_int1 1 q2) (Nat.le_refl _)) q3 (by simp)
    · exact C_block (by decide) [([], [.slice (some ⟨w.heap.size + 1 + 1 + 1 + 1, 0, none⟩) 0 0]), ([], [.slice (some ⟨w.heap.size + 1 + 1 + 1 + 1 + 1, 0, none⟩) 0 0]), ([], [.slice (some ⟨w.heap.size + 1 + 1 + 1 + 1 + 1 + 1, 0, none⟩) 0 0])] _ rfl (by intro p hp; simp only [List.mem_cons, List.not_mem_nil, or_false] at hp; rcases hp with rfl | rfl | rfl <;> rfl) (by intro p hp; simp only [List.mem_cons, List.not_mem_nil, or_false] at hp; rcases hp with rfl | rfl | rfl <;> exact K_row (C_empty _ _ _) (Nat.le_refl _)) q7 (by simp)
    · intro i
      unfold rd_L1
      rw [List.getD_eq_getElem?_getD]
      rcases i.toNat with _ | _ | _ | n <;> simp
    · intro i
      unfold rd_L1
      rw [List.getD_eq_getElem?_getD]
      rcases i.toNat with _ | _ | _ | n <;> simp
  rw [← hW1]
  clear hW1
  obtain ⟨y4, hy4⟩ : ∃ y, y = ([[2], [0], [1]] : List (List Int)) := ⟨_, rfl⟩
  obtain ⟨y5, hy5⟩ : ∃ y, y = ([[], [], []] : List (List Int)) := ⟨_, rfl⟩
  obtain ⟨A4, hA4⟩ : ∃ y, y = (some ⟨w.heap.size + 1 + 1 + 1, 0, none⟩ : Option Addr) := ⟨_, rfl⟩
  obtain ⟨A5, hA5⟩ : ∃ y, y = (some ⟨w.heap.size + 1 + 1 + 1 + 1 + 1 + 1 + 1, 0, none⟩ : Option Addr) := ⟨_, rfl⟩
  obtain ⟨B, hB⟩ : ∃ y, y = w.heap.size + 1 + 1 + 1 + 1 + 1 + 1 + 1 + 1 := ⟨_, rfl⟩
  rw [← hy4, ← hy5, ← hA4, ← hA5, ← hB] at hs
  rw [← hB]
  have HY4 := Aside0.mk hy4
  have HY5 := Aside0.mk hy5
  clear hy4 hy5 hA4 hA5 hB
  replace hs : WS w A4 y4 A5 y5 B none [] none [] W1 := ⟨hs, C_empty _ _ _, C_empty _ _ _⟩
  refine start_ (n := 7) (S := fun w' => WS w A4 y4 A5 y5 B none [] none [] w') (ds := []) #[false, false, false, false, false, false, false] (by kernel_rfl) rfl rfl (hs.below (below_drew (Below.refl _ _))) (fun hHeld => ?_)
  refine take_ (i := 0) (N := (some 14)) (v := ?_) (a' := ?_) #[true, false, false, false, false, false, false] rfl rfl (by kernel_rfl) (fun _ _ _ h => h) (Or.inl ⟨by rfl, ?_⟩) hHeld ?_ ?_
  rotate_left
  · rintro w' ⟨⟨s0, s1, s2, s3, s4, s5, s6, s7, s8, s9, _, _, _⟩, _, _⟩
    go_simp
    with_reducible rfl
  rotate_left
  · simp only [Act.put, List.setIfInBounds_toArray, List.set_cons_zero, List.set_cons_succ, i64_w, i32_w]
    rfl
  refine one_ (i := 1) (N := (some 15)) #[true, true, false, false, false, false, false] rfl rfl (by kernel_rfl) (by decide) (fun K hK => ?_)
  refine goes_ Try.func18 (by kernel_rfl) rfl #[.int .i64 0, .int .u8 1] (by rfl) rfl rfl (by (try simp only [List.map_toArray, List.map_cons, List.map_nil]); first | done | rfl) ?_
  refine (clepsydralaw23_one.calls 0 1 0 1 false _ rfl).mono ?_
  rintro e w' ⟨rfl, hb1⟩
  refine ⟨_, rfl, ?_⟩
  refine hK.out _ _ (hHeld.below hb1) (fun hHeld => ?_)
  clear hK K
  try (refine norm_ (a' := ?_) ?_ ?_; rotate_left; (first | (show Act.put _ _ _ = _; simp only [Act.put, List.setIfInBounds_toArray, List.set_cons_zero, List.set_cons_succ, i64_w, i32_w]; rfl) | rfl))
  refine one_ (i := 2) (N := (some 16)) #[true, true, true, false, false, false, false] rfl rfl (by kernel_rfl) (by decide) (fun K hK => ?_)
  refine goes_ Try.func18 (by kernel_rfl) rfl #[.int .i64 1, .int .u8 1] (by rfl) rfl rfl (by (try simp only [List.map_toArray, List.map_cons, List.map_nil]); first | done | rfl) ?_
  refine (clepsydralaw23_one.calls 1 1 1 1 false _ rfl).mono ?_
  rintro e w' ⟨rfl, hb1⟩
  refine ⟨_, rfl, ?_⟩
  refine hK.out _ _ (hHeld.below hb1) (fun hHeld => ?_)
  clear hK K
  try (refine norm_ (a' := ?_) ?_ ?_; rotate_left; (first | (show Act.put _ _ _ = _; simp only [Act.put, List.setIfInBounds_toArray, List.set_cons_zero, List.set_cons_succ, i64_w, i32_w]; rfl) | rfl))
  refine one_ (i := 3) (N := (some 17)) #[true, true, true, true, false, false, false] rfl rfl (by kernel_rfl) (by decide) (fun K hK => ?_)
  refine goes_ Try.func18 (by kernel_rfl) rfl #[.int .i64 2, .int .u8 1] (by rfl) rfl rfl (by (try simp only [List.map_toArray, List.map_cons, List.map_nil]); first | done | rfl) ?_
  refine (clepsydralaw23_one.calls 2 1 2 1 false _ rfl).mono ?_
  rintro e w' ⟨rfl, hb1⟩
  refine ⟨_, rfl, ?_⟩
  refine hK.out _ _ (hHeld.below hb1) (fun hHeld => ?_)
  clear hK K
  try (refine norm_ (a' := ?_) ?_ ?_; rotate_left; (first | (show Act.put _ _ _ = _; simp only [Act.put, List.setIfInBounds_toArray, List.set_cons_zero, List.set_cons_succ, i64_w, i32_w]; rfl) | rfl))
  refine one_ (i := 4) (N := (some 18)) #[true, true, true, true, true, false, false] rfl rfl (by kernel_rfl) (by decide) (fun K hK => ?_)
  refine Kd.R_lit_step k44 _ 44 ?hg (N := 18) ?hd (xs := ([⟨⟨0, 1⟩, false⟩, ⟨⟨1, 1⟩, false⟩, ⟨⟨2, 1⟩, false⟩] : List S44)) (inner := [.int .i64 0, .int .u8 1, .bool false, .int .i64 1, .int .u8 1, .bool false, .int .i64 2, .int .u8 1, .bool false]) (ok := fun _ => True) (okp := fun _ => True) ?hr ?hp (fun _ hk => hk) trivial (Below.refl _ _) (Nat.le_refl _) (by simp) ?_
  case hd => rfl
  case hg => rfl
  case hr => first | (go_simp; done) | (go_simp; rfl)
  case hp => exact (Reps.c3 (show Kd.M k44 _ _ _ (⟨⟨0, 1⟩, false⟩ : S44) [.int .i64 0, .int .u8 1, .bool false] from (k44_mkM _ _ _ (⟨⟨0, 1⟩, false⟩ : S44))) (Reps.c3 (show Kd.M k44 _ _ _ (⟨⟨1, 1⟩, false⟩ : S44) [.int .i64 1, .int .u8 1, .bool false] from (k44_mkM _ _ _ (⟨⟨1, 1⟩, false⟩ : S44))) (Reps.c3 (show Kd.M k44 _ _ _ (⟨⟨2, 1⟩, false⟩ : S44) [.int .i64 2, .int .u8 1, .bool false] from (k44_mkM _ _ _ (⟨⟨2, 1⟩, false⟩ : S44))) (Reps.none _ _))))
  intro vq wq hoq hbq _ _
  obtain ⟨xs, hxs⟩ : ∃ xs, xs = ([⟨⟨0, 1⟩, false⟩, ⟨⟨1, 1⟩, false⟩, ⟨⟨2, 1⟩, false⟩] : List S44) := ⟨_, rfl⟩
  rw [← hxs] at hoq
  obtain ⟨Aq, cq, rfl⟩ := Kd.R_slice hoq
  have hrd := (Kd.R_reads' hoq).2
  refine hK.out _ _ (hHeld.below hbq) (fun hHeld => ?_)
  clear hK K
  refine norm_ (a' := ?_) ?_ ?_
  rotate_left
  · show Act.put _ (some 18) _ = _
    simp only [Act.put, List.setIfInBounds_toArray, List.set_cons_zero, List.set_cons_succ, i64_w, i32_w]
    rfl
  try (refine norm_ (a' := ?_) ?_ ?_; rotate_left; (first | (show Act.put _ _ _ = _; simp only [Act.put, List.setIfInBounds_toArray, List.set_cons_zero, List.set_cons_succ, i64_w, i32_w]; rfl) | rfl))
  refine one_ (i := 5) (N := (some 19)) #[true, true, true, true, true, true, false] rfl rfl (by kernel_rfl) (by decide) (fun K hK => ?_)
  refine goes_ Try.func10 (by kernel_rfl) rfl #[.agg #[.slice none 0 0, .slice none 0 0, .slice none 0 0, .slice none 0 0, .slice A4 y4.length 3, .slice A5 y5.length 3, .slice none 0 0, .slice none 0 0, .slice none 0 0, .slice none 0 0], .slice Aq xs.length cq] (by rfl) rfl rfl (by (try simp only [List.map_toArray, List.map_cons, List.map_nil]); first | done | rfl) ?_
  refine (ringC_calls _ A4 3 y4 A5 3 y5 Aq cq xs _ ⟨_, _, _, _, _, _, _, _, _, _, _, _, _, _, _, _, _, _, _, _, _, _, _, _, rfl⟩ hHeld.1.2.2.2.2.2.2.2.2.2.2.1 hrd.2 hrd.1 (by rw [hxs]; decide) [0, 1, 2] (by rw [hxs, HY4.out, HY5.out]; exact worksRing)).mono ?_
  rintro e w3 ⟨v3, rfl, ho3, hb3⟩
  skip
  refine ⟨_, rfl, ?_⟩
  refine hK.out _ _ (hHeld.below hb3) (fun hHeld => ?_)
  clear hK K
  try (refine norm_ (a' := ?_) ?_ ?_; rotate_left; (first | (show Act.put _ _ _ = _; simp only [Act.put, List.setIfInBounds_toArray, List.set_cons_zero, List.set_cons_succ, i64_w, i32_w]; rfl) | rfl))
  refine pure_ (i := 6) (N := (some 2)) (v := ?_) (a' := ?_) #[true, true, true, true, true, true, true] rfl rfl (by kernel_rfl) (fun _ _ _ h => h) (Or.inl ⟨by rfl, ?_⟩) ?_ ?_
  rotate_left
  · intro w'
    go_simp
    with_reducible rfl
  rotate_left
  · simp only [Act.put, List.setIfInBounds_toArray, List.set_cons_zero, List.set_cons_succ, i64_w, i32_w]
    rfl
  refine done_ (by kernel_rfl) ?_
  obtain ⟨t3, ht3⟩ : ∃ t, t = ([0, 1, 2] : List Int) := ⟨_, rfl⟩
  rw [← ht3] at ho3
  have HT3 := Aside0.mk ht3
  obtain ⟨A3, c3, rfl⟩ := Kd.R_slice ho3
  have hrd3 := (Kd.R_reads' ho3).2
  have hl3 := hrd3.1
  have hs : WS w A4 y4 A5 y5 B A3 t3 none [] w3 := ⟨hHeld.1, hrd3.2, C_empty _ _ _⟩
  clear ht3 ho3 hrd3
  go_upto_region 3 with (fail)
  refine start_ (n := 6) (S := fun w' => WS w A4 y4 A5 y5 B A3 t3 none [] w') (ds := []) #[false, false, false, false, false, false] (by kernel_rfl) rfl rfl (hs.below (below_drew (Below.refl _ _))) (fun hHeld => ?_)
  refine take_ (i := 0) (N := (some 20)) (v := ?_) (a' := ?_) #[true, false, false, false, false, false] rfl rfl (by kernel_rfl) (fun _ _ _ h => h) (Or.inl ⟨by rfl, ?_⟩) hHeld ?_ ?_
  rotate_left
  · rintro w' ⟨⟨s0, s1, s2, s3, s4, s5, s6, s7, s8, s9, _, _, _⟩, _, _⟩
    go_simp
    with_reducible rfl
  rotate_left
  · simp only [Act.put, List.setIfInBounds_toArray, List.set_cons_zero, List.set_cons_succ, i64_w, i32_w]
    rfl
  refine one_ (i := 1) (N := (some 21)) #[true, true, false, false, false, false] rfl rfl (by kernel_rfl) (by decide) (fun K hK => ?_)
  refine goes_ Try.func18 (by kernel_rfl) rfl #[.int .i64 0, .int .u8 1] (by rfl) rfl rfl (by (try simp only [List.map_toArray, List.map_cons, List.map_nil]); first | done | rfl) ?_
  refine (clepsydralaw23_one.calls 0 1 0 1 false _ rfl).mono ?_
  rintro e w' ⟨rfl, hb1⟩
  refine ⟨_, rfl, ?_⟩
  refine hK.out _ _ (hHeld.below hb1) (fun hHeld => ?_)
  clear hK K
  try (refine norm_ (a' := ?_) ?_ ?_; rotate_left; (first | (show Act.put _ _ _ = _; simp only [Act.put, List.setIfInBounds_toArray, List.set_cons_zero, List.set_cons_succ, i64_w, i32_w]; rfl) | rfl))
  refine one_ (i := 2) (N := (some 22)) #[true, true, true, false, false, false] rfl rfl (by kernel_rfl) (by decide) (fun K hK => ?_)
  refine goes_ Try.func18 (by kernel_rfl) rfl #[.int .i64 1, .int .u8 1] (by rfl) rfl rfl (by (try simp only [List.map_toArray, List.map_cons, List.map_nil]); first | done | rfl) ?_
  refine (clepsydralaw23_one.calls 1 1 1 1 false _ rfl).mono ?_
  rintro e w' ⟨rfl, hb1⟩
  refine ⟨_, rfl, ?_⟩
  refine hK.out _ _ (hHeld.below hb1) (fun hHeld => ?_)
  clear hK K
  try (refine norm_ (a' := ?_) ?_ ?_; rotate_left; (first | (show Act.put _ _ _ = _; simp only [Act.put, List.setIfInBounds_toArray, List.set_cons_zero, List.set_cons_succ, i64_w, i32_w]; rfl) | rfl))
  refine one_ (i := 3) (N := (some 23)) #[true, true, true, true, false, false] rfl rfl (by kernel_rfl) (by decide) (fun K hK => ?_)
  refine Kd.R_lit_step k44 _ 44 ?hg (N := 23) ?hd (xs := ([⟨⟨0, 1⟩, false⟩, ⟨⟨1, 1⟩, false⟩] : List S44)) (inner := [.int .i64 0, .int .u8 1, .bool false, .int .i64 1, .int .u8 1, .bool false]) (ok := fun _ => True) (okp := fun _ => True) ?hr ?hp (fun _ hk => hk) trivial (Below.refl _ _) (Nat.le_refl _) (by simp) ?_
  case hd => rfl
  case hg => rfl
  case hr => first | (go_simp; done) | (go_simp; rfl)
  case hp => exact (Reps.c3 (show Kd.M k44 _ _ _ (⟨⟨0, 1⟩, false⟩ : S44) [.int .i64 0, .int .u8 1, .bool false] from (k44_mkM _ _ _ (⟨⟨0, 1⟩, false⟩ : S44))) (Reps.c3 (show Kd.M k44 _ _ _ (⟨⟨1, 1⟩, false⟩ : S44) [.int .i64 1, .int .u8 1, .bool false] from (k44_mkM _ _ _ (⟨⟨1, 1⟩, false⟩ : S44))) (Reps.none _ _)))
  intro vq wq hoq hbq _ _
  obtain ⟨xs, hxs⟩ : ∃ xs, xs = ([⟨⟨0, 1⟩, false⟩, ⟨⟨1, 1⟩, false⟩] : List S44) := ⟨_, rfl⟩
  rw [← hxs] at hoq
  obtain ⟨Aq, cq, rfl⟩ := Kd.R_slice hoq
  have hrd := (Kd.R_reads' hoq).2
  refine hK.out _ _ (hHeld.below hbq) (fun hHeld => ?_)
  clear hK K
  refine norm_ (a' := ?_) ?_ ?_
  rotate_left
  · show Act.put _ (some 23) _ = _
    simp only [Act.put, List.setIfInBounds_toArray, List.set_cons_zero, List.set_cons_succ, i64_w, i32_w]
    rfl
  try (refine norm_ (a' := ?_) ?_ ?_; rotate_left; (first | (show Act.put _ _ _ = _; simp only [Act.put, List.setIfInBounds_toArray, List.set_cons_zero, List.set_cons_succ, i64_w, i32_w]; rfl) | rfl))
  refine one_ (i := 4) (N := (some 24)) #[true, true, true, true, true, false] rfl rfl (by kernel_rfl) (by decide) (fun K hK => ?_)
  refine goes_ Try.func12 (by kernel_rfl) rfl #[.agg #[.slice none 0 0, .slice none 0 0, .slice none 0 0, .slice none 0 0, .slice A4 y4.length 3, .slice A5 y5.length 3, .slice none 0 0, .slice none 0 0, .slice none 0 0, .slice none 0 0], .slice Aq xs.length cq] (by rfl) rfl rfl (by (try simp only [List.map_toArray, List.map_cons, List.map_nil]); first | done | rfl) ?_
  refine (orderC_calls _ A4 3 y4 A5 3 y5 Aq cq xs _ ⟨_, _, _, _, _, _, _, _, _, _, _, _, _, _, _, _, _, _, _, _, _, _, _, _, rfl⟩ hHeld.1.2.2.2.2.2.2.2.2.2.2.1 hrd.2 hrd.1 (by rw [hxs]; decide)).mono ?_
  rintro e w5 ⟨v5, rfl, ho5, hb5⟩
  skip
  refine ⟨_, rfl, ?_⟩
  refine hK.out _ _ (hHeld.below hb5) (fun hHeld => ?_)
  clear hK K
  try (refine norm_ (a' := ?_) ?_ ?_; rotate_left; (first | (show Act.put _ _ _ = _; simp only [Act.put, List.setIfInBounds_toArray, List.set_cons_zero, List.set_cons_succ, i64_w, i32_w]; rfl) | rfl))
  refine pure_ (i := 5) (N := (some 3)) (v := ?_) (a' := ?_) #[true, true, true, true, true, true] rfl rfl (by kernel_rfl) (fun _ _ _ h => h) (Or.inl ⟨by rfl, ?_⟩) ?_ ?_
  rotate_left
  · intro w'
    go_simp
    with_reducible rfl
  rotate_left
  · simp only [Act.put, List.setIfInBounds_toArray, List.set_cons_zero, List.set_cons_succ, i64_w, i32_w]
    rfl
  refine done_ (by kernel_rfl) ?_
  obtain ⟨t6, ht6⟩ : ∃ t, t = ([0, 1] : List Int) := ⟨_, rfl⟩
  rw [hxs, HY4.out, HY5.out, worksOrd1, ← ht6] at ho5
  have HT6 := Aside0.mk ht6
  obtain ⟨A6, c6, rfl⟩ := Kd.R_slice ho5
  have hrd6 := (Kd.R_reads' ho5).2
  have hl6 := hrd6.1
  have hs : WS w A4 y4 A5 y5 B A3 t3 A6 t6 w5 := ⟨hHeld.1, hHeld.2.1, hrd6.2⟩
  clear ht6 ho5 hrd6
  go_upto_region 4 with (fail)
  refine start_ (n := 6) (S := fun w' => WS w A4 y4 A5 y5 B A3 t3 A6 t6 w') (ds := []) #[false, false, false, false, false, false] (by kernel_rfl) rfl rfl (hs.below (below_drew (Below.refl _ _))) (fun hHeld => ?_)
  refine take_ (i := 0) (N := (some 25)) (v := ?_) (a' := ?_) #[true, false, false, false, false, false] rfl rfl (by kernel_rfl) (fun _ _ _ h => h) (Or.inl ⟨by rfl, ?_⟩) hHeld ?_ ?_
  rotate_left
  · rintro w' ⟨⟨s0, s1, s2, s3, s4, s5, s6, s7, s8, s9, _, _, _⟩, _, _⟩
    go_simp
    with_reducible rfl
  rotate_left
  · simp only [Act.put, List.setIfInBounds_toArray, List.set_cons_zero, List.set_cons_succ, i64_w, i32_w]
    rfl
  refine one_ (i := 1) (N := (some 26)) #[true, true, false, false, false, false] rfl rfl (by kernel_rfl) (by decide) (fun K hK => ?_)
  refine goes_ Try.func18 (by kernel_rfl) rfl #[.int .i64 0, .int .u8 2] (by rfl) rfl rfl (by (try simp only [List.map_toArray, List.map_cons, List.map_nil]); first | done | rfl) ?_
  refine (clepsydralaw23_one.calls 0 2 0 2 false _ rfl).mono ?_
  rintro e w' ⟨rfl, hb1⟩
  refine ⟨_, rfl, ?_⟩
  refine hK.out _ _ (hHeld.below hb1) (fun hHeld => ?_)
  clear hK K
  try (refine norm_ (a' := ?_) ?_ ?_; rotate_left; (first | (show Act.put _ _ _ = _; simp only [Act.put, List.setIfInBounds_toArray, List.set_cons_zero, List.set_cons_succ, i64_w, i32_w]; rfl) | rfl))
  refine one_ (i := 2) (N := (some 27)) #[true, true, true, false, false, false] rfl rfl (by kernel_rfl) (by decide) (fun K hK => ?_)
  refine goes_ Try.func18 (by kernel_rfl) rfl #[.int .i64 1, .int .u8 2] (by rfl) rfl rfl (by (try simp only [List.map_toArray, List.map_cons, List.map_nil]); first | done | rfl) ?_
  refine (clepsydralaw23_one.calls 1 2 1 2 false _ rfl).mono ?_
  rintro e w' ⟨rfl, hb1⟩
  refine ⟨_, rfl, ?_⟩
  refine hK.out _ _ (hHeld.below hb1) (fun hHeld => ?_)
  clear hK K
  try (refine norm_ (a' := ?_) ?_ ?_; rotate_left; (first | (show Act.put _ _ _ = _; simp only [Act.put, List.setIfInBounds_toArray, List.set_cons_zero, List.set_cons_succ, i64_w, i32_w]; rfl) | rfl))
  refine one_ (i := 3) (N := (some 28)) #[true, true, true, true, false, false] rfl rfl (by kernel_rfl) (by decide) (fun K hK => ?_)
  refine Kd.R_lit_step k44 _ 44 ?hg (N := 28) ?hd (xs := ([⟨⟨0, 2⟩, false⟩, ⟨⟨1, 2⟩, false⟩] : List S44)) (inner := [.int .i64 0, .int .u8 2, .bool false, .int .i64 1, .int .u8 2, .bool false]) (ok := fun _ => True) (okp := fun _ => True) ?hr ?hp (fun _ hk => hk) trivial (Below.refl _ _) (Nat.le_refl _) (by simp) ?_
  case hd => rfl
  case hg => rfl
  case hr => first | (go_simp; done) | (go_simp; rfl)
  case hp => exact (Reps.c3 (show Kd.M k44 _ _ _ (⟨⟨0, 2⟩, false⟩ : S44) [.int .i64 0, .int .u8 2, .bool false] from (k44_mkM _ _ _ (⟨⟨0, 2⟩, false⟩ : S44))) (Reps.c3 (show Kd.M k44 _ _ _ (⟨⟨1, 2⟩, false⟩ : S44) [.int .i64 1, .int .u8 2, .bool false] from (k44_mkM _ _ _ (⟨⟨1, 2⟩, false⟩ : S44))) (Reps.none _ _)))
  intro vq wq hoq hbq _ _
  obtain ⟨xs, hxs⟩ : ∃ xs, xs = ([⟨⟨0, 2⟩, false⟩, ⟨⟨1, 2⟩, false⟩] : List S44) := ⟨_, rfl⟩
  rw [← hxs] at hoq
  obtain ⟨Aq, cq, rfl⟩ := Kd.R_slice hoq
  have hrd := (Kd.R_reads' hoq).2
  refine hK.out _ _ (hHeld.below hbq) (fun hHeld => ?_)
  clear hK K
  refine norm_ (a' := ?_) ?_ ?_
  rotate_left
  · show Act.put _ (some 28) _ = _
    simp only [Act.put, List.setIfInBounds_toArray, List.set_cons_zero, List.set_cons_succ, i64_w, i32_w]
    rfl
  try (refine norm_ (a' := ?_) ?_ ?_; rotate_left; (first | (show Act.put _ _ _ = _; simp only [Act.put, List.setIfInBounds_toArray, List.set_cons_zero, List.set_cons_succ, i64_w, i32_w]; rfl) | rfl))
  refine one_ (i := 4) (N := (some 29)) #[true, true, true, true, true, false] rfl rfl (by kernel_rfl) (by decide) (fun K hK => ?_)
  refine goes_ Try.func12 (by kernel_rfl) rfl #[.agg #[.slice none 0 0, .slice none 0 0, .slice none 0 0, .slice none 0 0, .slice A4 y4.length 3, .slice A5 y5.length 3, .slice none 0 0, .slice none 0 0, .slice none 0 0, .slice none 0 0], .slice Aq xs.length cq] (by rfl) rfl rfl (by (try simp only [List.map_toArray, List.map_cons, List.map_nil]); first | done | rfl) ?_
  refine (orderC_calls _ A4 3 y4 A5 3 y5 Aq cq xs _ ⟨_, _, _, _, _, _, _, _, _, _, _, _, _, _, _, _, _, _, _, _, _, _, _, _, rfl⟩ hHeld.1.2.2.2.2.2.2.2.2.2.2.1 hrd.2 hrd.1 (by rw [hxs]; decide)).mono ?_
  rintro e w6 ⟨v6, rfl, ho6, hb6⟩
  skip
  refine ⟨_, rfl, ?_⟩
  refine hK.out _ _ (hHeld.below hb6) (fun hHeld => ?_)
  clear hK K
  try (refine norm_ (a' := ?_) ?_ ?_; rotate_left; (first | (show Act.put _ _ _ = _; simp only [Act.put, List.setIfInBounds_toArray, List.set_cons_zero, List.set_cons_succ, i64_w, i32_w]; rfl) | rfl))
  refine pure_ (i := 5) (N := (some 4)) (v := ?_) (a' := ?_) #[true, true, true, true, true, true] rfl rfl (by kernel_rfl) (fun _ _ _ h => h) (Or.inl ⟨by rfl, ?_⟩) ?_ ?_
  rotate_left
  · intro w'
    go_simp
    with_reducible rfl
  rotate_left
  · simp only [Act.put, List.setIfInBounds_toArray, List.set_cons_zero, List.set_cons_succ, i64_w, i32_w]
    rfl
  refine done_ (by kernel_rfl) ?_
  obtain ⟨t7, ht7⟩ : ∃ t, t = ([1, 0] : List Int) := ⟨_, rfl⟩
  rw [hxs, HY4.out, HY5.out, worksOrd2, ← ht7] at ho6
  have HT7 := Aside0.mk ht7
  obtain ⟨A7, c7, rfl⟩ := Kd.R_slice ho6
  have hrd7 := (Kd.R_reads' ho6).2
  have hl7 := hrd7.1
  have HC3 := Aside0.mk hHeld.2.1
  have HC6 := Aside0.mk hHeld.2.2
  have HC7 := Aside0.mk hrd7.2
  have HB0 := Aside0.mk hHeld.1.2.2.2.2.2.2.2.2.2.2.2.2
  clear ht7 ho6 hrd7
  go_wp2_with (first | ((with_reducible refine gate_dst (N := 31) rfl ?_); (try (refine gate_guard (by rfl) ?_; dsimp only)); refine Kd.R_lit (Kd.int .i64) _ 3 ?hg (N := 31) ?hd (xs := ([0, 1, 2] : List Int)) (inner := [.int .i64 0, .int .i64 1, .int .i64 2]) (ok := fun _ => True) (okp := fun _ => True) ?hr ?hp (fun _ hk => hk) trivial (Below.refl _ _) (Nat.le_refl _) (by simp) ?_; (case hd => rfl); (case hg => rfl); (case hr => first | (go_simp; done) | (go_simp; rfl)); (case hp => exact (Reps.one (show Kd.M (Kd.int .i64) _ _ _ 0 [.int .i64 0] from rfl) (Reps.one (show Kd.M (Kd.int .i64) _ _ _ 1 [.int .i64 1] from rfl) (Reps.one (show Kd.M (Kd.int .i64) _ _ _ 2 [.int .i64 2] from rfl) (Reps.none _ _))))); intro v w31 ho hb _ _; obtain ⟨u31, hu31⟩ : ∃ u, u = ([0, 1, 2] : List Int) := ⟨_, rfl⟩; rw [← hu31] at ho; obtain ⟨A31, c31, rfl⟩ := Kd.R_slice ho; have HB31 := Aside0.mk (below_then (Below.refl w6.heap.size w6) (Below.refl w6.heap.size w6).size hb); have HR31 := Aside0.mk (Kd.R_reads' ho).2; have HU31 := Aside0.mk hu31; clear ho hb hu31) | (go_at_call 13; have hq := HB36; clear hq; refine (clepsydrakit_SameInts.calls 20 A7 c7 t7 (some ⟨w36.heap.size, 0, none⟩) 2 [1, 0] true _ (Kd.C_below HC7.out (below_alloc HB36.out _)) hl7 (C_int2 1 0 w36 _) (by decide) (by rw [HT7.out]; exact same10)).mono ?_; rintro e w40 ⟨rfl, hb'⟩; have HB40 := Aside0.mk (below_then (below_alloc HB36.out _) (below_alloc HB36.out _).size (drawn0_below hb')); clear hb') | (go_at_call 13; have hq := HB32; clear hq; refine (clepsydrakit_SameInts.calls 20 A6 c6 t6 (some ⟨w32.heap.size, 0, none⟩) 2 [0, 1] true _ (Kd.C_below HC6.out (below_alloc HB32.out _)) hl6 (C_int2 0 1 w32 _) (by decide) (by rw [HT6.out]; exact same01)).mono ?_; rintro e w36 ⟨rfl, hb'⟩; have HB36 := Aside0.mk (below_then (below_alloc HB32.out _) (below_alloc HB32.out _).size (drawn0_below hb')); clear hb') | (go_at_call 13; refine (clepsydrakit_SameInts.calls 20 A3 c3 t3 A31 c31 u31 true _ (Kd.C_below HC3.out HB31.out) hl3 HR31.out.2 HR31.out.1 (by rw [HT3.out, HU31.out]; exact same012)).mono ?_; rintro e w32 ⟨rfl, hb'⟩; have HB32 := Aside0.mk (below_then HB31.out HB31.out.size (drawn0_below hb')); clear hb'))
  go_ret
  exact ⟨rfl, below_then HB0.out HB0.out.size HB40.out⟩
end Go.Proofs.Ytccngacadolgfaa.P
