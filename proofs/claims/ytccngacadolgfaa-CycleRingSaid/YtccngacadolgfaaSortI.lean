/- slices.Sort of numbers of the call's own: the slice then owns them sorted. Condition: as the theorem says. -/
import Derived.Test.YtccngacadolgfaaKdI
import Derived.Test.YtccngacadolgfaaLays
import Derived.Shelf.SortM.Plain
import Derived.Shelf.SortM.SortNone
import Derived.Lib.SlKeysI
set_option linter.unusedVariables false
set_option linter.unusedSimpArgs false
namespace Go.Proofs.Ytccngacadolgfaa.P
open Go.RowKit Go.Sort Go.Shelf Go.Proofs.YtccngacadolgfaaW.PrintWords Go.Proofs.YtccngacadolgfaaW.PrintLast Go.Proofs.YtccngacadolgfaaW.PrintMore

/-- Numbers, rising. -/
def sortInts (l : List Int) : List Int := l.mergeSort fun x y => decide (x ≤ y)
theorem sortInts_len (l : List Int) : (sortInts l).length = l.length := by simp [sortInts]
theorem sortInts_mem (l : List Int) (x : Int) : x ∈ sortInts l ↔ x ∈ l := (List.mergeSort_perm l _).mem_iff

theorem rowInt {w : World} {base : Nat} {ok : Nat → Prop} {v : Value} {ss : List Int} (h : Kd.R (Kd.int .i64) 3 w base ok v ss) : w.ownsRow base 3 1 v ss.length (ss.map (Value.int .i64)) := by
  obtain ⟨_, inner, ho, hr⟩ := h
  have hil : inner.length = ss.length := by have h := hr.1; change inner.length = ss.length * 1 at h; omega
  have : inner = ss.map (Value.int .i64) := by
    apply List.ext_getElem?
    intro j
    rw [List.getElem?_map]
    rcases Nat.lt_or_ge j ss.length with hj | hj
    · have h2 := hr.2 j _ (List.getElem?_eq_getElem hj)
      have h3 : (inner.drop (j * 1)).take 1 = [Value.int .i64 ss[j]] := h2
      have h4 : (inner.drop (j * 1))[0]? = some (Value.int .i64 ss[j]) := by rw [← List.getElem?_take_of_lt (show 0 < 1 by omega), h3]; rfl
      rw [List.getElem?_drop, Nat.mul_one, Nat.add_zero] at h4
      rw [h4, List.getElem?_eq_getElem hj, Option.map_some]
    · rw [List.getElem?_eq_none (by omega), List.getElem?_eq_none hj]
      rfl
  rw [← this]
  exact ho
theorem intRow {w : World} {base : Nat} {ok : Nat → Prop} {v : Value} {ss : List Int} (h : w.ownsRow base 3 1 v ss.length (ss.map (Value.int .i64))) (hok : ∀ k, v.ownBlock = some k → ok k) : Kd.R (Kd.int .i64) 3 w base ok v ss :=
  ⟨hok, _, h, by show _ = ss.length * 1; simp, fun j x hx => by
    show ((ss.map (Value.int .i64)).drop (j * 1)).take 1 = [Value.int .i64 x]
    obtain ⟨hj, e⟩ := List.getElem?_eq_some_iff.1 hx
    rw [Nat.mul_one, List.drop_eq_getElem_cons (by simpa using hj)]
    simp [e]⟩

theorem sort_ints {w : World} {base : Nat} {v : Value} {ss : List Int} (h : Kd.R (Kd.int .i64) 3 w base (fun _ => True) v ss) (hsz : ss.length < 4611686018427387904) :
    Calls Try.prog 25 #[v] w fun e w' => e = .returned (.tuple #[]) ∧ Kd.R (Kd.int .i64) 3 w' base (fun _ => True) v (sortInts ss) ∧ w.grownBy w' v.ownBlock := by
  have hown := rowInt h
  rcases hown.2 with ⟨rfl, h0⟩ | ⟨g0, cap, cur, rfl, hbase, hb, h1, h2, h3, h4⟩
  · have hss : ss = [] := List.eq_nil_of_length_eq_zero h0
    subst hss
    have hc := AnyM.slices_Sort_int_none Try.sortInt none 0 w
    change Calls Try.prog 25 #[.slice none 0 0] w _ at hc
    exact hc.mono fun e w' ⟨he, hw⟩ => ⟨he, by rw [hw]; simpa [sortInts] using h, by rw [hw]; exact ⟨rfl, rfl, rfl, Nat.le_refl _, fun _ _ _ => rfl⟩⟩
  · have hH : Holds (Value.int .i64) w g0 0 ss.toArray := holds_of_block_i hb (by simpa using h4)
    have hlt : g0 < w.heap.size := (Array.getElem?_eq_some_iff.1 hb).1
    have hc := AnyM.slices_Sort_int Try.sortInt g0 0 cap ss w hH hlt hsz
    change Calls Try.prog 25 #[.slice (some ⟨g0, 0, none⟩) ss.length cap] w _ at hc
    refine hc.mono ?_
    rintro e w' ⟨he, n, os, rfl⟩
    refine ⟨he, ?_, grownBy_sorted_i _⟩
    have hr := ownsRow_sorted_i (n := n) (os := os) (ts := sortInts ss) (sortInts_len ss) hbase hb h1 h2 (by simpa using h3)
    refine intRow ?_ (fun _ _ => trivial)
    rw [sortInts_len]
    exact hr
end Go.Proofs.Ytccngacadolgfaa.P
