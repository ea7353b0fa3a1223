/- slices.SortFunc of a row of the call's own whose elements have k cells, by the shelf's contract: the same slice then owns the sorted row. Conditions: as each theorem says. -/
import Derived.Test.YthbpjlfpfpcpbaaKdI
import Derived.Shelf.SlSortCmp.NoneTotal
set_option linter.unusedVariables false
set_option linter.unusedSimpArgs false
namespace Go.Proofs.Ythbpjlfpfpcpbaa.P
open Go.RowKit Go.Sort Go.Shelf Go.Proofs.YthbpjlfpfpcpbaaW.PrintWords Go.Proofs.YthbpjlfpfpcpbaaW.PrintLast Go.Proofs.YthbpjlfpfpcpbaaW.PrintMore
section
variable {α : Type} {enc : α → List Value} {k : Nat}

theorem flat_at (hk : ∀ x, (enc x).length = k) : ∀ (l : List α) (j : Nat) (x : α), l[j]? = some x → ((l.flatMap enc).drop (j * k)).take k = enc x
  | [], j, x, h => by simp at h
  | y :: l, 0, x, h => by
    simp at h
    subst h
    simp only [List.flatMap_cons, Nat.zero_mul, List.drop_zero]
    rw [List.take_append_of_le_length (by rw [hk]; exact Nat.le_refl _), List.take_of_length_le (by rw [hk]; exact Nat.le_refl _)]
  | y :: l, j + 1, x, h => by
    simp at h
    simp only [List.flatMap_cons]
    rw [Nat.succ_mul, Nat.add_comm, ← hk y, List.drop_length_add_append, hk y]
    exact flat_at hk l j x h
theorem flat_length (hk : ∀ x, (enc x).length = k) (l : List α) : (l.flatMap enc).length = l.length * k := by
  induction l with
  | nil => simp
  | cons x l ih => simp [ih, hk, Nat.succ_mul, Nat.add_comm]
theorem flat_unique (hk : ∀ x, (enc x).length = k) : ∀ (l : List α) (inner : List Value), inner.length = l.length * k → (∀ j x, l[j]? = some x → (inner.drop (j * k)).take k = enc x) → inner = l.flatMap enc
  | [], inner, h, _ => by
    have : inner.length = 0 := by simpa using h
    simp [List.eq_nil_of_length_eq_zero this]
  | y :: l, inner, h, h2 => by
    have h0 := h2 0 y rfl
    simp only [Nat.zero_mul, List.drop_zero] at h0
    have h3 := flat_unique hk l (inner.drop k) (by rw [List.length_drop, h]; simp [Nat.succ_mul]) (fun j x hx => by
      have := h2 (j + 1) x (by simpa using hx)
      rw [List.drop_drop]
      rwa [Nat.succ_mul, Nat.add_comm] at this)
    rw [List.flatMap_cons, ← h3, ← h0, List.take_append_drop]

theorem flatK_list [Inhabited α] (hk : ∀ x, (enc x).length = k) (l : List α) : (flatK enc k l.toArray).toList = l.flatMap enc := by
  refine flat_unique hk l _ (by simp) ?_
  intro j x hx
  obtain ⟨hj, hx'⟩ := List.getElem?_eq_some_iff.1 hx
  have hsz : j * k + k ≤ l.length * k := by
    have := Nat.mul_le_mul_right k (show j + 1 ≤ l.length from hj)
    rwa [Nat.add_mul, Nat.one_mul] at this
  apply List.ext_getElem?
  intro t
  by_cases ht : t < k
  · rw [List.getElem?_take_of_lt ht, List.getElem?_drop, Array.getElem?_toList]
    have hlt : j * k + t < (flatK enc k l.toArray).size := by rw [size_flatK]; simp; omega
    rw [Array.getElem?_eq_getElem hlt]
    have h1 := get_flatK enc k l.toArray (j * k + t) (by rw [size_flatK] at hlt; exact hlt)
    rw [getElem!_pos (flatK enc k l.toArray) (j * k + t) hlt] at h1
    rw [h1]
    have hd : (j * k + t) / k = j := by
      rw [Nat.mul_comm, Nat.mul_add_div (by omega), Nat.div_eq_of_lt ht, Nat.add_zero]
    have hm : (j * k + t) % k = t := by rw [Nat.mul_comm, Nat.mul_add_mod, Nat.mod_eq_of_lt ht]
    rw [hd, hm]
    have h2 : l.toArray[j]! = x := by
      rw [getElem!_pos l.toArray j (by simpa using hj)]
      simpa using hx'
    rw [h2]
    have h3 : t < (enc x).length := by rw [hk]; exact ht
    rw [getElem!_pos (enc x) t h3, List.getElem?_eq_getElem h3]
  · rw [List.getElem?_take_eq_none (by omega), List.getElem?_eq_none (by rw [hk]; omega)]

/-- What the call owns, as the shelf's sort wants it. -/
theorem holds_flat [Inhabited α] (hk : ∀ x, (enc x).length = k) {w : World} {g : Nat} {cur : Array Value} {e : TypeId} {ss : List α} (hb : w.heap[g]? = some (.cells cur e (0, 0))) (ht : cur.toList.take (ss.length * k) = ss.flatMap enc) : HoldsK enc k w g 0 ss.toArray := by
  intro j hj
  have hj' : j < ss.length * k := by simpa using hj
  refine ⟨?_, by simp [World.frozen?, hb]⟩
  have h1 : (cur.toList.take (ss.length * k))[j]? = (ss.flatMap enc)[j]? := by rw [ht]
  rw [List.getElem?_take_of_lt hj'] at h1
  simp only [World.cell?, hb, Nat.zero_add]
  simp only [Option.isSome_none, Bool.false_eq_true, if_false, id]
  rw [← Array.getElem?_toList, h1, ← flatK_list hk ss]
  have hlt : j < (flatK enc k ss.toArray).size := hj
  rw [Array.getElem?_toList, Array.getElem?_eq_getElem hlt, getElem!_pos (flatK enc k ss.toArray) j hlt]

theorem heap_sortedK [Inhabited α] {w : World} {g n : Nat} {os : Array Obj} {cur : Array Value} {e : TypeId} {fr : Nat × Nat} (d : Array α) (hb : w.heap[g]? = some (.cells cur e fr)) :
    (sortWorldK enc k w g 0 n d os).heap[g]? = some (.cells (putCells id 0 (flatK enc k d) cur) e fr) := by
  have hg : g < w.heap.size := (Array.getElem?_eq_some_iff.1 hb).1
  unfold sortWorldK putRowK
  rw [heap_grow_old _ _ (by simpa using hg)]
  simp [putRow, mapBlock, Sort.ahead, Array.getElem?_modify, hb, onCells]
theorem grownBy_sortedK [Inhabited α] {w : World} {g n : Nat} {os : Array Obj} (d : Array α) : w.grownBy (sortWorldK enc k w g 0 n d os) (some g) := by
  refine ⟨rfl, rfl, rfl, by simp [sortWorldK, putRowK], fun j hj hne => ?_⟩
  unfold sortWorldK putRowK
  rw [heap_grow_old _ _ (by simpa using hj)]
  have : g ≠ j := fun e => hne (by rw [e])
  simp [putRow, mapBlock, Sort.ahead, Array.getElem?_modify, this]
theorem ownsRow_sortedK [Inhabited α] (hk : ∀ x, (enc x).length = k) {w : World} {base g cap n : Nat} {e : TypeId} {os : Array Obj} {cur : Array Value} {ss ts : List α} (hl : ts.length = ss.length) (hbase : base ≤ g) (hb : w.heap[g]? = some (.cells cur e (0, 0)))
    (h1 : ss.length ≤ cap) (h2 : cap ≤ maxLen) (h3 : cur.size = cap * k) :
    (sortWorldK enc k w g 0 n ts.toArray os).ownsRow base e k (.slice (some ⟨g, 0, none⟩) ss.length cap) ss.length (ts.flatMap enc) := by
  refine ⟨by rw [flat_length hk, hl], .inr ⟨g, cap, _, rfl, hbase, heap_sortedK _ hb, h1, h2, by simp [putCells, h3], ?_⟩⟩
  have hle : ss.length * k ≤ cap * k := Nat.mul_le_mul_right k h1
  apply List.ext_getElem?
  intro j
  by_cases hj : j < ss.length * k
  · rw [List.getElem?_take_of_lt hj, Array.getElem?_toList]
    have hlt : j < (flatK enc k ts.toArray).size := by simpa [hl] using hj
    have h4 : (ts.flatMap enc)[j]? = some (flatK enc k ts.toArray)[j]! := by
      rw [← flatK_list hk ts, Array.getElem?_toList, Array.getElem?_eq_getElem hlt, getElem!_pos (flatK enc k ts.toArray) j hlt]
    rw [h4]
    have hj2 : j < ts.length * k := by rw [hl]; exact hj
    simp [putCells, hj2, show j < cur.size by omega]
  · rw [List.getElem?_take_eq_none (by omega), List.getElem?_eq_none (by rw [flat_length hk, hl]; omega)]
end
end Go.Proofs.Ythbpjlfpfpcpbaa.P
