/- Maps in memory, whatever the program: a block that holds a map whose keys are written by an encoder; look-up, store, delete, length, a walk over it. Conditions: a law of the key's type (KL); entries' values are any values. -/
import Derived.WalkKit
import Derived.OwnWalk
import Derived.MapKept
import Derived.RangeFuncRecord
import Derived.RangeFuncSeq
import Derived.Laws.NewFold
import Derived.Deep.Draws
import Derived.Maps.AppendAt
set_option linter.unusedVariables false
set_option linter.unusedSimpArgs false
namespace Go.Proofs.Ytccngacadolgfaa.Mp
open Go.RowKit

section
variable {α : Type}

/-- Where a key stands in a list of pairs, and its value. -/
def findIx [DecidableEq α] {β : Type} (x : α) : List (α × β) → Nat → Option (Nat × β)
  | [], _ => none
  | p :: l, i => if x = p.1 then some (i, p.2) else findIx x l (i + 1)
def get [DecidableEq α] {β : Type} (l : List (α × β)) (x : α) : Option β := (findIx x l 0).map (·.2)
def put [DecidableEq α] {β : Type} : List (α × β) → α → β → List (α × β)
  | [], x, y => [(x, y)]
  | p :: l, x, y => if x = p.1 then (x, y) :: l else p :: put l x y
def del [DecidableEq α] {β : Type} : List (α × β) → α → List (α × β)
  | [], _ => []
  | p :: l, x => if x = p.1 then l else p :: del l x
def keys {β : Type} (l : List (α × β)) : List α := l.map (·.1)

theorem findIx_none [DecidableEq α] {β : Type} {x : α} : ∀ {l : List (α × β)} {i : Nat}, findIx x l i = none ↔ x ∉ keys l
  | [], i => by simp [findIx, keys]
  | p :: l, i => by
    by_cases h : x = p.1
    · simp [findIx, keys, h]
    · simp only [findIx, if_neg h, findIx_none, keys, List.map_cons, List.mem_cons, not_or]
      exact ⟨fun h' => ⟨h, h'⟩, fun h' => h'.2⟩
theorem findIx_some [DecidableEq α] {β : Type} {x : α} : ∀ {l : List (α × β)} {i j : Nat} {y : β}, findIx x l i = some (j, y) → ∃ k, j = i + k ∧ l[k]? = some (x, y)
  | [], i, j, y, h => by simp [findIx] at h
  | p :: l, i, j, y, h => by
    by_cases hx : x = p.1
    · simp only [findIx, if_pos hx, Option.some.injEq, Prod.mk.injEq] at h
      obtain ⟨rfl, rfl⟩ := h
      exact ⟨0, rfl, by simp [hx]⟩
    · simp only [findIx, if_neg hx] at h
      obtain ⟨k, hk, hl⟩ := findIx_some h
      exact ⟨k + 1, by omega, by simpa using hl⟩
theorem findIx_shift [DecidableEq α] {β : Type} (x : α) : ∀ (l : List (α × β)) (i : Nat), findIx x l i = (findIx x l 0).map (fun p => (p.1 + i, p.2))
  | [], i => rfl
  | p :: l, i => by
    by_cases hx : x = p.1
    · simp [findIx, hx]
    · simp only [findIx, if_neg hx]
      rw [findIx_shift x l (i + 1), findIx_shift x l 1]
      cases findIx x l 0 with
      | none => rfl
      | some q => simp; omega
theorem get_nil [DecidableEq α] {β : Type} (x : α) : get ([] : List (α × β)) x = none := rfl
theorem get_cons [DecidableEq α] {β : Type} (p : α × β) (l : List (α × β)) (x : α) : get (p :: l) x = if x = p.1 then some p.2 else get l x := by
  unfold get
  by_cases hx : x = p.1
  · simp [findIx, hx]
  · simp only [findIx, if_neg hx]
    rw [findIx_shift x l 1]
    cases findIx x l 0 <;> rfl
theorem get_none [DecidableEq α] {β : Type} {l : List (α × β)} {x : α} : get l x = none ↔ x ∉ keys l := by
  unfold get
  rw [Option.map_eq_none_iff, findIx_none]
theorem get_put [DecidableEq α] {β : Type} (x : α) (y : β) (z : α) : ∀ l : List (α × β), get (put l x y) z = if z = x then some y else get l z
  | [] => by simp [put, get_cons, get_nil]
  | p :: l => by
    by_cases hx : x = p.1
    · simp only [put, if_pos hx, get_cons]
      by_cases hz : z = x
      · simp [hz]
      · have : ¬ z = p.1 := fun e => hz (e.trans hx.symm)
        simp [hz, this]
    · simp only [put, if_neg hx, get_cons]
      rw [get_put x y z l]
      by_cases hz : z = p.1
      · have : ¬ z = x := fun e => hx (e.symm.trans hz)
        simp [hz, this]
        intro e
        exact absurd e.symm hx
      · simp [hz]
theorem keys_put [DecidableEq α] {β : Type} (x : α) (y : β) : ∀ l : List (α × β), keys (put l x y) = if x ∈ keys l then keys l else keys l ++ [x]
  | [] => by simp [put, keys]
  | p :: l => by
    by_cases hx : x = p.1
    · simp [put, hx, keys]
    · simp only [put, keys, List.map_cons, List.mem_cons, hx, false_or, if_false]
      have := keys_put x y l
      unfold keys at this
      rw [this]
      split <;> rfl
theorem nodup_put [DecidableEq α] {β : Type} {l : List (α × β)} (h : (keys l).Nodup) (x : α) (y : β) : (keys (put l x y)).Nodup := by
  rw [keys_put]
  split
  · exact h
  · rename_i hx
    rw [List.nodup_append]
    exact ⟨h, by simp, fun a ha b hb => by simp at hb; subst hb; exact fun e => hx (e ▸ ha)⟩
theorem mem_keys_put [DecidableEq α] {β : Type} (x : α) (y : β) (z : α) (l : List (α × β)) : z ∈ keys (put l x y) ↔ z = x ∨ z ∈ keys l := by
  rw [keys_put]
  split
  · rename_i h
    exact ⟨.inr, fun h' => h'.elim (fun e => e ▸ h) id⟩
  · simp [or_comm]
theorem length_put [DecidableEq α] {β : Type} (x : α) (y : β) (l : List (α × β)) : (put l x y).length ≤ l.length + 1 := by
  have h : (put l x y).length = (keys (put l x y)).length := by simp [keys]
  rw [h, keys_put]
  split <;> simp [keys]
theorem put_fresh [DecidableEq α] {β : Type} (x : α) (y : β) : ∀ l : List (α × β), x ∉ keys l → put l x y = l ++ [(x, y)]
  | [], _ => rfl
  | p :: l, h => by
    simp only [keys, List.map_cons, List.mem_cons, not_or] at h
    simp [put, if_neg h.1, put_fresh x y l h.2]
theorem put_at [DecidableEq α] {β : Type} (x : α) (y : β) : ∀ (l : List (α × β)) (k : Nat) (z : β), l[k]? = some (x, z) → (keys l).Nodup → put l x y = l.set k (x, y)
  | [], k, z, h, _ => by simp at h
  | p :: l, 0, z, h, _ => by
    simp at h
    subst h
    simp [put]
  | p :: l, k + 1, z, h, hn => by
    simp at h
    simp only [keys, List.map_cons, List.nodup_cons] at hn
    have hx : ¬ x = p.1 := fun e => hn.1 (e ▸ List.mem_map.2 ⟨_, List.mem_of_getElem? h, rfl⟩)
    simp only [put, if_neg hx, List.set_cons_succ]
    rw [put_at x y l k z h hn.2]
theorem del_at [DecidableEq α] {β : Type} (x : α) : ∀ (l : List (α × β)) (k : Nat) (z : β), l[k]? = some (x, z) → (keys l).Nodup → del l x = l.eraseIdx k
  | [], k, z, h, _ => by simp at h
  | p :: l, 0, z, h, _ => by
    simp at h
    subst h
    simp [del]
  | p :: l, k + 1, z, h, hn => by
    simp at h
    simp only [keys, List.map_cons, List.nodup_cons] at hn
    have hx : ¬ x = p.1 := fun e => hn.1 (e ▸ List.mem_map.2 ⟨_, List.mem_of_getElem? h, rfl⟩)
    simp only [del, if_neg hx, List.eraseIdx_cons_succ]
    rw [del_at x l k z h hn.2]
theorem del_none [DecidableEq α] {β : Type} (x : α) : ∀ l : List (α × β), x ∉ keys l → del l x = l
  | [], _ => rfl
  | p :: l, h => by
    simp only [keys, List.map_cons, List.mem_cons, not_or] at h
    simp [del, if_neg h.1, del_none x l h.2]
theorem del_eq [DecidableEq α] {β : Type} (x : α) : ∀ l : List (α × β), (keys l).Nodup → del l x = l.filter (fun p => decide (p.1 ≠ x))
  | [], _ => rfl
  | p :: l, hn => by
    simp only [keys, List.map_cons, List.nodup_cons] at hn
    by_cases hx : x = p.1
    · subst hx
      simp only [del, if_true, ne_eq, not_true_eq_false, decide_false, Bool.false_eq_true, not_false_eq_true, List.filter_cons_of_neg]
      symm
      rw [List.filter_eq_self]
      intro q hq
      have : q.1 ≠ p.1 := fun e => hn.1 (e ▸ List.mem_map.2 ⟨q, hq, rfl⟩)
      simpa using this
    · have hx' : p.1 ≠ x := fun e => hx e.symm
      simp only [del, if_neg hx]
      rw [del_eq x l hn.2, List.filter_cons_of_pos (by simpa using hx')]

/-- The law of a key's type: keys are found by Lean's equality; nothing is drawn. -/
structure KL [DecidableEq α] (P : Program) (kt : TypeId) (ek : α → Value) : Prop where
  find : ∀ (x : α) (es : List MapEntry) (l : List (α × Value)) (w : World), es.map (fun e => (e.key, e.val)) = l.map (fun p => (ek p.1, p.2)) → (Instr.findKey kt (ek x) es).run P w = .ok (findIx x l 0) w
  check : ∀ (em : Bool) (x : α) (w : World), (Instr.checkKey em 10000 kt (ek x)).run P w = .ok () w
  bits : ∀ x : α, Instr.sameBits 10000 (ek x) (ek x) = true

/-- Block b holds a map: its pairs, in the order in which they came. -/
def At (w : World) (b : Nat) (ek : α → Value) (l : List (α × Value)) : Prop :=
  ∃ es clock, w.heap[b]? = some (.map es clock) ∧ es.toList.map (fun e => (e.key, e.val)) = l.map (fun p => (ek p.1, p.2)) ∧ (es.toList.map (·.born)).Nodup ∧ (∀ e ∈ es.toList, e.born < clock) ∧ (keys l).Nodup

variable {P : Program} {kt : TypeId} {w : World} {b : Nat} {ek : α → Value} {l : List (α × Value)}

theorem At.lt (h : At w b ek l) : b < w.heap.size := by
  obtain ⟨es, clock, hb, _⟩ := h
  exact (Array.getElem?_eq_some_iff.1 hb).1
theorem At.nodup (h : At w b ek l) : (keys l).Nodup := by
  obtain ⟨es, clock, hb, _, _, _, hn⟩ := h
  exact hn
theorem At.made (w : World) (ek : α → Value) : At (w.alloc (.map #[] 0)) w.heap.size ek [] :=
  ⟨#[], 0, World.alloc_heap_new w _, rfl, by simp, by simp, by simp [keys]⟩
theorem At.kept {w' : World} {row : Option Nat} (h : At w b ek l) (hg : w.grownBy w' row) (hne : some b ≠ row) : At w' b ek l := by
  have hlt := h.lt
  obtain ⟨es, clock, hb, r⟩ := h
  exact ⟨es, clock, (hg.block b hlt hne).trans hb, r⟩
theorem At.below {w' : World} {B : Nat} (h : At w b ek l) (hg : Below B w w') (hlt : b < B) : At w' b ek l := by
  obtain ⟨es, clock, hb, r⟩ := h
  exact ⟨es, clock, (hg.block b hlt).trans hb, r⟩
theorem At.alloc (h : At w b ek l) (o : Obj) : At (w.alloc o) b ek l := h.kept (World.grownBy_alloc w o none) (by simp)
theorem At.drew (h : At w b ek l) : At w.drew b ek l := h
theorem At.drewN (h : At w b ek l) (n : Nat) : At (w.drewN n) b ek l := h
theorem At.setCell (h : At w b ek l) (a : Addr) (v : Value) (hne : a.block ≠ b) : At (w.setCell a v) b ek l := by
  obtain ⟨es, clock, hb, r⟩ := h
  exact ⟨es, clock, (Below.heap_setCell w a v b (fun e => hne e.symm)).trans hb, r⟩
theorem At.putObj (h : At w b ek l) (r : Nat) (o : Obj) (hne : r ≠ b) : At (w.putObj r o) b ek l := by
  obtain ⟨es, clock, hb, q⟩ := h
  exact ⟨es, clock, (World.putObj_heap_other (fun e => hne e.symm)).trans hb, q⟩

theorem run_lookup [DecidableEq α] (K : KL P kt ek) {t e : TypeId} (ht : P.underlying t = some (.map kt e)) {z : Value} (hz : ∀ w : World, (zeroValue e).run P w = .ok z w) (h : At w b ek l) (x : α) (ok : Bool) :
    (Instr.lookup t (.map (some b)) (ek x) ok).run P w = .ok (if ok then .tuple #[(get l x).getD z, .bool (get l x).isSome] else (get l x).getD z) w := by
  obtain ⟨es, clock, hb, hl, _, _, _⟩ := h
  have hf := K.find x es.toList l w hl
  unfold get
  cases hfi : findIx x l 0 with
  | none =>
    rw [hfi] at hf
    cases ok <;> simp [Instr.lookup, Sem.run_bind, run_underlying ht, MapKept.run_getObj_map hb, Result.andThen, K.check, hf, hz]
  | some q =>
    rw [hfi] at hf
    cases ok <;> simp [Instr.lookup, Sem.run_bind, run_underlying ht, MapKept.run_getObj_map hb, Result.andThen, K.check, hf]

theorem map_set_entry (es : List MapEntry) (l : List (α × Value)) (k : Nat) (x : α) (y : Value) (hl : es.map (fun e => (e.key, e.val)) = l.map (fun p => (ek p.1, p.2))) :
    (es.modify k (fun e => { e with key := ek x, val := y })).map (fun e => (e.key, e.val)) = (l.set k (x, y)).map (fun p => (ek p.1, p.2)) := by
  apply List.ext_getElem?
  intro j
  have hj := congrArg (fun q => q[j]?) hl
  simp only [List.getElem?_map] at hj
  simp only [List.getElem?_map, List.getElem?_modify, List.getElem?_set]
  by_cases hkj : k = j
  · subst hkj
    simp only [if_true]
    cases he : es[k]? with
    | none =>
      rw [he] at hj
      cases hk : l[k]? with
      | none =>
        have : ¬ k < l.length := by
          intro h
          rw [List.getElem?_eq_getElem h] at hk
          cases hk
        simp [this]
      | some q => rw [hk] at hj; simp at hj
    | some e =>
      rw [he] at hj
      cases hk : l[k]? with
      | none => rw [hk] at hj; simp at hj
      | some q =>
        have : k < l.length := (List.getElem?_eq_some_iff.1 hk).1
        simp [this]
  · simp only [if_neg hkj]
    simpa using hj

theorem run_mapUpdate [DecidableEq α] (K : KL P kt ek) {t e : TypeId} (ht : P.underlying t = some (.map kt e)) (h : At w b ek l) (x : α) (y : Value) :
    ∃ o, (Instr.mapUpdate t (.map (some b)) (ek x) y).run P w = .ok () (w.putObj b o) ∧ At (w.putObj b o) b ek (put l x y) ∧ w.grownBy (w.putObj b o) (some b) ∧ (∃ es clock, o = .map es clock) := by
  have hlt := h.lt
  obtain ⟨es, clock, hb, hl, hn, hc, hk⟩ := h
  have hf := K.find x es.toList l w hl
  have hgr : ∀ o, w.grownBy (w.putObj b o) (some b) := fun o => ⟨rfl, rfl, rfl, by simp, fun k _ hk => World.putObj_heap_other (fun e => hk (by rw [e]))⟩
  cases hfi : findIx x l 0 with
  | none =>
    rw [hfi] at hf
    have hx := findIx_none.1 hfi
    refine ⟨.map (es.push { key := ek x, val := y, born := clock }) (clock + 1), ?_, ?_, hgr _, ⟨_, _, rfl⟩⟩
    · simp [Instr.mapUpdate, Sem.run_bind, run_underlying ht, MapKept.run_getObj_map hb, Result.andThen, K.check, hf, MapKept.run_setObj_map _ hb, World.putObj]
    · refine ⟨_, _, World.putObj_heap_same hlt, ?_, ?_, ?_, nodup_put hk x y⟩
      · rw [put_fresh x y l hx]
        simp [hl]
      · simp only [Array.toList_push, List.map_append, List.map_cons, List.map_nil]
        refine List.nodup_append.2 ⟨hn, by simp, ?_⟩
        intro a ha c hc'
        simp only [List.mem_singleton] at hc'
        subst hc'
        obtain ⟨e, he, rfl⟩ := List.mem_map.1 ha
        exact Nat.ne_of_lt (hc e he)
      · intro e he
        simp only [Array.toList_push, List.mem_append, List.mem_singleton] at he
        rcases he with he | rfl
        · exact Nat.lt_succ_of_lt (hc e he)
        · exact Nat.lt_succ_self _
  | some q =>
    obtain ⟨j, z⟩ := q
    rw [hfi] at hf
    obtain ⟨k, hjk, hlk⟩ := findIx_some hfi
    obtain rfl : j = k := by omega
    have hek : (es.toList[j]?).map (fun e => (e.key, e.val)) = some (ek x, z) := by
      have := congrArg (fun q => q[j]?) hl
      simp only [List.getElem?_map] at this
      rw [this, hlk]
      rfl
    obtain ⟨e0, he0, hee⟩ := Option.map_eq_some_iff.1 hek
    simp only [Prod.mk.injEq] at hee
    have hes : es[j]? = some e0 := by simpa using he0
    refine ⟨.map (es.modify j fun e => { e with key := ek x, val := y }) clock, ?_, ?_, hgr _, ⟨_, _, rfl⟩⟩
    · simp [Instr.mapUpdate, Sem.run_bind, run_underlying ht, MapKept.run_getObj_map hb, Result.andThen, K.check, hf, hes, hee.1, Instr.keyThatStays, K.bits, MapKept.run_setObj_map _ hb, World.putObj]
    · refine ⟨_, _, World.putObj_heap_same hlt, ?_, ?_, ?_, nodup_put hk x y⟩
      · rw [put_at x y l j z hlk hk, Array.toList_modify]
        exact map_set_entry es.toList l j x y hl
      · have : (es.modify j fun e => { e with key := ek x, val := y }).toList.map (·.born) = es.toList.map (·.born) := by
          apply List.ext_getElem?
          intro i
          simp only [Array.toList_modify, List.getElem?_map, List.getElem?_modify]
          by_cases hij : j = i
          · subst hij
            cases es.toList[j]? <;> simp
          · simp [hij]
        rw [this]
        exact hn
      · intro e he
        obtain ⟨i, hi⟩ := List.mem_iff_getElem?.1 he
        simp only [Array.toList_modify, List.getElem?_modify] at hi
        by_cases hij : j = i
        · subst hij
          rw [he0] at hi
          simp at hi
          subst hi
          exact hc e0 (List.mem_of_getElem? he0)
        · simp [hij] at hi
          exact hc e (by simpa using Array.mem_of_getElem? hi)
theorem run_delete [DecidableEq α] (K : KL P kt ek) {t e ty : TypeId} (ht : P.underlying t = some (.map kt e)) (h : At w b ek l) (x : α) :
    ∃ o, (Builtin.delete_ #[t, kt] ty #[.map (some b), ek x]).run P w = .ok (.tuple #[]) (w.putObj b o) ∧ At (w.putObj b o) b ek (del l x) ∧ w.grownBy (w.putObj b o) (some b) ∧ (∃ es clock, o = .map es clock) := by
  have hlt := h.lt
  obtain ⟨es, clock, hb, hl, hn, hc, hk⟩ := h
  have hf := K.find x es.toList l w hl
  have hgr : ∀ o, w.grownBy (w.putObj b o) (some b) := fun o => ⟨rfl, rfl, rfl, by simp, fun k _ hk => World.putObj_heap_other (fun e => hk (by rw [e]))⟩
  cases hfi : findIx x l 0 with
  | none =>
    rw [hfi] at hf
    have hx := findIx_none.1 hfi
    refine ⟨.map es clock, ?_, ?_, hgr _, ⟨_, _, rfl⟩⟩
    · simp [Builtin.delete_, Sem.run_bind, run_underlying ht, MapKept.run_getObj_map hb, Result.andThen, K.check, hf, MapKept.run_setObj_map _ hb, World.putObj]
    · rw [del_none x l hx]
      exact ⟨es, clock, World.putObj_heap_same hlt, hl, hn, hc, hk⟩
  | some q =>
    obtain ⟨j, z⟩ := q
    rw [hfi] at hf
    obtain ⟨k, hjk, hlk⟩ := findIx_some hfi
    obtain rfl : j = k := by omega
    refine ⟨.map (es.eraseIdxIfInBounds j) clock, ?_, ?_, hgr _, ⟨_, _, rfl⟩⟩
    · simp [Builtin.delete_, Sem.run_bind, run_underlying ht, MapKept.run_getObj_map hb, Result.andThen, K.check, hf, MapKept.run_setObj_map _ hb, World.putObj]
    · have he : (es.eraseIdxIfInBounds j).toList = es.toList.eraseIdx j := by simp
      have hsub : (es.toList.eraseIdx j).Sublist es.toList := List.eraseIdx_sublist _ _
      refine ⟨_, _, World.putObj_heap_same hlt, ?_, ?_, ?_, ?_⟩
      · rw [he, del_at x l j z hlk hk]
        have e1 : ∀ {γ δ : Type} (f : γ → δ) (m : List γ) (i : Nat), (m.eraseIdx i).map f = (m.map f).eraseIdx i := by
          intro γ δ f m
          induction m with
          | nil => intro i; simp
          | cons a m ih => intro i; cases i <;> simp [ih]
        rw [e1, e1, hl]
      · rw [he]
        exact (hsub.map _).nodup hn
      · intro y hy
        rw [he] at hy
        exact hc y (hsub.subset hy)
      · rw [del_at x l j z hlk hk]
        exact ((List.eraseIdx_sublist l j).map _).nodup hk

/-- Block r is a walk over the map in block b, which has not turned since the walk began: what is left of it. -/
def Rng (w : World) (r b : Nat) (ek : α → Value) (l todo : List (α × Value)) : Prop :=
  ∃ es clock seen, w.heap[b]? = some (.map es clock) ∧ w.heap[r]? = some (.mapIter (some b) clock seen clock) ∧ es.toList.map (fun e => (e.key, e.val)) = l.map (fun p => (ek p.1, p.2)) ∧ (es.toList.map (·.born)).Nodup ∧ (∀ e ∈ es.toList, e.born < clock) ∧ (keys l).Nodup ∧
    (es.toList.filter (fun e => !seen.contains e.born)).map (fun e => (e.key, e.val)) = todo.map (fun p => (ek p.1, p.2))

/-- How much is left of a walk, read off the memory. -/
def left (w : World) (r b : Nat) : Nat :=
  match w.heap[b]?, w.heap[r]? with
  | some (.map es _), some (.mapIter _ _ seen _) => (es.toList.filter (fun e => !seen.contains e.born)).length
  | _, _ => 0
theorem Rng.left_eq {r : Nat} {todo : List (α × Value)} (h : Rng w r b ek l todo) : left w r b = todo.length := by
  obtain ⟨es, clock, seen, hb, hr, _, _, _, _, ht⟩ := h
  have := congrArg List.length ht
  simp only [List.length_map] at this
  simp only [left, hb, hr, this]
theorem Rng.at_ {r : Nat} {todo : List (α × Value)} (h : Rng w r b ek l todo) : At w b ek l := by
  obtain ⟨es, clock, seen, hb, _, hl, hn, hc, hk, _⟩ := h
  exact ⟨es, clock, hb, hl, hn, hc, hk⟩
theorem Rng.lt {r : Nat} {todo : List (α × Value)} (h : Rng w r b ek l todo) : r < w.heap.size := by
  obtain ⟨es, clock, seen, _, hr, _⟩ := h
  exact (Array.getElem?_eq_some_iff.1 hr).1
theorem Rng.ne {r : Nat} {todo : List (α × Value)} (h : Rng w r b ek l todo) : r ≠ b := by
  obtain ⟨es, clock, seen, hb, hr, _⟩ := h
  intro e
  subst e
  rw [hb] at hr
  cases hr
theorem Rng.kept {w' : World} {row : Option Nat} {r : Nat} {todo : List (α × Value)} (h : Rng w r b ek l todo) (hg : w.grownBy w' row) (hne : some b ≠ row) (hne' : some r ≠ row) : Rng w' r b ek l todo := by
  obtain ⟨es, clock, seen, hb, hr, q⟩ := h
  exact ⟨es, clock, seen, (hg.block b (Array.getElem?_eq_some_iff.1 hb).1 hne).trans hb, (hg.block r (Array.getElem?_eq_some_iff.1 hr).1 hne').trans hr, q⟩
theorem Rng.walks {w' : World} {r : Nat} {todo : List (α × Value)} (h : Rng w r b ek l todo) (hk : KeepsWalks w w') : Rng w' r b ek l todo := by
  obtain ⟨es, clock, seen, hb, hr, q⟩ := h
  exact ⟨es, clock, seen, hk.same b _ hb rfl, hk.same r _ hr rfl, q⟩
/-- Whatever keeps both blocks keeps the walk. -/
theorem Rng.same {w' : World} {r : Nat} {todo : List (α × Value)} (h : Rng w r b ek l todo) (h1 : w'.heap[b]? = w.heap[b]?) (h2 : w'.heap[r]? = w.heap[r]?) : Rng w' r b ek l todo := by
  obtain ⟨es, clock, seen, hb, hr, q⟩ := h
  exact ⟨es, clock, seen, h1.trans hb, h2.trans hr, q⟩

theorem run_range {t e : TypeId} (ht : P.underlying t = some (.map kt e)) (h : At w b ek l) :
    ∃ o, (Instr.range t (.map (some b))).run P w = .ok (.pointer (some ⟨w.heap.size, 0, none⟩)) (w.alloc o) ∧ Rng (w.alloc o) w.heap.size b ek l l := by
  have hlt := h.lt
  obtain ⟨es, clock, hb, hl, hn, hc, hk⟩ := h
  refine ⟨.mapIter (some b) clock #[] clock, ?_, es, clock, #[], ?_, World.alloc_heap_new w _, hl, hn, hc, hk, ?_⟩
  · simp [Instr.range, Sem.run_bind, run_underlying ht, MapKept.run_getObj_map hb, Result.andThen]
  · exact (Below.heap_alloc w _ b hlt).trans hb
  · rw [← hl]
    congr 1
    rw [List.filter_eq_self]
    intro x _
    simp

theorem run_getObj_iter {r : Nat} {m : Option Nat} {since last : Nat} {seen : Array Nat} (h : w.heap[r]? = some (.mapIter m since seen last)) : (getObj r).run P w = .ok (.mapIter m since seen last) w := by
  simp [getObj, Sem.run, h]
theorem run_setObj_iter {r : Nat} {m : Option Nat} {since last : Nat} {seen : Array Nat} (o : Obj) (h : w.heap[r]? = some (.mapIter m since seen last)) : (setObj r o).run P w = .ok () (w.putObj r o) := by
  simp [setObj, Sem.run, h, World.putObj]

theorem run_next_done {r : Nat} {ty : TypeId} (h : Rng w r b ek l []) : (Instr.next (.pointer (some ⟨r, 0, none⟩)) false ty).run P w = .ok (.tuple #[.bool false]) w := by
  obtain ⟨es, clock, seen, hb, hr, hl, hn, hc, hk, ht⟩ := h
  have hleft : es.filter (fun e => !seen.contains e.born) = #[] := by
    apply Array.toList_inj.1
    rw [Array.toList_filter]
    simpa using ht
  have hall : ((!seen.isEmpty && !es.isEmpty) && es.all (fun e => decide (e.born ≥ clock))) = false := by
    rcases Nat.eq_zero_or_pos es.size with h0 | h0
    · have : es.isEmpty = true := by simpa [Array.isEmpty] using h0
      simp [this]
    · have : es.all (fun e => decide (e.born ≥ clock)) = false := by
        rw [← Bool.not_eq_true, Array.all_eq_true']
        intro hh
        have h1 := hh es[0] (Array.getElem_mem h0)
        have h2 := hc es[0] (Array.mem_toList_iff.2 (Array.getElem_mem h0))
        simp only [ge_iff_le, decide_eq_true_eq] at h1
        omega
      simp [this]
  simp only [Instr.next, Sem.run_bind, run_getObj_iter hr, Result.andThen, MapKept.run_getObj_map hb, hall, hleft]
  simp [Question.forced, Result.andThen]

theorem run_next_one {r : Nat} {ty : TypeId} {todo : List (α × Value)} (h : Rng w r b ek l todo) (h0 : todo ≠ []) :
    ∃ pre p post w', todo = pre ++ p :: post ∧ (Instr.next (.pointer (some ⟨r, 0, none⟩)) false ty).run P w = .ok (.tuple #[.bool true, ek p.1, p.2]) w' ∧ Rng w' r b ek l (pre ++ post) ∧ w.grownBy w' (some r) ∧ (Instr.entry (.pointer (some ⟨r, 0, none⟩))).run P w' = .ok (.tuple #[ek p.1, p.2]) w' := by
  have hrlt := h.lt
  have hrb := h.ne
  obtain ⟨es, clock, seen, hb, hr, hl, hn, hc, hk, ht⟩ := h
  obtain ⟨left, hleft⟩ : ∃ left, left = es.filter (fun e => !seen.contains e.born) := ⟨_, rfl⟩
  have hll : left.toList = es.toList.filter (fun e => !seen.contains e.born) := by rw [hleft, Array.toList_filter]
  have hlen : left.toList.length = todo.length := by
    have := congrArg List.length ht
    simpa [hll] using this
  have hpos : 0 < left.size := by
    have : 0 < todo.length := List.length_pos_iff.2 h0
    rw [← hlen] at this
    simpa using this
  have hall : ((!seen.isEmpty && !es.isEmpty) && es.all (fun e => decide (e.born ≥ clock))) = false := by
    rcases Nat.eq_zero_or_pos es.size with h0 | h0
    · have : es.isEmpty = true := by simpa [Array.isEmpty] using h0
      simp [this]
    · have : es.all (fun e => decide (e.born ≥ clock)) = false := by
        rw [← Bool.not_eq_true, Array.all_eq_true']
        intro hh
        have h1 := hh es[0] (Array.getElem_mem h0)
        have h2 := hc es[0] (Array.mem_toList_iff.2 (Array.getElem_mem h0))
        simp only [ge_iff_le, decide_eq_true_eq] at h1
        omega
      simp [this]
  have hmem : ∀ e ∈ left.toList, e ∈ es.toList := fun e he => by rw [hll] at he; exact (List.mem_filter.1 he).1
  have hold : left.filter (fun e => decide (e.born < clock)) = left := by
    apply Array.toList_inj.1
    rw [Array.toList_filter, List.filter_eq_self]
    intro e he
    simpa using hc e (hmem e he)
  have hnew : left.filter (fun e => decide (e.born ≥ clock)) = #[] := by
    apply Array.toList_inj.1
    rw [Array.toList_filter, List.filter_eq_nil_iff]
    intro e he
    simpa using hc e (hmem e he)
  have hne : left.isEmpty = false := by
    simp only [Array.isEmpty, decide_eq_false_iff_not]
    omega
  obtain ⟨k, w1, hk1, hrunk, hw1⟩ : ∃ k w1, k < left.size ∧ (choose (.mapNext left.size)).run P w = .ok k w1 ∧ (w1 = w ∨ w1 = w.drew) := by
    by_cases h1 : left.size ≤ 1
    · exact ⟨0, w, hpos, by rw [run_choose_drew]; simp [Question.forced, h1], .inl rfl⟩
    · refine ⟨_, w.drew, ?_, by rw [run_choose_drew]; simp [Question.forced, h1]; rfl, .inr rfl⟩
      exact Nat.mod_lt _ hpos
  have hkl : k < left.toList.length := by simpa using hk1
  have hkt : k < todo.length := by omega
  have hkey : (left[k].key, left[k].val) = (ek todo[k].1, todo[k].2) := by
    have := congrArg (fun q => q[k]?) ht
    rw [← hll] at this
    simp only [List.getElem?_map, List.getElem?_eq_getElem hkl, List.getElem?_eq_getElem hkt, Option.map_some, Option.some.injEq] at this
    simpa using this
  have hh0 : w1.heap = w.heap := by rcases hw1 with rfl | rfl <;> rfl
  have hh1 : ∀ j : Nat, w1.heap[j]? = w.heap[j]? := fun j => by rw [hh0]
  have hg1 : w.grownBy w1 (some r) := by
    rcases hw1 with rfl | rfl
    · exact ⟨rfl, rfl, rfl, Nat.le_refl _, fun _ _ _ => rfl⟩
    · exact ⟨rfl, rfl, rfl, Nat.le_refl _, fun _ _ _ => rfl⟩
  have hs1 : w1.heap.size = w.heap.size := by rcases hw1 with rfl | rfl <;> rfl
  have hr1 := (hh1 r).trans hr
  refine ⟨todo.take k, todo[k], todo.drop (k + 1), w1.putObj r (.mapIter (some b) clock (seen.push left[k].born) clock), ?_, ?_, ?_, ?_, ?_⟩
  · rw [List.getElem_cons_drop, List.take_append_drop]
  · simp only [Prod.mk.injEq] at hkey
    simp only [Instr.next, Sem.run_bind, run_getObj_iter hr, Result.andThen, MapKept.run_getObj_map hb, hall, ← hleft, hold, hnew, hne]
    rw [run_choose_drew] at hrunk
    simp [hrunk, Result.andThen, run_setObj_iter _ hr1, hk1, hkey.1, hkey.2]
  · refine ⟨es, clock, seen.push left[k].born, (World.putObj_heap_other (fun e => hrb e.symm)).trans ((hh1 b).trans hb), World.putObj_heap_same (by rw [hs1]; exact hrlt), hl, hn, hc, hk, ?_⟩
    have e1 : es.toList.filter (fun e => !(seen.push left[k].born).contains e.born) = left.toList.filter (fun e => decide (e.born ≠ left[k].born)) := by
      rw [hll, List.filter_filter]
      apply List.filter_congr
      intro e _
      by_cases h1 : e.born = left[k].born <;> simp [h1, Array.contains, Bool.and_comm]
    have hnl : (left.toList.map (·.born)).Nodup := by
      rw [hll]
      exact (List.filter_sublist.map _).nodup hn
    have e2 : left.toList.filter (fun e => decide (e.born ≠ left[k].born)) = left.toList.take k ++ left.toList.drop (k + 1) := by
      have hsplit : left.toList = left.toList.take k ++ left[k] :: left.toList.drop (k + 1) := by
        have : left[k] = left.toList[k]'hkl := by simp
        rw [this, List.getElem_cons_drop, List.take_append_drop]
      rw [hsplit, List.map_append, List.map_cons, List.nodup_append, List.nodup_cons] at hnl
      obtain ⟨_, ⟨h2, _⟩, h3⟩ := hnl
      conv => lhs; rw [hsplit]
      rw [List.filter_append, List.filter_cons_of_neg (by simp)]
      congr 1
      · rw [List.filter_eq_self]
        intro e he
        have := h3 e.born (List.mem_map.2 ⟨e, he, rfl⟩) left[k].born (by simp)
        simpa using this
      · rw [List.filter_eq_self]
        intro e he
        have : e.born ≠ left[k].born := fun e' => h2 (e' ▸ List.mem_map.2 ⟨e, he, rfl⟩)
        simpa using this
    rw [e1, e2]
    have ht2 : left.toList.map (fun e => (e.key, e.val)) = todo.map (fun p => (ek p.1, p.2)) := by rw [hll]; exact ht
    rw [List.map_append, List.map_append, List.map_take, List.map_drop, List.map_take, List.map_drop, ht2]
  · exact World.grownBy.trans hg1 ⟨rfl, rfl, rfl, by simp, fun j _ hj => World.putObj_heap_other (fun e => hj (by rw [e]))⟩
  · have h1 : (w1.putObj r (.mapIter (some b) clock (seen.push left[k].born) clock)).heap[r]? = some (.mapIter (some b) clock (seen.push left[k].born) clock) := World.putObj_heap_same (by rw [hs1]; exact hrlt)
    have h2 : (w1.putObj r (.mapIter (some b) clock (seen.push left[k].born) clock)).heap[b]? = some (.map es clock) := (World.putObj_heap_other (fun e => hrb e.symm)).trans ((hh1 b).trans hb)
    have hmk : left[k] ∈ es.toList := hmem _ (by simp)
    have h3 : es.find? (fun e => e.born == left[k].born) = some left[k] := by
      rw [← Array.find?_toList]
      cases hf : es.toList.find? (fun e => e.born == left[k].born) with
      | none =>
        have := List.find?_eq_none.1 hf left[k] hmk
        simp at this
      | some e =>
        have h4 := List.find?_some hf
        have h5 := List.mem_of_find?_eq_some hf
        simp only [beq_iff_eq] at h4
        obtain ⟨i, hi, hi2⟩ := List.getElem_of_mem h5
        obtain ⟨j, hj, hj2⟩ := List.getElem_of_mem hmk
        have h6 : i = j := by
          have h7 : (es.toList.map (·.born))[i]'(by simpa using hi) = (es.toList.map (·.born))[j]'(by simpa using hj) := by
            simp only [List.getElem_map, hi2, hj2, h4]
          rcases Nat.lt_trichotomy i j with hlt | rfl | hlt
          · exact absurd h7 (List.pairwise_iff_getElem.1 hn i j _ _ hlt)
          · rfl
          · exact absurd h7.symm (List.pairwise_iff_getElem.1 hn j i _ _ hlt)
        subst h6
        rw [← hi2, ← hj2]
    simp only [Prod.mk.injEq] at hkey
    simp [Instr.entry, Sem.run_bind, run_getObj_iter h1, Result.andThen, MapKept.run_getObj_map h2, h3, hkey.1, hkey.2]
end

/-! ### laws of the keys' types -/
theorem findNow_int {q : IntKind} (x : Int) : ∀ (es : List MapEntry) (l : List (Int × Value)) (i : Nat), es.map (fun e => (e.key, e.val)) = l.map (fun p => (Value.int q p.1, p.2)) → Instr.findNow (.int q) (.int q x) es i = some (findIx x l i)
  | [], l, i, h => by
    have : l = [] := by simpa using h.symm
    simp [this, Instr.findNow, findIx]
  | e :: es, [], i, h => by simp at h
  | e :: es, p :: l, i, h => by
    simp only [List.map_cons, List.cons.injEq, Prod.mk.injEq] at h
    obtain ⟨⟨h1, h2⟩, h3⟩ := h
    by_cases hx : x = p.1
    · simp [Instr.findNow, h1, Instr.sameNow, findIx, hx, h2]
    · have hb : (x == p.1) = false := by simpa using hx
      simp [Instr.findNow, h1, Instr.sameNow, findIx, hx, hb, findNow_int x es l (i + 1) h3]
theorem KL.int {P : Program} {kt : TypeId} {q : IntKind} (hk : P.underlying kt = some (.int q)) : KL P kt (fun x : Int => .int q x) where
  find := fun x es l w h => by
    simp [Instr.findKey, Sem.run_bind, run_underlying hk, Result.andThen, findNow_int x es l 0 h]
  check := fun em x w => by rw [show (10000 : Nat) = 9999 + 1 from rfl, Instr.checkKey]; simp [Sem.run_bind, run_underlying hk, Result.andThen]
  bits := fun x => by rw [show (10000 : Nat) = 9999 + 1 from rfl, Instr.sameBits]; simp
end Go.Proofs.Ytccngacadolgfaa.Mp
