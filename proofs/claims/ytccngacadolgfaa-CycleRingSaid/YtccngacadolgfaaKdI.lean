/- Rows of the print's kinds inside a fence, and beside blocks that are no cells. No condition beyond each law's own. -/
import Derived.Test.YtccngacadolgfaaQ0
import Derived.Test.YtccngacadolgfaaMp
import Derived.RangeFuncNested
import Derived.RangeFuncBox
import Derived.Maps.OwnIn
set_option linter.unusedVariables false
set_option linter.unusedSimpArgs false
namespace Go.Proofs.Ytccngacadolgfaa.P
open Go.RowKit Go.Proofs.YtccngacadolgfaaW.PrintWords Go.Proofs.YtccngacadolgfaaW.PrintLast Go.Proofs.YtccngacadolgfaaW.PrintMore

section
variable {α : Type} {d : Kd α} {e : Nat} {w w1 : World} {base : Nat} {ok : Nat → Prop} {v : Value} {xs : List α}
/-- A block that is no cells has turned: a row stays. -/
theorem R_notcells (h : Kd.R d e w base ok v xs) {row : Option Nat} (hg : w.grownBy w1 row) (hr : ∀ r, row = some r → ∃ o : Obj, w.heap[r]? = some o ∧ o.isCells = false) : Kd.R d e w1 base ok v xs :=
  Kd.R_mono (Kd.R_grown (Kd.R_bound h) hg (fun k hk he => by
    obtain ⟨_, _, _, q, _, cells, hc⟩ := hk
    obtain ⟨o, ho, hn⟩ := hr k he.symm
    rw [hc] at ho
    cases ho
    cases hn)) (fun _ hk => hk.1)
theorem R_putObj (h : Kd.R d e w base ok v xs) {r : Nat} {o : Obj} (o' : Obj) (hr : w.heap[r]? = some o) (ho : o.isCells = false) : Kd.R d e (w.putObj r o') base ok v xs :=
  R_notcells h (grownBy_putObj' w r o') (fun r' er => by cases er; exact ⟨o, hr, ho⟩)
/-- A map's block is none of a row's. -/
theorem R_map {β : Type} [DecidableEq β] {b : Nat} {ek : β → Value} {l : List (β × Value)} (h : Kd.R d e w base ok v xs) (hm : Mp.At w b ek l) : Kd.R d e w base (fun k => ok k ∧ k ≠ b) v xs :=
  Kd.R_mono (Kd.R_bound h) (fun k hk => ⟨hk.1, by
    obtain ⟨_, _, _, q, _, cells, hc⟩ := hk
    obtain ⟨es, clock, hb, _⟩ := hm
    rintro rfl
    rw [hc] at hb
    cases hb⟩)
theorem R_map_turned {β : Type} [DecidableEq β] {b : Nat} {ek : β → Value} {l : List (β × Value)} (h : Kd.R d e w base ok v xs) (hm : Mp.At w b ek l) (hg : w.grownBy w1 (some b)) : Kd.R d e w1 base ok v xs :=
  R_notcells h hg (fun r er => by
    cases er
    obtain ⟨es, clock, hb, _⟩ := hm
    exact ⟨_, hb, rfl⟩)
/-- A row is written: a map stays. -/
theorem map_row {β : Type} [DecidableEq β] {b : Nat} {ek : β → Value} {l : List (β × Value)} (hm : Mp.At w b ek l) (h : Kd.R d e w base ok v xs) (hg : w.grownBy w1 v.ownBlock) : Mp.At w1 b ek l :=
  hm.kept hg (fun he => by
    obtain ⟨es, clock, hb, _⟩ := hm
    obtain ⟨_, inner, ho, _⟩ := h
    obtain ⟨cells, hc⟩ := own_typed ho b he.symm
    rw [hc] at hb
    cases hb)
end
section
variable {F : Fence} {nF : Nat} {P : Program} {ops : Array Oper} {rest : List Oper} {o : Oper} {a : Act} {Q : Exit → Act → World → Prop} {α : Type}
/-- append(v, x), inside a fence. -/
theorem R_appendI (d : Kd α) {w0 W : World} (base : Nat) (hgd : o.guard = none) (s x : Operand) (t e : TypeId) (z : Value) (bytes : Nat)
    (ho : o.op = .call { callee := .builtin .append, args := #[s, x], argTypes := #[t, t] })
    (ht : P.underlying t = some (.slice e)) (hinfo : (P.info? e).map (fun i => (i.zero, i.size, i.bytes)) = some (some z, d.sz, bytes)) (hz : z.cells.size = d.sz) (hs0 : 0 < d.sz) (hb0 : 0 < bytes)
    (v : Value) (xs : List α) (p : α) (cs : List Value) (ok okp : Nat → Prop) (hs : a.eval s = v) (hx : a.eval x = .slice (some ⟨W.heap.size, 0, none⟩) 1 1) (hp : d.M W base okp p cs) (hokp : ∀ k, okp k → ok k ∧ some k ≠ v.ownBlock) (hfresh : ∀ k, W.heap.size ≤ k → ok k)
    (HO : Kd.R d e W base ok v xs) (HB : Below base w0 W) (hbase : base ≤ W.heap.size) (hl : (xs.length + 1) * bytes ≤ 140737488355328)
    (h : ∀ v1 w1, Kd.R d e w1 base ok v1 (xs ++ [p]) → Below base w0 w1 → W.grownBy w1 v.ownBlock → (v1.ownBlock = v.ownBlock ∨ ∃ b, v1.ownBlock = some b ∧ W.heap.size ≤ b) → wpListIn F nF P ops Q rest (a.put o.dst v1) w1) :
    wpListIn F nF P ops Q (o :: rest) a (W.alloc (.cells cs.toArray e)) := by
  obtain ⟨h0, inner, hown, hr⟩ := HO
  obtain ⟨i0, hi, hzz⟩ := Option.map_eq_some_iff.1 hinfo
  simp only [Prod.mk.injEq] at hzz
  obtain ⟨hz0, hz1, hz2⟩ := hzz
  have hys : cs.length = d.sz := d.K_len (d.K_of_M hp)
  have hlen : xs.length + 1 ≤ 140737488355328 := Nat.le_trans (Nat.le_mul_of_pos_right _ hb0) hl
  refine wpListIn_append_own_at (W.alloc (.cells cs.toArray e)) hgd s x t ho base e i0 z d.sz bytes ht hi hz0 hz1 hz2 hz hs0 v xs.length inner hs (hown.alloc _) ⟨W.heap.size, 0, none⟩ 1 1 cs hx (by rw [hys]; simp)
    (by simpa using World.news_of_block (cs := cs.toArray) (t := e) (fr := (0, 0)) (heap_alloc_new W (.cells cs.toArray e))) (d.K_one (d.K_of_M hp)) (by simp only [maxLen]; omega) hl (by simp; omega) ?_
  intro v1 w1 hown1 hg _ hat
  have hg1 : W.grownBy w1 v.ownBlock := World.grownBy.trans (World.grownBy_alloc W _ _) hg
  have hat1 : v1.ownBlock = v.ownBlock ∨ ∃ b, v1.ownBlock = some b ∧ W.heap.size ≤ b := by
    rcases hat with hat | hat
    · exact .inl hat
    · exact .inr ⟨_, hat, by simp⟩
  exact h v1 w1 (Kd.R_appended h0 hr hp hokp hfresh hown1 hg1 hat1) ((HB.alloc hbase _).grown hg (by simp; omega) (own_base hown)) hg1 hat1
end
end Go.Proofs.Ytccngacadolgfaa.P
