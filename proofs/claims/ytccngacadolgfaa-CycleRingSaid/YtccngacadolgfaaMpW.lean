/- Maps in a walk: the laws of Mp at an operation, in a plain walk and inside a fence. Conditions: Mp's. -/
import Derived.Test.YtccngacadolgfaaMp
import Derived.Maps.OwnOps
import Derived.Maps.OwnIn
set_option linter.unusedVariables false
set_option linter.unusedSimpArgs false
namespace Go.Proofs.Ytccngacadolgfaa.Mp
open Go.RowKit
section
variable {α : Type} {P : Program} {kt : TypeId} {w : World} {b : Nat} {ek : α → Value} {l : List (α × Value)}
variable {ops : Array Oper} {rest : List Oper} {o : Oper} {a : Act} {Q : Exit → Act → World → Prop}

theorem wp_lookup [DecidableEq α] (hg : o.guard = none) (m x : Operand) (t : TypeId) (ok : Bool) (hop : o.op = Op.lookup t m x ok) (K : KL P kt ek) {e : TypeId} (ht : P.underlying t = some (.map kt e)) {z : Value} (hz : ∀ w : World, (zeroValue e).run P w = .ok z w)
    (hm : a.eval m = .map (some b)) (h : At w b ek l) (k : α) (hx : a.eval x = ek k)
    (hK : wpList P ops Q rest (a.put o.dst (if ok then .tuple #[(get l k).getD z, .bool (get l k).isSome] else (get l k).getD z)) w) : wpList P ops Q (o :: rest) a w := by
  refine wpList_plain hg fun K' hK' => ?_
  have hrun := run_lookup K ht hz h k ok
  unfold Oper.wp
  simp [execOp, hop, hm, hx, hrun, Result.andThen]
  exact hK' _ _ hK
theorem wp_mapUpdate [DecidableEq α] (hg : o.guard = none) (m x v : Operand) (t : TypeId) (hop : o.op = Op.mapUpdate t m x v) (K : KL P kt ek) {e : TypeId} (ht : P.underlying t = some (.map kt e))
    (hm : a.eval m = .map (some b)) (h : At w b ek l) (k : α) (hx : a.eval x = ek k) (y : Value) (hv : a.eval v = y)
    (hK : ∀ w', At w' b ek (put l k y) → w.grownBy w' (some b) → wpList P ops Q rest (a.put o.dst undef) w') : wpList P ops Q (o :: rest) a w := by
  refine wpList_plain hg fun K' hK' => ?_
  obtain ⟨ob, hrun, r1, r2, _⟩ := run_mapUpdate K ht h k y
  unfold Oper.wp
  simp [execOp, hop, hm, hx, hv, hrun, Result.andThen]
  exact hK' _ _ (hK _ r1 r2)
theorem wp_delete [DecidableEq α] (hg : o.guard = none) (m x : Operand) (t : TypeId) (hop : o.op = Op.call { callee := Callee.builtin Builtin.delete, args := #[m, x], argTypes := #[t, kt] }) (K : KL P kt ek) {e : TypeId} (ht : P.underlying t = some (.map kt e))
    (hm : a.eval m = .map (some b)) (h : At w b ek l) (k : α) (hx : a.eval x = ek k)
    (hK : ∀ w', At w' b ek (del l k) → w.grownBy w' (some b) → wpList P ops Q rest (a.put o.dst (.tuple #[])) w') : wpList P ops Q (o :: rest) a w := by
  refine wpList_plain hg fun K' hK' => ?_
  obtain ⟨ob, hrun, r1, r2, _⟩ := run_delete (ty := o.type) K ht h k
  unfold Oper.wp
  simp [execOp, hop, resolve, invoke, builtin, hm, hx, hrun, Result.andThen]
  exact hK' _ _ (hK _ r1 r2)
theorem wp_range (hg : o.guard = none) (m : Operand) (t : TypeId) (hop : o.op = Op.range t m) {e : TypeId} (ht : P.underlying t = some (.map kt e))
    (hm : a.eval m = .map (some b)) (h : At w b ek l)
    (hK : ∀ ob, Rng (w.alloc ob) w.heap.size b ek l l → wpList P ops Q rest (a.put o.dst (.pointer (some ⟨w.heap.size, 0, none⟩))) (w.alloc ob)) : wpList P ops Q (o :: rest) a w := by
  refine wpList_plain hg fun K' hK' => ?_
  obtain ⟨ob, hrun, r1⟩ := run_range ht h
  unfold Oper.wp
  simp [execOp, hop, hm, hrun, Result.andThen]
  exact hK' _ _ (hK _ r1)
theorem wp_next (hg : o.guard = none) (it : Operand) (hop : o.op = Op.next it false) {r : Nat} {todo : List (α × Value)} (hit : a.eval it = .pointer (some ⟨r, 0, none⟩)) (h : Rng w r b ek l todo)
    (hDone : todo = [] → wpList P ops Q rest (a.put o.dst (.tuple #[.bool false])) w)
    (hMore : ∀ pre p post w', todo = pre ++ p :: post → Rng w' r b ek l (pre ++ post) → w.grownBy w' (some r) → (Instr.entry (.pointer (some ⟨r, 0, none⟩))).run P w' = .ok (.tuple #[ek p.1, p.2]) w' → wpList P ops Q rest (a.put o.dst (.tuple #[.bool true, ek p.1, p.2])) w') : wpList P ops Q (o :: rest) a w := by
  refine wpList_plain hg fun K' hK' => ?_
  by_cases h0 : todo = []
  · subst h0
    have hrun := run_next_done (P := P) (ty := o.type) h
    unfold Oper.wp
    simp [execOp, hop, hit, hrun, Result.andThen]
    exact hK' _ _ (hDone rfl)
  · obtain ⟨pre, p, post, w', e1, hrun, r1, r2, r3⟩ := run_next_one (P := P) (ty := o.type) h h0
    unfold Oper.wp
    simp [execOp, hop, hit, hrun, Result.andThen]
    exact hK' _ _ (hMore pre p post w' e1 r1 r2 r3)
end
section
variable {α : Type} {F : Fence} {nF : Nat} {P : Program} {kt : TypeId} {w : World} {b : Nat} {ek : α → Value} {l : List (α × Value)}
variable {ops : Array Oper} {rest : List Oper} {o : Oper} {a : Act} {Q : Exit → Act → World → Prop}
theorem wpI_lookup [DecidableEq α] (hg : o.guard = none) (m x : Operand) (t : TypeId) (ok : Bool) (hop : o.op = Op.lookup t m x ok) (K : KL P kt ek) {e : TypeId} (ht : P.underlying t = some (.map kt e)) {z : Value} (hz : ∀ w : World, (zeroValue e).run P w = .ok z w)
    (hm : a.eval m = .map (some b)) (h : At w b ek l) (k : α) (hx : a.eval x = ek k)
    (hK : wpListIn F nF P ops Q rest (a.put o.dst (if ok then .tuple #[(get l k).getD z, .bool (get l k).isSome] else (get l k).getD z)) w) : wpListIn F nF P ops Q (o :: rest) a w := by
  refine wpListIn_plain hg fun K' hK' => ?_
  have hrun := run_lookup K ht hz h k ok
  unfold Oper.wpIn
  refine ⟨by simp [Oper.about, hop], ?_⟩
  rw [Oper.semAt_plain F _ _ (by rw [hop]; intro c hc'; cases hc')]
  simp [execOp, hop, hm, hx, hrun, Result.andThen]
  exact hK' _ _ hK
theorem wpI_mapUpdate [DecidableEq α] (hg : o.guard = none) (m x v : Operand) (t : TypeId) (hop : o.op = Op.mapUpdate t m x v) (K : KL P kt ek) {e : TypeId} (ht : P.underlying t = some (.map kt e))
    (hm : a.eval m = .map (some b)) (h : At w b ek l) (k : α) (hx : a.eval x = ek k) (y : Value) (hv : a.eval v = y)
    (hK : ∀ w', At w' b ek (put l k y) → w.grownBy w' (some b) → wpListIn F nF P ops Q rest (a.put o.dst undef) w') : wpListIn F nF P ops Q (o :: rest) a w := by
  refine wpListIn_plain hg fun K' hK' => ?_
  obtain ⟨ob, hrun, r1, r2, _⟩ := run_mapUpdate K ht h k y
  unfold Oper.wpIn
  refine ⟨by simp [Oper.about, hop], ?_⟩
  rw [Oper.semAt_plain F _ _ (by rw [hop]; intro c hc'; cases hc')]
  simp [execOp, hop, hm, hx, hv, hrun, Result.andThen]
  exact hK' _ _ (hK _ r1 r2)
theorem wpI_range (hg : o.guard = none) (m : Operand) (t : TypeId) (hop : o.op = Op.range t m) {e : TypeId} (ht : P.underlying t = some (.map kt e))
    (hm : a.eval m = .map (some b)) (h : At w b ek l)
    (hK : ∀ ob, Rng (w.alloc ob) w.heap.size b ek l l → wpListIn F nF P ops Q rest (a.put o.dst (.pointer (some ⟨w.heap.size, 0, none⟩))) (w.alloc ob)) : wpListIn F nF P ops Q (o :: rest) a w := by
  refine wpListIn_plain hg fun K' hK' => ?_
  obtain ⟨ob, hrun, r1⟩ := run_range ht h
  unfold Oper.wpIn
  refine ⟨by simp [Oper.about, hop], ?_⟩
  rw [Oper.semAt_plain F _ _ (by rw [hop]; intro c hc'; cases hc')]
  simp [execOp, hop, hm, hrun, Result.andThen]
  exact hK' _ _ (hK _ r1)
theorem wpI_next (hg : o.guard = none) (it : Operand) (hop : o.op = Op.next it false) {r : Nat} {todo : List (α × Value)} (hit : a.eval it = .pointer (some ⟨r, 0, none⟩)) (h : Rng w r b ek l todo)
    (hDone : todo = [] → wpListIn F nF P ops Q rest (a.put o.dst (.tuple #[.bool false])) w)
    (hMore : ∀ pre p post w', todo = pre ++ p :: post → Rng w' r b ek l (pre ++ post) → w.grownBy w' (some r) → (Instr.entry (.pointer (some ⟨r, 0, none⟩))).run P w' = .ok (.tuple #[ek p.1, p.2]) w' → wpListIn F nF P ops Q rest (a.put o.dst (.tuple #[.bool true, ek p.1, p.2])) w') : wpListIn F nF P ops Q (o :: rest) a w := by
  refine wpListIn_plain hg fun K' hK' => ?_
  by_cases h0 : todo = []
  · subst h0
    have hrun := run_next_done (P := P) (ty := o.type) h
    unfold Oper.wpIn
    refine ⟨by simp [Oper.about, hop], ?_⟩
    rw [Oper.semAt_plain F _ _ (by rw [hop]; intro c hc'; cases hc')]
    simp [execOp, hop, hit, hrun, Result.andThen]
    exact hK' _ _ (hDone rfl)
  · obtain ⟨pre, p, post, w', e1, hrun, r1, r2, r3⟩ := run_next_one (P := P) (ty := o.type) h h0
    unfold Oper.wpIn
    refine ⟨by simp [Oper.about, hop], ?_⟩
    rw [Oper.semAt_plain F _ _ (by rw [hop]; intro c hc'; cases hc')]
    simp [execOp, hop, hit, hrun, Result.andThen]
    exact hK' _ _ (hMore pre p post w' e1 r1 r2 r3)
end
end Go.Proofs.Ytccngacadolgfaa.Mp
