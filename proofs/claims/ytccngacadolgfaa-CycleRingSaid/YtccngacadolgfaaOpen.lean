/- What came in as data, opened by its kind: a slice of structs, a struct of slices of slices, as the print's kinds say it. No condition beyond each theorem's own. -/
import Derived.Test.YtccngacadolgfaaWMore
import Derived.Test.YtccngacadolgfaaWWords
import Derived.ChangeArms
import Derived.ChangeShapes
import Derived.WideShapes
import Derived.ChangeOld
import Derived.DataReads
import Derived.OpenShut
set_option linter.unusedVariables false
set_option linter.unusedSimpArgs false
namespace Go.Proofs.Ytccngacadolgfaa.P
open Go.RowKit Go.WideShapes Go.Proofs.YtccngacadolgfaaW.PrintWords Go.Proofs.YtccngacadolgfaaW.PrintLast Go.Proofs.YtccngacadolgfaaW.PrintMore

/-- Whatever reads as data of type t is of kind d. -/
structure Opens {α : Type} (P : Program) (d : Kd α) (t : TypeId) (wf : α → Prop) : Prop where
  out : ∀ {H : Type} (enc : TypeId × Value → H) (w : World) (base : Nat) (sp : Nat → Bool) (held : Bool) (fuel : Nat) (cs : List Value) (x : DataW H × List MemPlace), DataW.trod enc P w base sp held fuel t cs = some x → ∃ v : α, d.K w v cs ∧ wf v
/-- The same for fields that stand in line from a place on. -/
structure OpensFs {α : Type} (P : Program) (d : Kd α) (fs : List Field) (off : Nat) (wf : α → Prop) : Prop where
  out : ∀ {H : Type} (enc : TypeId × Value → H) (w : World) (base : Nat) (sp : Nat → Bool) (held : Bool) (n : Nat) (cs : List Value), (∀ f ∈ fs, ∃ y : DataW H × List MemPlace, DataW.trod enc P w base sp held n f.type ((cs.drop f.offset).take (P.cellsOf f.type)) = some y) → ∃ v : α, d.K w v ((cs.drop off).take d.sz) ∧ wf v

section
variable {α β : Type} {P : Program} {t e : TypeId} {d : Kd α} {b : Kd β} {wf : α → Prop} {wfb : β → Prop}
theorem Opens.int {k : IntKind} (ht : P.underlying t = some (.int k)) : Opens P (Kd.int k) t (fun n => (Lit.int k n).wf = true) := ⟨fun enc w base sp held fuel cs x h => by
  obtain ⟨n, rfl, _, hw⟩ := DataW.trod_int ht h
  exact ⟨n, rfl, hw⟩⟩
theorem Opens.bool (ht : P.underlying t = some .bool) : Opens P Kd.bool t (fun _ => True) := ⟨fun enc w base sp held fuel cs x h => by
  obtain ⟨b, rfl, _⟩ := DataW.trod_bool ht h
  exact ⟨b, rfl, trivial⟩⟩
theorem Opens.string (ht : P.underlying t = some .string) : Opens P Kd.string t (fun s => s.size ≤ maxLen) := ⟨fun enc w base sp held fuel cs x h => by
  obtain ⟨s, rfl, _, hs⟩ := DataW.trod_string ht h
  exact ⟨s, rfl, hs⟩⟩
theorem opens_choose {n : Nat} {p : Nat → α → Prop} (h : ∀ i, i < n → ∃ v, p i v) : ∃ l : List α, l.length = n ∧ ∀ i v, l[i]? = some v → p i v := by
  induction n with
  | zero => exact ⟨[], rfl, fun i v hv => by simp at hv⟩
  | succ n ih =>
    obtain ⟨l, hl, hp⟩ := ih (fun i hi => h i (by omega))
    obtain ⟨v, hv⟩ := h n (by omega)
    refine ⟨l ++ [v], by simp [hl], fun i u hu => ?_⟩
    rcases Nat.lt_or_ge i l.length with hi | hi
    · rw [List.getElem?_append_left hi] at hu
      exact hp i u hu
    · have hi' : i = l.length := by
        have := (List.getElem?_eq_some_iff.1 hu).1
        rw [List.length_append, List.length_singleton] at this
        omega
      subst hi'
      have : v = u := by simpa using hu
      subst this
      rw [hl]
      exact hv
theorem add_add (a : Addr) (i j : Nat) (h : 0 < i ∨ True) : (a.add i).add j = a.add (i + j) := by
  unfold Addr.add
  by_cases h1 : i = 0 <;> by_cases h2 : j = 0 <;> simp_all [Nat.add_assoc]
theorem Opens.slice (ht : P.underlying t = some (.slice e)) (hd : Opens P d e wf) (hsz : P.cellsOf e = d.sz) : Opens P (Kd.slice e d) t (fun xs => xs.length ≤ maxLen ∧ ∀ x ∈ xs, wf x) := ⟨fun enc w base sp held fuel cs x h => by
  rcases DataW.trod_slice ht h with ⟨rfl, _⟩ | ⟨a, len, cap, elems, rest, n, _, rfl, _, hb, hl, hm, hlen, hel, _, _⟩
  · exact ⟨[], ⟨none, 0, rfl, Nat.le_refl _, rfl, by simp, fun hp => absurd hp (by simp)⟩, by simp, by simp⟩
  · have each : ∀ i, i < len → ∃ v : α, (∃ c : List Value, c.length = d.sz ∧ d.K w v c ∧ ∀ j u, c[j]? = some u → w.cell? (a.add (i * d.sz + j)) = some u) ∧ wf v := by
      intro i hi
      have h1 := hel i hi
      rw [List.getElem?_eq_getElem (by omega)] at h1
      obtain ⟨c, hc, hy⟩ := Option.bind_eq_some_iff.1 h1
      obtain ⟨v, hv, hw⟩ := hd.out enc w base sp held n c _ hy
      obtain ⟨_, hcl, hcell⟩ := World.cells?_some hc
      refine ⟨v, ⟨c, by rw [hcl, hsz], hv, fun j u hu => ?_⟩, hw⟩
      have hj : j < c.length := (List.getElem?_eq_some_iff.1 hu).1
      rw [← hu, ← hcell j (by omega), add_add _ _ _ (.inr trivial), hsz]
    obtain ⟨l, hll, hlp⟩ := opens_choose each
    subst hll
    refine ⟨l, ⟨some a, cap, rfl, hl, rfl, by unfold maxLen at hm; omega, fun _ => ⟨a, rfl, fun j p hj => (hlp j p hj).1⟩⟩, Nat.le_trans hl hm, fun y hy => ?_⟩
    obtain ⟨i, hi⟩ := List.getElem?_of_mem hy
    exact (hlp i y hi).2⟩
theorem OpensFs.one {f : Field} {off : Nat} (hd : Opens P d f.type wf) (hoff : f.offset = off) (hsz : P.cellsOf f.type = d.sz) : OpensFs P d [f] off wf := ⟨fun enc w base sp held n cs h => by
  obtain ⟨y, hy⟩ := h f (by simp)
  rw [hoff, hsz] at hy
  exact hd.out enc w base sp held n _ _ hy⟩
theorem OpensFs.cons {f : Field} {fs : List Field} {off : Nat} (hd : Opens P d f.type wf) (hoff : f.offset = off) (hsz : P.cellsOf f.type = d.sz) (hb : OpensFs P b fs (off + d.sz) wfb) : OpensFs P (Kd.pair d b) (f :: fs) off (fun p => wf p.1 ∧ wfb p.2) := ⟨fun enc w base sp held n cs h => by
  obtain ⟨y, hy⟩ := h f (by simp)
  rw [hoff, hsz] at hy
  obtain ⟨v, hv, hw⟩ := hd.out enc w base sp held n _ _ hy
  obtain ⟨u, hu, hwu⟩ := hb.out enc w base sp held n cs (fun g hg => h g (by simp [hg]))
  refine ⟨(v, u), ⟨_, _, ?_, hv, hu⟩, hw, hwu⟩
  show (cs.drop off).take (d.sz + b.sz) = _
  rw [List.take_add, List.drop_drop]⟩
theorem OpensFs.iso {γ : Type} {fs : List Field} {off : Nat} (hd : OpensFs P d fs off wf) (f : γ → α) (g : α → γ) (hfg : ∀ a, f (g a) = a) : OpensFs P (Kd.iso d f) fs off (fun x => wf (f x)) := ⟨fun enc w base sp held n cs h => by
  obtain ⟨v, hv, hw⟩ := hd.out enc w base sp held n cs h
  exact ⟨g v, by show d.K w (f (g v)) _; rw [hfg]; exact hv, by show wf (f (g v)); rw [hfg]; exact hw⟩⟩
theorem Opens.struct {fs : Array Field} (ht : P.underlying t = some (.struct fs)) (hf : OpensFs P d fs.toList 0 wf) (hsz : P.cellsOf t = d.sz) : Opens P d t wf := ⟨fun enc w base sp held fuel cs x h => by
  obtain ⟨xs, n, _, _, hl, hxs, hall⟩ := DataW.trod_struct ht h
  obtain ⟨v, hv, hw⟩ := hf.out enc w base sp held n cs (fun f hf => by
    obtain ⟨i, hi⟩ := List.getElem?_of_mem hf
    rw [Array.getElem?_toList] at hi
    have h1 := hall i f hi
    rw [List.getElem?_eq_getElem (by rw [hxs]; exact (Array.getElem?_eq_some_iff.1 hi).1)] at h1
    exact ⟨_, h1⟩)
  refine ⟨v, ?_, hw⟩
  rw [List.drop_zero, List.take_of_length_le (by omega)] at hv
  exact hv⟩
theorem Opens.mono {wf' : α → Prop} (h : Opens P d t wf) (hw : ∀ x, wf x → wf' x) : Opens P d t wf' := ⟨fun enc w base sp held fuel cs x hx => by
  obtain ⟨v, hv, hw'⟩ := h.out enc w base sp held fuel cs x hx
  exact ⟨v, hv, hw v hw'⟩⟩
/-- A slice that came in. -/
theorem opens_slice {wf' : List α → Prop} {H : Type} {enc : TypeId × Value → H} {w : World} {sp : Nat → Bool} {held : Bool} {r : Reach} {base : Nat} {v : Value} {dd : DataW H} {ps : List MemPlace} (ht : P.underlying t = some (.slice e)) (hd : Opens P (Kd.slice e d) t wf') (hv : Value.okWide P w r base t v) (h : DataW.Trod enc P w 0 sp held t v dd ps) :
    ∃ (A : Option Addr) (c : Nat) (l : List α), v = .slice A l.length c ∧ d.C w A l.length l ∧ l.length ≤ c ∧ wf' l := by
  obtain ⟨a, n, c, rfl⟩ := okWide_slice ht hv
  obtain ⟨fuel, hf⟩ := h
  obtain ⟨l, ⟨A, c', hcs, hl, hC⟩, hw⟩ := hd.out enc w 0 sp held fuel _ _ hf
  simp [Value.cells] at hcs
  obtain ⟨rfl, rfl, rfl⟩ := hcs
  exact ⟨a, c, l, rfl, hC, hl, hw⟩
/-- A struct that came in. -/
theorem opens_struct {H : Type} {enc : TypeId × Value → H} {w : World} {sp : Nat → Bool} {held : Bool} {r : Reach} {base : Nat} {v : Value} {dd : DataW H} {ps : List MemPlace} {fs : Array Field} (ht : P.underlying t = some (.struct fs)) (hd : Opens P d t wf) (hv : Value.okWide P w r base t v) (h : DataW.Trod enc P w 0 sp held t v dd ps) :
    ∃ (cs : Array Value) (x : α), v = .agg cs ∧ d.K w x cs.toList ∧ wf x := by
  simp only [Value.okWide, ht] at hv
  obtain ⟨cs, rfl, _⟩ := hv
  obtain ⟨fuel, hf⟩ := h
  obtain ⟨x, hx, hw⟩ := hd.out enc w 0 sp held fuel _ _ hf
  exact ⟨cs, x, rfl, by simpa [Value.cells] using hx, hw⟩
end
end Go.Proofs.Ytccngacadolgfaa.P
