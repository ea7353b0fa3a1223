/- slices.SortFunc of jobs of the call's own, by whatever comparison that comes to cmpJob: the slice then owns them sorted. Conditions: as the theorem says. -/
import Derived.Test.YthbpjlfpfpcpbaaSortK
import Derived.Test.YthbpjlfpfpcpbaaOrder
set_option linter.unusedVariables false
set_option linter.unusedSimpArgs false
namespace Go.Proofs.Ythbpjlfpfpcpbaa.P
open Go.RowKit Go.Sort Go.Shelf Go.Proofs.YthbpjlfpfpcpbaaW.PrintWords Go.Proofs.YthbpjlfpfpcpbaaW.PrintLast Go.Proofs.YthbpjlfpfpcpbaaW.PrintMore

theorem ltJob_iff (x y : S24) : ltOf cmpJob x y = true ↔ x.f0 < y.f0 ∨ (x.f0 = y.f0 ∧ x.f1 < y.f1) := by
  by_cases a : x.f0 < y.f0 <;> by_cases b : y.f0 < x.f0 <;> by_cases c : x.f1 < y.f1 <;> by_cases d : y.f1 < x.f1 <;> simp [ltOf, cmpJob, cmpI, a, b, c, d] <;> omega
theorem ltJob_not (x y : S24) : ltOf cmpJob x y = false ↔ ¬ (x.f0 < y.f0 ∨ (x.f0 = y.f0 ∧ x.f1 < y.f1)) := by
  rw [← ltJob_iff, Bool.not_eq_true]
theorem swoJob : SWO (ltOf cmpJob) where
  irrefl := fun x => by rw [ltJob_not]; omega
  trans := fun x y z h1 h2 => by rw [ltJob_iff] at *; omega
  ntrans := fun x y z h1 h2 => by rw [ltJob_not] at *; omega
theorem totJob (x y : S24) (h1 : ltOf cmpJob x y = false) (h2 : ltOf cmpJob y x = false) : x = y := by
  rw [ltJob_not] at *
  obtain ⟨a, b⟩ := x
  obtain ⟨c, d⟩ := y
  simp only at *
  have e1 : a = c := by omega
  have e2 : b = d := by omega
  rw [e1, e2]

/-- Jobs, rising. -/
def sortJobs (l : List S24) : List S24 := l.mergeSort (fun x y => !(ltOf cmpJob) y x)
def encJob (x : S24) : List Value := [.int .i64 x.f0, .int .u8 x.f1]

theorem rowJob {w : World} {base : Nat} {ok : Nat → Prop} {v : Value} {ss : List S24} (h : Kd.R k24 24 w base ok v ss) : w.ownsRow base 24 2 v ss.length (ss.flatMap encJob) := by
  obtain ⟨_, inner, ho, hr⟩ := h
  have : inner = ss.flatMap encJob := flat_unique (k := 2) (fun _ => rfl) ss inner hr.1 (fun j x hx => k24_openM (hr.2 j x hx))
  rw [← this]
  exact ho
theorem jobRow {w : World} {base : Nat} {ok : Nat → Prop} {v : Value} {ss : List S24} (h : w.ownsRow base 24 2 v ss.length (ss.flatMap encJob)) (hok : ∀ k, v.ownBlock = some k → ok k) : Kd.R k24 24 w base ok v ss :=
  ⟨hok, _, h, by rw [flat_length (k := 2) (fun _ => rfl)]; rfl, fun j x hx => by
    have h2 := flat_at (enc := encJob) (k := 2) (fun _ => rfl) ss j x hx
    show Kd.M k24 _ _ _ x (((ss.flatMap encJob).drop (j * 2)).take 2)
    rw [h2]
    exact k24_mkM _ _ _ x⟩

theorem sort_jobs (g : Nat) (eg : ∀ args w, (callFunc g args).run Try.prog w = .ok (.enter g args) w)
    (hcmp : ∀ (x y : S24) (W : World), Calls Try.prog g #[ejob x, ejob y] W fun e w' => e = .returned (.int .i64 (cmpJob x y)) ∧ ∃ q os', w' = grow (W.drewN q) os')
    {w : World} {base : Nat} {v : Value} {ss : List S24} (h : Kd.R k24 24 w base (fun _ => True) v ss) (hsz : ss.length < 4611686018427387904) :
    Calls Try.prog 27 #[v, .func (.func g) #[] #[]] w fun e w' => e = .returned (.tuple #[]) ∧ Kd.R k24 24 w' base (fun _ => True) v (sortJobs ss) ∧ w.grownBy w' v.ownBlock := by
  have hown := rowJob h
  rcases hown.2 with ⟨rfl, h0⟩ | ⟨g0, cap, cur, rfl, hbase, hb, h1, h2, h3, h4⟩
  · have hss : ss = [] := List.eq_nil_of_length_eq_zero h0
    subst hss
    have hc := AnyF.slices_SortFunc_none Try.sortJob none 0 (.func (.func g) #[] #[]) w
    change Calls Try.prog 27 #[.slice none 0 0, .func (.func g) #[] #[]] w _ at hc
    exact hc.mono fun e w' ⟨he, hw⟩ => ⟨he, by rw [hw]; simpa [sortJobs] using h, by rw [hw]; exact ⟨rfl, rfl, rfl, Nat.le_refl _, fun _ _ _ => rfl⟩⟩
  · have hH := holds_flat (k := 2) (enc := encJob) (fun _ => rfl) hb h4
    have hlt : g0 < w.heap.size := (Array.getElem?_eq_some_iff.1 hb).1
    have hc := AnyQ.slices_SortFunc_total Try.sortJob 2 Try.isAgg24 Try.sizeOf24 encJob (fun _ => rfl) (fun x u hu => by simp [encJob] at hu; rcases hu with rfl | rfl <;> rfl) cmpJob swoJob g #[] g0 0 cap ss.toArray w eg
      (fun m os dk _ x y => hcmp x y _) hH hlt (by simpa using hsz) totJob
    change Calls Try.prog 27 #[.slice (some ⟨g0, 0, none⟩) ss.toArray.size cap, .func (.func g) #[] #[]] w _ at hc
    rw [List.size_toArray] at hc
    refine hc.mono ?_
    rintro e w' ⟨he, n, os, rfl⟩
    have hlen : (sortJobs ss).length = ss.length := by simp [sortJobs]
    refine ⟨he, ?_, grownBy_sortedK _⟩
    have hr := ownsRow_sortedK (k := 2) (enc := encJob) (fun _ => rfl) (n := n) (os := os) (ts := sortJobs ss) hlen hbase hb h1 h2 h3
    refine jobRow ?_ (fun _ _ => trivial)
    rw [hlen]
    exact hr

theorem order_enters : ∀ args w, (callFunc 20 args).run Try.prog w = .ok (.enter 20 args) w := enters_of Try.func20 (by kernel_rfl) rfl
end Go.Proofs.Ythbpjlfpfpcpbaa.P
