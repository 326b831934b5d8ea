/- Missions: the plain laws behind BlastWaits: an active slide stays active but where a mission ends or is given up; a misfire waits. -/
import Derived.Test.YthcdnkhgmicpoaaBlaY
import Derived.Test.YthcdnkhgmicpoaaBlaH
import Derived.Test.YthcdnkhgmicpoaaBlaB
namespace Go.Proofs.Ythcdnkhgmicpoaa
set_option linter.unusedSimpArgs false
set_option linter.unusedVariables false
open Go.RowKit
theorem fnd_idx {id : Int} : ∀ {l : List MS} {i : Int}, 0 ≤ i → (∀ m, fndM id l = some m → ∃ k : Nat, idxM id i l = i + k ∧ l[k]? = some m) ∧ (fndM id l = none → idxM id i l = -1)
  | [], i, _ => ⟨fun m h => by simp [fndM] at h, fun _ => rfl⟩
  | a :: l, i, hi => by
    have ih := fnd_idx (id := id) (l := l) (i := i + 1) (by omega)
    by_cases h : a.id = id
    · refine ⟨fun m hm => ?_, fun hn => ?_⟩
      · rw [fndM, if_pos h] at hm
        cases hm
        exact ⟨0, by rw [idxM, if_pos (by simpa using h)]; simp, rfl⟩
      · rw [fndM, if_pos h] at hn; cases hn
    · refine ⟨fun m hm => ?_, fun hn => ?_⟩
      · rw [fndM, if_neg h] at hm
        obtain ⟨k, e1, e2⟩ := ih.1 m hm
        exact ⟨k + 1, by rw [idxM, if_neg (by simpa using h), e1]; omega, e2⟩
      · rw [fndM, if_neg h] at hn
        rw [idxM, if_neg (by simpa using h)]
        exact ih.2 hn
theorem fnd_at {id : Int} {l : List MS} {k : Nat} {m : MS} (h1 : idxM id 0 l = (k : Int)) (h2 : l[k]? = some m) : fndM id l = some m := by
  cases e : fndM id l with
  | none => have := (fnd_idx (id := id) (l := l) (i := 0) (by omega)).2 e; omega
  | some a =>
    obtain ⟨j, e1, e2⟩ := (fnd_idx (id := id) (l := l) (i := 0) (by omega)).1 a e
    have : j = k := by omega
    subst this
    rw [h2] at e2
    exact e2.symm
theorem fnd_new {x : OpB} {l : List MS} (h : right51 (l ++ [newB x]) = 0) : fndM x.id l = none := by
  have hs := (right_all h).2 l.length (newB x) (by simp)
  rw [List.take_left' rfl] at hs
  have hn := (step_zero hs).2.1
  cases e : fndM x.id l with
  | none => rfl
  | some a =>
    obtain ⟨j, e1, e2⟩ := (fnd_idx (id := x.id) (l := l) (i := 0) (by omega)).1 a e
    exact absurd (by show 0 ≤ idxM x.id 0 l; omega) hn
/-- An active slide stays active, or the operation ended or gave up its mission. -/
theorem waits_slide {x : OpB} {l : List MS} (h : right51 l = 0) (hb : doB x l = true) {y : Int} (hy : y ∈ slidesM l) :
    y ∈ slidesM (doL x l) ∨ ((x.kind = 4 ∨ x.kind = 5) ∧ ((fndM x.id l).getD zeroM).slide = y) := by
  obtain ⟨a, ha, hac, hys⟩ := mem_slides.1 hy
  rcases do_spec h hb with ⟨h1, h2, h3⟩ | ⟨h1, k, m, st, a1, a2, a3, a4, a5, a6, a7, a8⟩
  · exact .inl (mem_slides.2 ⟨a, by rw [h2]; exact List.mem_append_left _ ha, hac, hys⟩)
  · have hf := fnd_at a1 a2
    obtain ⟨j, hj⟩ := List.mem_iff_getElem?.1 ha
    have hk : k < l.length := (List.getElem?_eq_some_iff.1 a2).1
    by_cases hjk : k = j
    · subst hjk
      rw [a2] at hj
      obtain rfl : m = a := Option.some.inj hj
      rcases a6 with g | g | g | g | g
      · exfalso; simp only [activeM, inB_iff] at hac; omega
      · refine .inl (mem_slides.2 ⟨updM m st x.time, ?_, ?_, hys⟩)
        · rw [a7]; exact List.mem_set hk _
        · show activeM (updM m st x.time) = true
          simp only [activeM, updM, inB_iff]; omega
      · refine .inl (mem_slides.2 ⟨updM m st x.time, ?_, ?_, hys⟩)
        · rw [a7]; exact List.mem_set hk _
        · show activeM (updM m st x.time) = true
          simp only [activeM, updM, inB_iff]; omega
      · exact .inr ⟨.inl g.1, by rw [hf]; exact hys⟩
      · exact .inr ⟨.inr g.1, by rw [hf]; exact hys⟩
    · refine .inl (mem_slides.2 ⟨a, ?_, hac, hys⟩)
      rw [a7]
      exact List.mem_iff_getElem?.2 ⟨j, by rw [List.getElem?_set, if_neg hjk]; exact hj⟩
/-- A misfire is given up alone, and not before its wait. -/
theorem waits_time {x : OpB} {l : List MS} (h : right51 l = 0) (hb : doB x l = true) (h4 : ((fndM x.id l).getD zeroM).state = 4) : x.kind = 5 ∧ ((fndM x.id l).getD zeroM).since + 1800 ≤ x.time ∧ 0 ≤ ((fndM x.id l).getD zeroM).since ∧ x.time ≤ 20000000 := by
  rcases do_spec h hb with ⟨h1, h2, h3⟩ | ⟨h1, k, m, st, a1, a2, a3, a4, a5, a6, a7, a8⟩
  · rw [h2] at h3
    rw [fnd_new h3] at h4
    exact absurd h4 (by decide)
  · rw [fnd_at a1 a2] at h4 ⊢
    replace h4 : m.state = 4 := h4
    show x.kind = 5 ∧ m.since + 1800 ≤ x.time ∧ 0 ≤ m.since ∧ x.time ≤ 20000000
    have hg := (right_good h m (List.mem_of_getElem? a2)).since.1
    rcases a6 with g | g | g | g | g
    · omega
    · omega
    · omega
    · omega
    · exact ⟨g.1, g.2.2.1 h4, hg, a5⟩
end Go.Proofs.Ythcdnkhgmicpoaa
