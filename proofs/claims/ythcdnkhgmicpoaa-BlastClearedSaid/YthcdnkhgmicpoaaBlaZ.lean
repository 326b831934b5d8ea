/- Missions: the plain law: what an operation leaves is right again. -/
import Derived.Test.YthcdnkhgmicpoaaBlaDo
namespace Go.Proofs.Ythcdnkhgmicpoaa
set_option linter.unusedSimpArgs false
set_option linter.unusedVariables false
open Go.RowKit
theorem goR_of : ∀ {r p : List MS}, (∀ k x, r[k]? = some x → stepE (p ++ r.take k) x = 0) → goR p r = 0
  | [], p, _ => rfl
  | m :: r, p, h => by
    have h0 : stepE p m = 0 := by have := h 0 m rfl; simpa using this
    unfold goR
    rw [if_pos h0]
    refine goR_of (fun k x hx => ?_)
    have h1 := h (k + 1) x (by simpa using hx)
    rw [List.append_assoc]
    exact h1
theorem right_of51 {l : List MS} (hl : l.length ≤ 64) (h : ∀ k x, l[k]? = some x → stepE (l.take k) x = 0) : right51 l = 0 := by
  unfold right51
  rw [if_neg (by omega)]
  exact goR_of (fun k x hx => by simpa using h k x hx)
theorem step_of {p : List MS} {m : MS} (h1 : badM m = false) (h2 : ¬ 0 ≤ idxM m.id 0 p) (h3 : (openM m && takenM m.slide p) = false) : stepE p m = 0 := step_ok h1 (by simpa using h2) h3
theorem idx_ids {id : Int} : ∀ {l l' : List MS} {k : Int}, l.map MS.id = l'.map MS.id → idxM id k l = idxM id k l'
  | [], [], _, _ => rfl
  | [], _ :: _, _, h => by simp at h
  | _ :: _, [], _, h => by simp at h
  | m :: r, m' :: r', k, h => by
    simp only [List.map_cons, List.cons.injEq] at h
    unfold idxM
    rw [h.1, idx_ids h.2]
theorem good_bad {m : MS} (h : GoodM m) : badM m = false := by
  obtain ⟨h1, h2, h3, h4, h5, h6⟩ := h
  simp [badM, inB]
  omega
/-- One mission turned: still right. -/
theorem set_right {l : List MS} (h : right51 l = 0) {k : Nat} {x : MS} (hx : l[k]? = some x) {st t : Int} (hst : 0 ≤ st ∧ st ≤ 6) (ht : 0 ≤ t ∧ t ≤ 20000000) (hop : openM (updM x st t) = true → openM x = true) : right51 (l.set k (updM x st t)) = 0 := by
  obtain ⟨hl, ha⟩ := right_all h
  have hids : ∀ j, ((l.set k (updM x st t)).take j).map MS.id = (l.take j).map MS.id := by
    intro j
    rw [List.map_take, List.map_take, List.map_set]
    congr 1
    have hk : k < (l.map MS.id).length := by rw [List.length_map]; exact (List.getElem?_eq_some_iff.1 hx).1
    apply List.ext_getElem?
    intro i
    rw [List.getElem?_set]
    split
    · rename_i e
      subst e
      rw [List.getElem?_map, hx]
      rfl
    · rfl
  have htak : ∀ j s, takenM s ((l.set k (updM x st t)).take j) = true → takenM s (l.take j) = true := by
    intro j s hs
    obtain ⟨y, h1, h2, h3⟩ := taken_iff.1 hs
    obtain ⟨i, hi⟩ := List.getElem?_of_mem h1
    rw [List.getElem?_take] at hi
    split at hi
    · rename_i hij
      rw [List.getElem?_set] at hi
      split at hi
      · rename_i e
        subst e
        split at hi
        · cases hi
          refine taken_iff.2 ⟨x, List.mem_of_getElem? (i := k) (by rw [List.getElem?_take, if_pos hij]; exact hx), hop h2, h3⟩
        · cases hi
      · exact taken_iff.2 ⟨y, List.mem_of_getElem? (i := i) (by rw [List.getElem?_take, if_pos hij]; exact hi), h2, h3⟩
    · cases hi
  refine right_of51 (by rw [List.length_set]; exact hl) (fun j y hy => ?_)
  rw [List.getElem?_set] at hy
  split at hy
  · rename_i e
    subst e
    split at hy
    · cases hy
      have h0 := step_zero (ha k x hx)
      have hg := good_of h0.1
      refine step_of (good_bad ⟨hg.id, hg.slide, hg.by_, hst, ht, hg.win⟩) ?_ ?_
      · rw [idx_ids (hids k)]; exact h0.2.1
      · rw [Bool.and_eq_false_iff]
        cases ho : openM (updM x st t)
        · exact .inl rfl
        · right
          rw [← Bool.not_eq_true]
          intro hc
          have h5 := h0.2.2
          rw [hop ho, Bool.true_and] at h5
          have := htak k _ hc
          rw [show (updM x st t).slide = x.slide from rfl, h5] at this
          cases this
    · cases hy
  · have h0 := step_zero (ha j y hy)
    refine step_of h0.1 (by rw [idx_ids (hids j)]; exact h0.2.1) ?_
    rw [Bool.and_eq_false_iff]
    rcases Bool.and_eq_false_iff.1 h0.2.2 with h5 | h5
    · exact .inl h5
    · right
      rw [← Bool.not_eq_true]
      intro hc
      have := htak j _ hc
      rw [h5] at this
      cases this
/-- What a change that succeeds is: one mission, open before, in another state. -/
theorem chg_zero {id t : Int} {ref : MS → Int} {l : List MS} (h : chgE id t ref l = 0) : ∃ (k : Nat) (x : MS), idxM id 0 l = (k : Int) ∧ l[k]? = some x ∧ x.id = id ∧ x.since ≤ t ∧ t ≤ 20000000 ∧ ref x = 0 ∧ ∀ st, chgF id t st ref l = l.set k (updM x st t) := by
  have hb := idx_bd (id := id) (l := l) (k := 0) (by omega)
  by_cases h0 : idxM id 0 l < 0
  · rw [chg_none (by simpa using h0)] at h; omega
  · obtain ⟨k, hk⟩ : ∃ k : Nat, idxM id 0 l = (k : Int) := ⟨(idxM id 0 l).toNat, by omega⟩
    have hkl : k < l.length := by omega
    have hx : l[k]? = some l[k] := List.getElem?_eq_getElem hkl
    cases hc : (decide (t < (l[k]).since) || decide (20000000 < t))
    · have h1 := chg_ref (ref := ref) hk hx hc
      rw [h] at h1
      simp at hc
      exact ⟨k, _, hk, hx, idx_id hk hx, by omega, by omega, h1.symm, fun st => chgF_ok hk hx h⟩
    · rw [chg_order (ref := ref) hk hx hc] at h; omega
where
  idx_id {id : Int} {l : List MS} {k : Nat} {x : MS} (hk : idxM id 0 l = (k : Int)) (hx : l[k]? = some x) : x.id = id := by
    have key : ∀ (l : List MS) (j : Int) (k : Nat), 0 ≤ j → idxM id j l = j + k → l[k]? = some x → x.id = id := by
      intro l
      induction l with
      | nil => intro j k _ _ hx; simp at hx
      | cons m r ih =>
        intro j k hj hk hx
        unfold idxM at hk
        by_cases hm : (m.id == id) = true
        · rw [if_pos hm] at hk
          have : k = 0 := by omega
          subst this
          simp at hx hm
          rw [← hx]; exact hm
        · rw [if_neg hm] at hk
          cases k with
          | zero =>
            rcases idx_bd (id := id) (l := r) (k := j + 1) (by omega) with h1 | h1
            · rw [h1] at hk; simp at hk; omega
            · simp at hk; omega
          | succ k => exact ih (j + 1) k (by omega) (by rw [hk]; simp; omega) (by simpa using hx)
    exact key l 0 k (by omega) (by rw [hk]; omega) hx
end Go.Proofs.Ythcdnkhgmicpoaa
