/- Products: what a list without errors gives. -/
import Derived.Test.YtfajjgkhanjcfaaGreatPFind
namespace Go.Proofs.YtfajjgkhanjcfaaGreat
set_option linter.unusedSimpArgs false
set_option linter.unusedVariables false
open Go.RowKit
theorem right22_all : ∀ {l pre : List PD}, right22L pre l = 0 → ∀ (k : Nat) p, l[k]? = some p → oneF p (pre ++ l.take k) = 0
  | [], _, _, k, p, hk => by simp at hk
  | x :: r, pre, h, k, p, hk => by
    unfold right22L at h
    split at h
    · rename_i h0
      cases k with
      | zero => simp at hk; subst hk; simpa using h0
      | succ k =>
        have ih := right22_all h k p (by simpa using hk)
        simpa using ih
    · contradiction
theorem twice_ne {id : Int} : ∀ {es : List PD}, twiceF id es = false → ∀ q ∈ es, q.id ≠ id
  | [], _, q, hq => by cases hq
  | x :: r, h, q, hq => by
    unfold twiceF at h
    split at h
    · cases h
    · rcases List.mem_cons.1 hq with rfl | hq
      · assumption
      · exact twice_ne h q hq
theorem one_facts {p : PD} {es : List PD} (h : oneF p es = 0) : twiceF p.id es = false ∧ p.ops.isEmpty = false := by
  unfold oneF at h
  split at h
  · omega
  split at h
  · omega
  rename_i h2
  split at h
  · omega
  split at h
  · omega
  rename_i h4
  refine ⟨by simpa using h2, ?_⟩
  cases he : p.ops.isEmpty
  · rfl
  · exact absurd (by simp [argBad, he]) h4
theorem right22_zero {es : List PD} (h : right22 es = 0) : ∀ (k : Nat) p, es[k]? = some p → oneF p (es.take k) = 0 := by
  unfold right22 at h
  split at h
  · omega
  intro k p hk
  simpa using right22_all h k p hk
theorem ids_nodup {es : List PD} (h : right22 es = 0) : (es.map PD.id).Nodup := by
  rw [List.Nodup, List.pairwise_iff_getElem]
  intro i j hi hj hij
  simp only [List.length_map] at hi hj
  rw [List.getElem_map, List.getElem_map]
  have h1 := (one_facts (right22_zero h j es[j] (List.getElem?_eq_getElem hj))).1
  exact twice_ne h1 es[i] (by rw [List.mem_take_iff_getElem]; exact ⟨i, by omega, rfl⟩)
theorem find_self : ∀ {es : List PD} {p : PD}, (es.map PD.id).Nodup → p ∈ es → findF p.id es = some p
  | [], _, _, hp => by cases hp
  | x :: r, p, hn, hp => by
    rw [List.map_cons, List.nodup_cons] at hn
    unfold findF
    rcases List.mem_cons.1 hp with rfl | hp
    · rw [if_pos rfl]
    · have : ¬ x.id = p.id := fun e => hn.1 (by rw [e]; exact List.mem_map_of_mem hp)
      rw [if_neg this]
      exact find_self hn.2 hp
theorem findF_mem {id : Int} : ∀ {es : List PD} {p : PD}, findF id es = some p → p ∈ es ∧ p.id = id
  | [], _, h => by cases h
  | x :: r, p, h => by
    unfold findF at h
    split at h
    · rename_i e
      cases h
      exact ⟨List.mem_cons_self .., e⟩
    · have := findF_mem h
      exact ⟨List.mem_cons_of_mem _ this.1, this.2⟩
end Go.Proofs.YtfajjgkhanjcfaaGreat
