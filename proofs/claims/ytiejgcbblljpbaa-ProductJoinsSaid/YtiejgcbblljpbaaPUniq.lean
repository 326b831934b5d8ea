/- Products: in a list without errors every number is one product's alone. -/
import Derived.Test.YtiejgcbblljpbaaPAlive
namespace Go.Proofs.Ytiejgcbblljpbaa
set_option linter.unusedSimpArgs false
set_option linter.unusedVariables false
open Go.RowKit
theorem right22_all : ∀ {l pre : List PD}, right22L pre l = 0 → ∀ (k : Nat) p, l[k]? = some p → oneF p (pre ++ l.take k) = 0
  | [], _, _, k, p, hk => by simp at hk
  | x :: r, pre, h, k, p, hk => by
    unfold right22L at h
    split at h
    · rename_i h0
      cases k with
      | zero => simp at hk; subst hk; simpa using h0
      | succ k =>
        have ih := right22_all h k p (by simpa using hk)
        simpa using ih
    · contradiction
theorem twice_ne {id : Int} : ∀ {es : List PD}, twiceF id es = false → ∀ q ∈ es, q.id ≠ id
  | [], _, q, hq => by cases hq
  | x :: r, h, q, hq => by
    unfold twiceF at h
    split at h
    · cases h
    · rcases List.mem_cons.1 hq with rfl | hq
      · assumption
      · exact twice_ne h q hq
theorem one_facts {p : PD} {es : List PD} (h : oneF p es = 0) : twiceF p.id es = false ∧ p.ops.isEmpty = false := by
  unfold oneF at h
  split at h
  · omega
  split at h
  · omega
  rename_i h2
  split at h
  · omega
  split at h
  · omega
  rename_i h4
  refine ⟨by simpa using h2, ?_⟩
  cases he : p.ops.isEmpty
  · rfl
  · exact absurd (by simp [argBad, he]) h4
theorem right22_zero {es : List PD} (h : right22 es = 0) : ∀ (k : Nat) p, es[k]? = some p → oneF p (es.take k) = 0 := by
  unfold right22 at h
  split at h
  · omega
  intro k p hk
  simpa using right22_all h k p hk
theorem ids_nodup {es : List PD} (h : right22 es = 0) : (es.map PD.id).Nodup := by
  rw [List.Nodup, List.pairwise_iff_getElem]
  intro i j hi hj hij
  simp only [List.length_map] at hi hj
  rw [List.getElem_map, List.getElem_map]
  have h1 := (one_facts (right22_zero h j es[j] (List.getElem?_eq_getElem hj))).1
  exact twice_ne h1 es[i] (by rw [List.mem_take_iff_getElem]; exact ⟨i, by omega, rfl⟩)
theorem find_self : ∀ {es : List PD} {p : PD}, (es.map PD.id).Nodup → p ∈ es → findF p.id es = some p
  | [], _, _, hp => by cases hp
  | x :: r, p, hn, hp => by
    rw [List.map_cons, List.nodup_cons] at hn
    unfold findF
    rcases List.mem_cons.1 hp with rfl | hp
    · rw [if_pos rfl]
    · have : ¬ x.id = p.id := fun e => hn.1 (by rw [e]; exact List.mem_map_of_mem hp)
      rw [if_neg this]
      exact find_self hn.2 hp
theorem outL_append (ops : List Int) (more : Int) : ∀ os : List Int, outL ops (os ++ [more]) = (outL ops os || !hasF ops more)
  | [] => by simp only [List.nil_append, outL]; cases hasF ops more <;> rfl
  | x :: r => by
    have ih := outL_append ops more r
    simp only [List.cons_append, outL]
    split
    · exact ih
    · rfl
theorem fits_append (age : Int) (os : List Int) (more : Int) (p : PD) : fitsF age (os ++ [more]) p = (fitsF age os p && hasF p.ops more) := by
  unfold fitsF
  rw [outL_append]
  cases ageF p age <;> cases outL p.ops os <;> cases hasF p.ops more <;> rfl
theorem forF_append2 (age : Int) (os : List Int) (more : Int) (es : List PD) : forF age (os ++ [more]) es = ((es.filter (fitsF age os)).filter (fun p => hasF p.ops more)).map PD.id := by
  unfold forF
  rw [List.filter_filter]
  congr 2
  funext p
  rw [fits_append, Bool.and_comm]
/-- Behind i products of F, k of the few: what stands next among the few. -/
theorem few_next {F : List PD} {h : PD → Bool} (hn : (F.map PD.id).Nodup) {i : Nat} {p : PD} (hi : F[i]? = some p) :
    (h p = true → ((F.filter h).map PD.id)[((F.take i).filter h).length]? = some p.id) ∧ (h p = false → ∀ y, ((F.filter h).map PD.id)[((F.take i).filter h).length]? = some y → y ≠ p.id) := by
  obtain ⟨hk, rfl⟩ := List.getElem?_eq_some_iff.1 hi
  have e : F.take i ++ (F[i] :: F.drop (i + 1)) = F := by rw [← List.drop_eq_getElem_cons hk, List.take_append_drop]
  have e2 : F.filter h = (F.take i).filter h ++ (F[i] :: F.drop (i + 1)).filter h := by rw [← List.filter_append, e]
  have e3 : ((F.filter h).map PD.id)[((F.take i).filter h).length]? = (((F[i] :: F.drop (i + 1)).filter h).map PD.id)[0]? := by
    rw [e2, List.map_append, List.getElem?_append_right (by simp)]
    simp
  rw [e3]
  refine ⟨fun hp => ?_, fun hp y hy => ?_⟩
  · rw [List.filter_cons, if_pos hp]; rfl
  · rw [List.filter_cons, if_neg (by rw [hp]; simp)] at hy
    have hm : y ∈ ((F.drop (i + 1)).filter h).map PD.id := List.mem_of_getElem? hy
    obtain ⟨q, hq, rfl⟩ := List.mem_map.1 hm
    have hq2 : q ∈ F.drop (i + 1) := (List.mem_filter.1 hq).1
    obtain ⟨j, hj⟩ := List.mem_iff_getElem?.1 hq2
    rw [List.getElem?_drop] at hj
    obtain ⟨hjl, hje⟩ := List.getElem?_eq_some_iff.1 hj
    have := (List.pairwise_iff_getElem.1 hn) i (i + 1 + j) (by simpa using hk) (by simpa using hjl) (by omega)
    rw [List.getElem_map, List.getElem_map, hje] at this
    exact fun e => this e.symm
theorem few_take {F : List PD} {h : PD → Bool} {i : Nat} {p : PD} (hi : F[i]? = some p) : ((F.take (i + 1)).filter h).length = ((F.take i).filter h).length + (if h p = true then 1 else 0) := by
  rw [List.take_add_one, hi, List.filter_append]
  split <;> simp_all
theorem filter_ids {es : List PD} {h : PD → Bool} (hn : (es.map PD.id).Nodup) : ((es.filter h).map PD.id).Nodup := (List.filter_sublist.map PD.id).nodup hn
end Go.Proofs.Ytiejgcbblljpbaa
