/- Missions: what Right gives; Active of the reference. -/
import Derived.Test.YthcdnkhgmicpoaaBlaA
namespace Go.Proofs.Ythcdnkhgmicpoaa
set_option linter.unusedSimpArgs false
set_option linter.unusedVariables false
open Go.RowKit
theorem goR_all : ∀ {r p : List MS}, goR p r = 0 → ∀ k x, r[k]? = some x → stepE (p ++ r.take k) x = 0
  | [], p, _, k, x, hx => by simp at hx
  | m :: r, p, h, k, x, hx => by
    unfold goR at h
    by_cases h0 : stepE p m = 0
    · rw [if_pos h0] at h
      cases k with
      | zero => simp at hx; subst hx; simpa using h0
      | succ k =>
        have h1 := goR_all h k x (by simpa using hx)
        rw [List.append_assoc] at h1
        exact h1
    · rw [if_neg h0] at h; exact absurd h h0
theorem right_all {l : List MS} (h : right51 l = 0) : l.length ≤ 64 ∧ ∀ k x, l[k]? = some x → stepE (l.take k) x = 0 := by
  unfold right51 at h
  by_cases h1 : 64 < l.length
  · rw [if_pos h1] at h; omega
  · rw [if_neg h1] at h
    refine ⟨by omega, fun k x hx => ?_⟩
    have := goR_all h k x hx
    simpa using this
theorem step_zero {p : List MS} {m : MS} (h : stepE p m = 0) : badM m = false ∧ ¬ 0 ≤ idxM m.id 0 p ∧ (openM m && takenM m.slide p) = false := by
  unfold stepE at h
  by_cases h1 : badM m = true
  · rw [if_pos h1] at h; omega
  rw [if_neg h1] at h
  by_cases h2 : 0 ≤ idxM m.id 0 p
  · rw [if_pos h2] at h; omega
  rw [if_neg h2] at h
  by_cases h3 : (openM m && takenM m.slide p) = true
  · rw [if_pos h3] at h; omega
  exact ⟨by simpa using h1, h2, by simpa using h3⟩
structure GoodM (m : MS) : Prop where
  id : 1 ≤ m.id ∧ m.id ≤ 9999
  slide : 1 ≤ m.slide ∧ m.slide ≤ 9999
  by_ : 1 ≤ m.by_ ∧ m.by_ ≤ 9999
  state : 0 ≤ m.state ∧ m.state ≤ 6
  since : 0 ≤ m.since ∧ m.since ≤ 20000000
  win : 0 ≤ m.fr ∧ m.fr < m.till ∧ m.till ≤ 20000000
theorem good_of {m : MS} (h : badM m = false) : GoodM m := by
  simp [badM, inB] at h
  exact ⟨⟨h.1.1, h.1.2⟩, ⟨h.2.1.1, h.2.1.2⟩, ⟨h.2.2.1.1, h.2.2.1.2⟩, ⟨h.2.2.2.1.1, h.2.2.2.1.2⟩, ⟨h.2.2.2.2.1.1, h.2.2.2.2.1.2⟩, ⟨h.2.2.2.2.2.1, by omega, by omega⟩⟩
theorem right_good {l : List MS} (h : right51 l = 0) : ∀ m ∈ l, GoodM m := by
  intro m hm
  obtain ⟨k, hk⟩ := List.getElem?_of_mem hm
  exact good_of (step_zero ((right_all h).2 k m hk)).1
theorem taken_iff {s : Int} : ∀ {p : List MS}, takenM s p = true ↔ ∃ y ∈ p, openM y = true ∧ y.slide = s
  | [] => by simp [takenM]
  | m :: r => by
    unfold takenM
    by_cases h : (openM m && (m.slide == s)) = true
    · rw [if_pos h]; simp at h; simp [h]
    · rw [if_neg h, taken_iff]; simp at h
      constructor
      · rintro ⟨y, h1, h2⟩; exact ⟨y, List.mem_cons_of_mem _ h1, h2⟩
      · rintro ⟨y, h1, h2, h3⟩
        rcases List.mem_cons.1 h1 with rfl | h1
        · exact absurd h3 (h h2)
        · exact ⟨y, h1, h2, h3⟩
theorem active_open {m : MS} (h : activeM m = true) : openM m = true := by
  simp only [activeM, inB_iff] at h
  simp only [openM, inB_iff]
  omega
theorem mem_slides {l : List MS} {y : Int} : y ∈ slidesM l ↔ ∃ m ∈ l, activeM m = true ∧ m.slide = y := by
  simp only [slidesM, List.mem_map, List.mem_filter]
  constructor
  · rintro ⟨m, ⟨h1, h2⟩, h3⟩; exact ⟨m, h1, h2, h3⟩
  · rintro ⟨m, h1, h2, h3⟩; exact ⟨m, ⟨h1, h2⟩, h3⟩
theorem slides_nodup {l : List MS} (h : right51 l = 0) : ∀ k, k ≤ l.length → (slidesM (l.take k)).Nodup
  | 0, _ => by simp [slidesM]
  | k + 1, hk => by
    have ih := slides_nodup h k (by omega)
    have hx : l[k]? = some l[k] := List.getElem?_eq_getElem (by omega)
    cases ha : activeM l[k]
    · rw [slides_not hx ha]; exact ih
    · rw [slides_hit hx ha]
      refine List.nodup_append.2 ⟨ih, by simp, fun a h1 b h2 e => ?_⟩
      simp only [List.mem_singleton] at h2
      subst h2 e
      obtain ⟨m, h3, h4, h5⟩ := mem_slides.1 h1
      have h6 := (step_zero ((right_all h).2 k _ hx)).2.2
      have h7 : takenM (l[k]).slide (l.take k) = true := taken_iff.2 ⟨m, h3, active_open h4, h5⟩
      rw [active_open ha, h7] at h6
      cases h6
theorem sort_incr {l : List Int} (h : l.Nodup) : Inc (sortI l) ∧ ∀ y, y ∈ sortI l ↔ y ∈ l := by
  have tr : ∀ a b c : Int, decide (a ≤ b) = true → decide (b ≤ c) = true → decide (a ≤ c) = true := fun a b c h1 h2 => by simp at *; omega
  have tot : ∀ a b : Int, (decide (a ≤ b) || decide (b ≤ a)) = true := fun a b => by simp; omega
  have hp : (sortI l).Pairwise (fun x y => decide (x ≤ y) = true) := List.pairwise_mergeSort tr tot l
  have hn : (sortI l).Nodup := (List.mergeSort_perm l _).nodup_iff.2 h
  refine ⟨?_, fun y => List.mem_mergeSort⟩
  exact (List.Pairwise.and hp hn).imp (fun {a b} hab => by have h1 := hab.1; have h2 := hab.2; simp at h1; omega)
/-- The least active slide above a number, so far. -/
def nxStep (last acc : Int) (m : MS) : Int := if (activeM m && (decide (last < m.slide) && ((acc == 0) || decide (m.slide < acc)))) = true then m.slide else acc
def nxM (last : Int) : Int → List MS → Int
  | acc, [] => acc
  | acc, m :: r => nxM last (nxStep last acc m) r
theorem nx_spec {last : Int} : ∀ {l : List MS} {acc : Int}, (∀ m ∈ l, 1 ≤ m.slide) → (acc = 0 ∨ last < acc ∧ 1 ≤ acc) →
    (nxM last acc l = 0 ∧ acc = 0 ∧ ∀ m ∈ l, activeM m = true → m.slide ≤ last) ∨ (1 ≤ nxM last acc l ∧ last < nxM last acc l ∧ (nxM last acc l = acc ∨ nxM last acc l ∈ slidesM l) ∧ (acc = 0 ∨ nxM last acc l ≤ acc) ∧ ∀ m ∈ l, activeM m = true → last < m.slide → nxM last acc l ≤ m.slide)
  | [], acc, _, h => by
    rcases h with h | ⟨h1, h2⟩
    · exact .inl ⟨h, h, fun m hm => by cases hm⟩
    · exact .inr ⟨h2, h1, .inl rfl, .inr (Int.le_refl _), fun m hm => by cases hm⟩
  | m :: r, acc, hs, h => by
    have hm1 := hs m (List.mem_cons_self ..)
    unfold nxM
    by_cases hc : (activeM m && (decide (last < m.slide) && ((acc == 0) || decide (m.slide < acc)))) = true
    · have he : nxStep last acc m = m.slide := by unfold nxStep; rw [if_pos hc]
      simp only [Bool.and_eq_true, Bool.or_eq_true, decide_eq_true_eq, beq_iff_eq] at hc
      obtain ⟨ha, hl, hacc⟩ := hc
      rw [he]
      rcases nx_spec (l := r) (acc := m.slide) (fun y hy => hs y (List.mem_cons_of_mem _ hy)) (.inr ⟨hl, hm1⟩) with ⟨h1, h2, -⟩ | ⟨h1, h2, h3, h4, h5⟩
      · omega
      · refine .inr ⟨h1, h2, .inr ?_, by omega, fun y hy hya hyl => ?_⟩
        · rcases h3 with h3 | h3
          · rw [h3]; exact mem_slides.2 ⟨m, List.mem_cons_self .., ha, rfl⟩
          · obtain ⟨y, e1, e2, e3⟩ := mem_slides.1 h3
            exact mem_slides.2 ⟨y, List.mem_cons_of_mem _ e1, e2, e3⟩
        · rcases List.mem_cons.1 hy with rfl | hy
          · omega
          · exact h5 y hy hya hyl
    · have he : nxStep last acc m = acc := by unfold nxStep; rw [if_neg hc]
      simp only [Bool.and_eq_true, Bool.or_eq_true, decide_eq_true_eq, beq_iff_eq] at hc
      rw [he]
      rcases nx_spec (l := r) (acc := acc) (fun y hy => hs y (List.mem_cons_of_mem _ hy)) h with ⟨h1, h2, h3⟩ | ⟨h1, h2, h3, h4, h5⟩
      · refine .inl ⟨h1, h2, fun y hy hya => ?_⟩
        rcases List.mem_cons.1 hy with rfl | hy
        · apply Classical.byContradiction; intro hl; exact hc ⟨hya, by omega, .inl h2⟩
        · exact h3 y hy hya
      · refine .inr ⟨h1, h2, ?_, h4, fun y hy hya hyl => ?_⟩
        · rcases h3 with h3 | h3
          · exact .inl h3
          · obtain ⟨y, e1, e2, e3⟩ := mem_slides.1 h3
            exact .inr (mem_slides.2 ⟨y, List.mem_cons_of_mem _ e1, e2, e3⟩)
        · rcases List.mem_cons.1 hy with rfl | hy
          · by_cases ha0 : acc = 0
            · exact absurd ⟨hya, hyl, .inl ha0⟩ hc
            · have h6 : ¬ y.slide < acc := fun h7 => hc ⟨hya, hyl, .inr h7⟩
              omega
          · exact h5 y hy hya hyl
/-- The next element of the increasing list of active slides. -/
theorem nx_next {l : List MS} (h : right51 l = 0) {j : Nat} {last : Int} (hj : j = 0 ∧ last = 0 ∨ 0 < j ∧ (sortI (slidesM l))[j - 1]? = some last) :
    (nxM last 0 l = 0 ∧ (sortI (slidesM l)).length ≤ j) ∨ (nxM last 0 l ≠ 0 ∧ (sortI (slidesM l))[j]? = some (nxM last 0 l)) := by
  obtain ⟨hi, hm⟩ := sort_incr (l := slidesM l) (by have := slides_nodup h l.length (Nat.le_refl _); rwa [List.take_length] at this)
  generalize hR : sortI (slidesM l) = R at hi hm hj ⊢
  have h1 : ∀ m ∈ l, 1 ≤ m.slide := fun m hm => (right_good h m hm).slide.1
  have hpos : ∀ y ∈ R, 1 ≤ y := fun y hy => by obtain ⟨m, e1, e2, e3⟩ := mem_slides.1 ((hm y).1 hy); rw [← e3]; exact h1 m e1
  have hlt : ∀ (a b : Nat) (x y : Int), R[a]? = some x → R[b]? = some y → a < b → x < y := by
    intro a b x y ha hb hab
    obtain ⟨ha1, ha2⟩ := List.getElem?_eq_some_iff.1 ha
    obtain ⟨hb1, hb2⟩ := List.getElem?_eq_some_iff.1 hb
    have := List.pairwise_iff_getElem.1 hi a b ha1 hb1 hab
    rw [ha2, hb2] at this
    exact this
  have hafter : ∀ (b : Nat) (y : Int), R[b]? = some y → (last < y ↔ j ≤ b) := by
    intro b y hb
    rcases hj with ⟨rfl, rfl⟩ | ⟨hj0, hjl⟩
    · have := hpos y (List.mem_of_getElem? hb); constructor <;> intro <;> omega
    · constructor
      · intro hy
        apply Classical.byContradiction
        intro hc
        rcases Nat.lt_or_ge b (j - 1) with h2 | h2
        · have := hlt b (j - 1) y last hb hjl h2; omega
        · have : b = j - 1 := by omega
          rw [this, hjl] at hb; cases hb; omega
      · intro hjb; exact hlt (j - 1) b last y hjl hb (by omega)
  rcases nx_spec (last := last) (l := l) (acc := 0) h1 (.inl rfl) with ⟨e1, -, e3⟩ | ⟨e1, e2, e3, -, e5⟩
  · refine .inl ⟨e1, ?_⟩
    apply Classical.byContradiction
    intro hc
    have hx : R[j]? = some R[j] := List.getElem?_eq_getElem (by omega)
    have h2 := (hafter j _ hx).2 (Nat.le_refl _)
    obtain ⟨m, f1, f2, f3⟩ := mem_slides.1 ((hm _).1 (List.mem_of_getElem? hx))
    have := e3 m f1 f2
    omega
  · refine .inr ⟨by omega, ?_⟩
    rcases e3 with e3 | e3
    · omega
    · obtain ⟨b, hb⟩ := List.getElem?_of_mem ((hm _).2 e3)
      have hjb := (hafter b _ hb).1 e2
      have hjl : j < R.length := by have := (List.getElem?_eq_some_iff.1 hb).1; omega
      have hx : R[j]? = some R[j] := List.getElem?_eq_getElem hjl
      have h2 := (hafter j _ hx).2 (Nat.le_refl _)
      obtain ⟨m, f1, f2, f3⟩ := mem_slides.1 ((hm _).1 (List.mem_of_getElem? hx))
      have h3 := e5 m f1 f2 (by omega)
      rcases Nat.lt_or_ge j b with h4 | h4
      · have := hlt j b _ _ hx hb h4; omega
      · have : b = j := by omega
        rw [this] at hb; exact hb
end Go.Proofs.Ythcdnkhgmicpoaa
