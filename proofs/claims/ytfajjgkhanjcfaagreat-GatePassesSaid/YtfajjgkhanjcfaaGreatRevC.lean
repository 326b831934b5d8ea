/- Lists of numbers: the library's Contains, Equal and Compact; a sorted list made small is the increasing list of its members. -/
import Derived.Test.YtfajjgkhanjcfaaGreatOwnI
import Derived.Test.YtfajjgkhanjcfaaGreatMA
import Derived.Test.YtfajjgkhanjcfaaGreatShelf
import Derived.Sort.OwnSortedInts
namespace Go.Proofs.YtfajjgkhanjcfaaGreat
set_option linter.unusedSimpArgs false
set_option linter.unusedVariables false
open Go.RowKit Go.Sort
theorem rd_cells {w : World} {b off n c : Nat} {xs : List Int} (h : Rd w encI ⟨some ⟨b, off, none⟩, n, c⟩ xs) : ∀ j, j < xs.length → w.cell? ⟨b, off + j, none⟩ = some (.int .i64 (xs.getD j 0)) := by
  intro j hj
  have hn : xs.length = n := h.len
  obtain ⟨b', off', x, e, -, -, h1, hc⟩ := h.int (show j < n by omega)
  cases e
  have h2 := h1.out
  rw [hc, List.getD, h2]
  rfl
theorem contains_int (s : Sl) (xs : List Int) (v : Int) (w : World) (h : Rd w encI s xs) : Calls Tryz.prog 52 #[s.val, .int .i64 v] w fun e w' => e = .returned (.bool (decide (v ∈ xs))) ∧ w = w' := by
  obtain ⟨A, n, c⟩ := s
  have hn : xs.length = n := h.len
  have hb : n ≤ 9223372036854775807 := h.bound
  by_cases h0 : n = 0
  · subst h0
    have hx : xs = [] := List.eq_nil_of_length_eq_zero hn
    subst hx
    refine (Tryz.slices_Contains_int_empty A c v w).mono ?_
    rintro e w' ⟨rfl, rfl⟩
    exact ⟨by simp, rfl⟩
  · obtain ⟨b, off, -, rfl, -, -, -, -⟩ := h.int (show 0 < n by omega)
    refine (Tryz.slices_Contains_int b off n c xs v w (by omega) hb (rd_cells h)).mono ?_
    rintro e w' ⟨rfl, rfl⟩
    exact ⟨by rw [← hn, List.take_length, List.contains_eq_mem], rfl⟩
theorem compact_mem {d : Array Int} (hs : ∀ j, 0 < j → j < d.size → d[j - 1]! ≤ d[j]!) : ∀ m, m ≤ d.size → Inc (Lib.compactUpTo d m) ∧ (∀ y, y ∈ Lib.compactUpTo d m ↔ ∃ j, j < m ∧ d[j]! = y) ∧ (∀ j, j + 1 = m → ∀ y ∈ Lib.compactUpTo d m, y ≤ d[j]!)
  | 0, _ => ⟨List.Pairwise.nil, fun y => ⟨fun h => (by cases h), fun ⟨j, h, _⟩ => absurd h (by omega)⟩, fun j h => absurd h (by omega)⟩
  | m + 1, hm => by
    obtain ⟨i1, i2, i3⟩ := compact_mem hs m (by omega)
    rw [Lib.compactUpTo_succ]
    have bound : 0 < m → ∀ y ∈ Lib.compactUpTo d m, y ≤ d[m - 1]! := fun h => i3 (m - 1) (by omega)
    by_cases hk : Lib.keeps d m = true
    · rw [if_pos hk]
      have hlt : ∀ y ∈ Lib.compactUpTo d m, y < d[m]! := by
        intro y hy
        have hm0 : 0 < m := by
          rcases Nat.eq_zero_or_pos m with e | e
          · subst e; cases hy
          · exact e
        have h1 := bound hm0 y hy
        have h2 := hs m hm0 (by omega)
        have h3 : d[m]! ≠ d[m - 1]! := by
          simp [Lib.keeps] at hk
          rcases hk with hk | hk
          · omega
          · exact hk
        omega
      refine ⟨List.pairwise_append.2 ⟨i1, List.pairwise_singleton _ _, fun a ha b hb => by rw [List.mem_singleton.1 hb]; exact hlt a ha⟩, fun y => ?_, fun j hj y hy => ?_⟩
      · rw [List.mem_append, List.mem_singleton, i2]
        constructor
        · rintro (⟨j, h1, h2⟩ | rfl)
          · exact ⟨j, by omega, h2⟩
          · exact ⟨m, by omega, rfl⟩
        · rintro ⟨j, h1, h2⟩
          by_cases e : j = m
          · subst e; exact .inr h2.symm
          · exact .inl ⟨j, by omega, h2⟩
      · obtain rfl : j = m := by omega
        rcases List.mem_append.1 hy with hy | hy
        · have := hlt y hy; omega
        · rw [List.mem_singleton.1 hy]; exact Int.le_refl _
    · rw [if_neg hk, List.append_nil]
      have h4 : 0 < m ∧ d[m]! = d[m - 1]! := by
        simp [Lib.keeps] at hk
        exact ⟨by omega, hk.2⟩
      refine ⟨i1, fun y => ?_, fun j hj y hy => ?_⟩
      · rw [i2]
        constructor
        · rintro ⟨j, h1, h2⟩; exact ⟨j, by omega, h2⟩
        · rintro ⟨j, h1, h2⟩
          by_cases e : j = m
          · subst e; exact ⟨j - 1, by omega, by rw [← h4.2, h2]⟩
          · exact ⟨j, by omega, h2⟩
      · obtain rfl : j = m := by omega
        rw [h4.2]
        exact bound h4.1 y hy
end Go.Proofs.YtfajjgkhanjcfaaGreat
