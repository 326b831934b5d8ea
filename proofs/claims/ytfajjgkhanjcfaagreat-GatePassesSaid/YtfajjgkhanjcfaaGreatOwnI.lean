/- A row of numbers of the call's own sorted by the library. -/
import Derived.Test.YtfajjgkhanjcfaaGreatMA
import Derived.Test.YtfajjgkhanjcfaaGreatShelf
import Derived.Sort.OwnSortedInts
namespace Go.Proofs.YtfajjgkhanjcfaaGreat
set_option linter.unusedSimpArgs false
set_option linter.unusedVariables false
open Go.RowKit Go.Sort
theorem sort_own (w : World) (base : Nat) (v : Sl) (ss : List Int) (h : OwnI w base v ss) (hl : v.n ≤ 100000) (hb : base ≤ w.heap.size) : Calls Tryz.prog 72 #[v.val] w fun e w' => e = .returned (.tuple #[]) ∧ Below base w w' ∧ OwnI w' base v (sortI ss) := by
  obtain ⟨A, n, c⟩ := v
  have hn : ss.length = n := h.len
  dsimp only at hl
  rcases h.row.2 with ⟨hv, h0⟩ | ⟨g, cap, cur, hv, h3, h4, h5, h6, h7, h8⟩
  · injection hv with e1 e2 e3
    have h0' : n = 0 := h0
    subst e1 h0' e3
    have hs : ss = [] := List.eq_nil_of_length_eq_zero hn
    subst hs
    refine (Tryz.slices_Sort_int_none none 0 w).mono ?_
    rintro e w' ⟨rfl, rfl⟩
    exact ⟨rfl, Below.refl _ _, by simpa [sortI] using h⟩
  · injection hv with e1 e2 e3
    subst e1 e3 hn
    rw [flatI] at h8
    rw [Nat.mul_one] at h8
    have hH : Holds (Value.int .i64) w g 0 ss.toArray := holds_of_blockI (e := 3) h4 h8
    refine (Tryz.slices_Sort_int g 0 c ss w hH (Array.getElem?_eq_some_iff.1 h4).1 (by omega)).mono ?_
    rintro e w' ⟨rfl, q, os, rfl⟩
    refine ⟨rfl, Below.grown (Below.refl _ _) (grownBy_sortedI _) hb (fun j hj => by cases hj; exact h3), ⟨by simp [sortI], ?_⟩⟩
    have hr := ownsRow_sortedI (os := os) (n := q) (cap := c) (ss := ss) (ts := sortI ss) (by simp [sortI]) h3 h4 h5 h6 h7
    rw [flatI]
    exact hr
end Go.Proofs.YtfajjgkhanjcfaaGreat
