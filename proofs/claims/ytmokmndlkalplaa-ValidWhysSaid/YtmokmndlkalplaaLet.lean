/- What a block of one's own holds behind stores: its cells stay written out. No conditions. -/
import Derived.Test.YtmokmndlkalplaaBase
namespace Go.Proofs.Ytmokmndlkalplaa
open Go.RowKit
theorem set_cell_if (w : World) (b j n i : Nat) (v : Value) : (w.setCell ⟨b, j, none⟩ v).cell? ⟨n, i, none⟩ = if n = b then (if i = j then (w.cell? ⟨n, i, none⟩).map (fun _ => v) else w.cell? ⟨n, i, none⟩) else w.cell? ⟨n, i, none⟩ := by
  split
  · rename_i h
    subst h
    split
    · rename_i h2
      subst h2
      cases hc : w.cell? ⟨n, i, none⟩ with
      | some u => exact World.cell?_setCell_same w _ v hc
      | none =>
        simp only [World.cell?] at hc ⊢
        simp only [World.setCell, Array.getElem?_modify, if_true]
        cases hh : w.heap[n]? with
        | none => simp
        | some x =>
          cases x <;> simp
          rw [hh] at hc
          simpa using hc
    · rename_i h2
      exact World.cell?_setCell_other w _ _ v (fun e => h2 (by cases e; rfl))
  · rename_i h
    exact World.cell?_setCell_other w _ _ v (fun e => h (by cases e; rfl))
theorem set_arr (cs : Array Value) (i j : Nat) (v : Value) : (if i = j then (cs[i]?).map (fun _ => v) else cs[i]?) = (cs.setIfInBounds j v)[i]? := by
  rw [Array.getElem?_setIfInBounds]
  split
  · rename_i h
    subst h
    rw [if_pos rfl]
    by_cases h' : i < cs.size
    · simp [h']
    · simp [Array.getElem?_eq_none (by omega : cs.size ≤ i)]; omega
  · rename_i h
    rw [if_neg (fun e => h e.symm)]
end Go.Proofs.Ytmokmndlkalplaa
