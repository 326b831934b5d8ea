/- What a block of one's own holds: whole-block facts that a letter for a world carries, and worlds in which such a block is written out. No conditions. -/
import Derived.Test.YtoafgpeghokhgaaBase
namespace Go.Proofs.Ytoafgpeghokhgaa
set_option linter.unusedSimpArgs false
set_option linter.unusedVariables false
open Go.RowKit
theorem post_letter {P : Program} {f : Func} {Q : Ending → World → Prop} {x : Exit} {a : Act} {W : World} (h : ∀ w0, Below W.heap.size W w0 → bodyPost P f Q x a w0) : bodyPost P f Q x a W := h W (Below.refl _ _)

/-- The world with block b as o. -/
def Put (w : World) (b : Nat) (o : Obj) : World := { w with heap := w.heap.setIfInBounds b o }
theorem put_self {w : World} {b : Nat} {o : Obj} (h : w.heap[b]? = some o) : Put w b o = w := by
  have hlt : b < w.heap.size := (Array.getElem?_eq_some_iff.1 h).1
  have e : w.heap.setIfInBounds b o = w.heap := by
    apply Array.ext_getElem?
    intro i
    rw [Array.getElem?_setIfInBounds]
    split
    · rename_i hi
      subst hi
      rw [h]
    · rfl
  unfold Put
  rw [e]
@[go_sem] theorem size_put (w : World) (b : Nat) (o : Obj) : (Put w b o).heap.size = w.heap.size := by simp [Put]
@[go_sem] theorem tape_put (w : World) (b : Nat) (o : Obj) : (Put w b o).tape = w.tape := rfl
@[go_sem] theorem drawn_put (w : World) (b : Nat) (o : Obj) : (Put w b o).drawn = w.drawn := rfl
theorem put_block_if (w : World) (b n : Nat) (o : Obj) (h : b < w.heap.size) : (Put w b o).heap[n]? = if n = b then some o else w.heap[n]? := by
  simp only [Put, Array.getElem?_setIfInBounds]
  by_cases e : n = b
  · rw [if_pos e, if_pos e.symm, if_pos (by omega)]
  · rw [if_neg e, if_neg (fun k => e k.symm)]
theorem alloc_block_if (w : World) (o : Obj) (n : Nat) : (w.alloc o).heap[n]? = if n = w.heap.size then some o else w.heap[n]? := by
  show (w.heap.push o)[n]? = _
  rw [Array.getElem?_push]
noncomputable def overRestB (w x : World) (n : Nat) : Option Obj := (Over w x).heap[n]?
theorem over_block_if (w x : World) (n : Nat) : (Over w x).heap[n]? = if n < w.heap.size then w.heap[n]? else overRestB w x n := by
  split
  · exact (over_below w x).block _ ‹_›
  · rfl
def setObj (j : Nat) (v : Value) : Obj → Obj
  | .cells c t f => .cells (c.setIfInBounds j v) t f
  | o => o
theorem setObj_cells (j : Nat) (v : Value) (c : Array Value) (t : TypeId) (f : Nat × Nat) : setObj j v (.cells c t f) = .cells (c.setIfInBounds j v) t f := rfl
theorem set_block_if (w : World) (b j n : Nat) (v : Value) : (w.setCell ⟨b, j, none⟩ v).heap[n]? = if n = b then (w.heap[n]?).map (setObj j v) else w.heap[n]? := by
  simp only [World.setCell, Array.getElem?_modify]
  by_cases e : n = b
  · rw [if_pos e, if_pos e.symm]
    cases w.heap[n]? with
    | none => rfl
    | some o => cases o <;> rfl
  · rw [if_neg e, if_neg (fun k => e k.symm)]
theorem drew_block (w : World) (n : Nat) : w.drew.heap[n]? = w.heap[n]? := rfl
theorem drewN_block (w : World) (k n : Nat) : (w.drewN k).heap[n]? = w.heap[n]? := rfl
theorem cell_of_block {w : World} {b : Nat} {c : Array Value} {t : TypeId} {f : Nat × Nat} (h : w.heap[b]? = some (.cells c t f)) (i : Nat) : w.cell? ⟨b, i, none⟩ = c[i]? := by
  simp [World.cell?, h]
theorem frozen_of_block {w : World} {b : Nat} {c : Array Value} {t : TypeId} (h : w.heap[b]? = some (.cells c t)) (i : Nat) : w.frozen? ⟨b, i, none⟩ = false := by
  simp [World.frozen?, h]
@[go_sem] theorem put_cell_if (w : World) (b : Nat) (c : Array Value) (t : TypeId) (n i : Nat) (h : b < w.heap.size) : (Put w b (.cells c t)).cell? ⟨n, i, none⟩ = if n = b then c[i]? else w.cell? ⟨n, i, none⟩ := by
  split
  · rename_i e
    subst e
    exact cell_of_block (by rw [put_block_if _ _ _ _ h, if_pos rfl]) i
  · rename_i e
    exact World.cell?_of_block (a := ⟨n, i, none⟩) (by rw [put_block_if _ _ _ _ h, if_neg e])
@[go_sem] theorem put_frozen_if (w : World) (b : Nat) (c : Array Value) (t : TypeId) (n i : Nat) (h : b < w.heap.size) : (Put w b (.cells c t)).frozen? ⟨n, i, none⟩ = if n = b then false else w.frozen? ⟨n, i, none⟩ := by
  split
  · rename_i e
    subst e
    exact frozen_of_block (c := c) (t := t) (by rw [put_block_if _ _ _ _ h, if_pos rfl]) i
  · rename_i e
    exact World.frozen?_of_block (a := ⟨n, i, none⟩) (by rw [put_block_if _ _ _ _ h, if_neg e])
theorem world_ext {a b : World} (h1 : a.heap = b.heap) (h2 : a.tape = b.tape) (h3 : a.drawn = b.drawn) (h4 : a.os = b.os) (h5 : a.output = b.output) : a = b := by
  cases a; cases b; simp_all
@[go_sem] theorem put_setCell_if (w : World) (b : Nat) (c : Array Value) (t : TypeId) (n j : Nat) (v : Value) (h : b < w.heap.size) :
    (Put w b (.cells c t)).setCell ⟨n, j, none⟩ v = if n = b then Put w b (.cells (c.setIfInBounds j v) t) else Put (w.setCell ⟨n, j, none⟩ v) b (.cells c t) := by
  have key : ∀ k : Nat, ((Put w b (.cells c t)).setCell ⟨n, j, none⟩ v).heap[k]? = (if n = b then Put w b (.cells (c.setIfInBounds j v) t) else Put (w.setCell ⟨n, j, none⟩ v) b (.cells c t)).heap[k]? := by
    intro k
    rw [set_block_if, put_block_if _ _ _ _ h]
    by_cases e : n = b
    · subst e
      rw [if_pos rfl, put_block_if _ _ _ _ h]
      by_cases e2 : k = n
      · subst e2; simp [setObj]
      · simp [e2]
    · rw [if_neg e, put_block_if _ _ _ _ (by simpa using h), set_block_if]
      by_cases e2 : k = b
      · have : ¬ k = n := fun q => e (by rw [← q, e2])
        simp [e2]
        intro q; exact absurd q.symm e
      · simp [e2]
  exact world_ext (Array.ext_getElem? (by simpa using key)) (by split <;> rfl) (by split <;> rfl) (by split <;> rfl) (by split <;> rfl)
theorem below_put {B : Nat} {a w : World} (h : Below B a w) {b : Nat} (hb : B ≤ b) (o : Obj) : Below B a (Put w b o) := by
  refine h.trans ⟨rfl, rfl, rfl, by simp [Put], fun k hk => ?_⟩
  simp only [Put, Array.getElem?_setIfInBounds]
  rw [if_neg (by omega)]
theorem le_put {n : Nat} {w : World} (h : n ≤ w.heap.size) (b : Nat) (o : Obj) : n ≤ (Put w b o).heap.size := by rw [size_put]; exact h
end Go.Proofs.Ytoafgpeghokhgaa
