/- A region that draws its order, reads some blocks and stores into others: the class of worlds that agree on the blocks read. -/
import Derived.Test.YtoafgpeghokhgaaOrd
namespace Go.Proofs.Ytoafgpeghokhgaa
set_option linter.unusedSimpArgs false
set_option linter.unusedVariables false
open Go.RowKit
def KeepB (bs : List Nat) (w x : World) : Prop := ∀ b ∈ bs, x.heap[b]? = w.heap[b]?
open Classical in
noncomputable def OverK (bs : List Nat) (w x : World) : World := if KeepB bs w x then x else w
theorem overK_keep (bs : List Nat) (w x : World) : KeepB bs w (OverK bs w x) := by
  unfold OverK; split
  · assumption
  · exact fun _ _ => rfl
theorem overK_ex {bs : List Nat} {w x : World} (h : KeepB bs w x) : ∃ y, x = OverK bs w y := ⟨x, by unfold OverK; rw [if_pos h]⟩
@[go_sem] theorem overK_cell (bs : List Nat) (w x : World) (n i : Nat) (h : n ∈ bs) : (OverK bs w x).cell? ⟨n, i, none⟩ = w.cell? ⟨n, i, none⟩ := by
  have := overK_keep bs w x n h
  simp [World.cell?, this]
theorem KeepB.put {bs : List Nat} {w x : World} (h : KeepB bs w x) {b : Nat} (o : Obj) (hb : b ∉ bs) : KeepB bs w (Put x b o) := fun c hc => by
  have hne : ¬ c = b := fun e => hb (e ▸ hc)
  have : (Put x b o).heap[c]? = x.heap[c]? := by
    simp only [Put, Array.getElem?_setIfInBounds]
    rw [if_neg (fun e => hne e.symm)]
  exact this.trans (h c hc)
theorem KeepB.below {bs : List Nat} {w x : World} (hb : Below w.heap.size w x) (h : ∀ b ∈ bs, b < w.heap.size) : KeepB bs w x := fun b hm => hb.block b (h b hm)
section
variable {P : Program} {ops : Array Oper} {Q : Exit → Act → World → Prop}
theorem wp_region_keep (bs : List Nat) {id : Nat} {l : List Oper} {a : Act} {w : World} (hm : P.follows .mixedOrders = true)
    (h : ∀ x, Below w.heap.size w x → wpAnyH P .any l.toArray Q (fun w' => ∃ y, w' = OverK bs w y) l.length (Array.replicate l.length false) a x) : (Code.region id l.toArray true).wp P Q a w :=
  wp_region_held hm (by simpa using h { w with drawn := w.drawn + 1 } ⟨rfl, rfl, rfl, Nat.le_refl _, fun _ _ => rfl⟩)
end
end Go.Proofs.Ytoafgpeghokhgaa
