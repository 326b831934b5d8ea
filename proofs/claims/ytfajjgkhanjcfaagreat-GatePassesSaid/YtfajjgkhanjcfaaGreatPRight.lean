/- Products: the program's Right. -/
import Derived.Test.YtfajjgkhanjcfaaGreatPFor
namespace Go.Proofs.YtfajjgkhanjcfaaGreat
set_option linter.unusedSimpArgs false
set_option linter.unusedVariables false
open Go.RowKit
theorem twice_find (id : Int) : ∀ es : List PD, twiceF id es = (findF id es).isSome
  | [] => rfl
  | p :: r => by
    unfold twiceF findF
    split
    · rfl
    · exact twice_find id r
theorem find_any {w w' : World} {o : Option PD} {e : Ending} (h : FindPost w o e w') : ∃ y : PD, e = .returned (.tuple #[y.val, .bool o.isSome]) ∧ Below w.heap.size w w' := by
  obtain ⟨hb, h⟩ := h
  cases o with
  | none => exact ⟨zeroP, h, hb⟩
  | some x => obtain ⟨so, sh, h, -⟩ := h; exact ⟨x.with_ so sh, h, hb⟩
theorem right22_stop {es : List PD} {k : Nat} {x : PD} {e : Int} (hl : right22L (es.take k) (es.drop k) = right22 es) (hx : es.drop k = x :: es.drop (k + 1)) (h : oneF x (es.take k) = e) (he : e ≠ 0) : right22 es = e := by
  rw [← hl, hx, right22L, h, if_neg he]
theorem right22_go {es : List PD} {k : Nat} {x : PD} (hl : right22L (es.take k) (es.drop k) = right22 es) (hx : es.drop k = x :: es.drop (k + 1)) (h0 : es[k]? = some x) (h : oneF x (es.take k) = 0) : right22L (es.take (k + 1)) (es.drop (k + 1)) = right22 es := by
  rw [← hl, hx, right22L, h, if_pos rfl, List.take_add_one, h0]
  rfl
theorem find_take {es : List PD} {w : World} (he : ∀ p ∈ es, p.at_ w) (k : Nat) : ∀ p ∈ es.take k, p.at_ w := fun p hp => he p (List.mem_of_mem_take hp)
theorem small_take {es : List PD} (he : smallP es) (k : Nat) : smallP (es.take k) := fun p hp => he p (List.mem_of_mem_take hp)
end Go.Proofs.YtfajjgkhanjcfaaGreat
