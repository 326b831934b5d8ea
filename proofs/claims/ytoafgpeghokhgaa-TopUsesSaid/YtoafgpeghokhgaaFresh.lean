/- A slice that was just made reads as what was put in. -/
import Derived.Test.YtoafgpeghokhgaaBase
namespace Go.Proofs.Ytoafgpeghokhgaa
set_option linter.unusedSimpArgs false
set_option linter.unusedVariables false
open Go.RowKit
theorem flat_get {α : Type} {enc : α → List Value} {size : Nat} (hsz : ∀ x, (enc x).length = size) : ∀ (xs : List α) (k : Nat) (x : α), xs[k]? = some x → ∀ (j : Nat) (u : Value), (enc x)[j]? = some u → (xs.flatMap enc)[k * size + j]? = some u
  | [], k, x, h, _, _, _ => by simp at h
  | y :: r, 0, x, h, j, u, hu => by
    simp at h
    subst h
    rw [List.flatMap_cons, Nat.zero_mul, Nat.zero_add]
    rw [List.getElem?_append_left (List.getElem?_eq_some_iff.1 hu).1]
    exact hu
  | y :: r, k + 1, x, h, j, u, hu => by
    have h' : r[k]? = some x := by simpa using h
    have ih := flat_get hsz r k x h' j u hu
    rw [List.flatMap_cons, List.getElem?_append_right (by rw [hsz, Nat.add_mul]; omega), hsz]
    have : (k + 1) * size + j - size = k * size + j := by rw [Nat.add_mul]; omega
    rw [this]
    exact ih
theorem rd_block {α : Type} {w : World} {enc : α → List Value} {size : Nat} (hsz : ∀ x, (enc x).length = size) {b t : Nat} {cs : Array Value} {fr : Nat × Nat} {xs : List α} (hb : w.heap[b]? = some (.cells cs t fr)) (hc : ∀ (i : Nat) (u : Value), (xs.flatMap enc)[i]? = some u → cs[i]? = some u) (hm : xs.length ≤ maxLen) :
    Rd w enc ⟨some ⟨b, 0, none⟩, xs.length, xs.length⟩ xs :=
  ⟨rfl, Nat.le_refl _, hm, fun _ => ⟨b, 0, rfl, (Array.getElem?_eq_some_iff.1 hb).1, fun k x hx j u hu => by
    have := hc _ _ (flat_get hsz xs k x hx j u hu)
    rw [hsz, Nat.zero_add]
    simpa [World.cell?, hb] using this⟩⟩
theorem rd_fresh {α : Type} (w : World) {enc : α → List Value} (size : Nat) (hsz : ∀ x, (enc x).length = size) {t : Nat} {cs : Array Value} (xs : List α) (hc : cs.toList = xs.flatMap enc) (hm : xs.length ≤ maxLen) : Rd (w.alloc (.cells cs t)) enc ⟨some ⟨w.heap.size, 0, none⟩, xs.length, xs.length⟩ xs :=
  rd_block hsz (b := w.heap.size) (t := t) (cs := cs) (fr := (0, 0)) (by show (w.heap.push _)[w.heap.size]? = _; simp) (fun i u h => by rw [← hc] at h; simpa using h) hm
theorem rd_new {α : Type} {w : World} {enc : α → List Value} (size : Nat) (hsz : ∀ x, (enc x).length = size) {t : Nat} {cs : Array Value} (xs : List α) {b n : Nat} (hb : b = w.heap.size) (hn : n = xs.length) (hc : cs.toList = xs.flatMap enc) (hm : xs.length ≤ maxLen) : Rd (w.alloc (.cells cs t)) enc ⟨some ⟨b, 0, none⟩, n, n⟩ xs := by
  subst hb hn
  exact rd_fresh w size hsz xs hc hm
end Go.Proofs.Ytoafgpeghokhgaa
