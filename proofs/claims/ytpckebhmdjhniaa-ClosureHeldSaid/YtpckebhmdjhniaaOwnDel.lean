/- Rows of the call's own: an append in place; one element cleared behind the row's end. -/
import Derived.Test.YtpckebhmdjhniaaOwnI
import Derived.Deep.DeepAppendRoom
import Derived.Laws.IdiomCopy
namespace Go.Proofs.Ytpckebhmdjhniaa
set_option linter.unusedSimpArgs false
set_option linter.unusedVariables false
open Go.RowKit
theorem Rd.flat {α : Type} {w : World} {enc : α → List Value} {size : Nat} (hen : ∀ y, (enc y).length = size) (hsz : 0 < size) {ad : Addr} {m c : Nat} {ys : List α} (hr : Rd w enc ⟨some ad, m, c⟩ ys) : ∀ j u, (ys.flatMap enc)[j]? = some u → w.cell? (ad.add j) = some u := by
  intro j u hu
  have hl : (ys.flatMap enc).length = m * size := by rw [flat_len hen]; have := hr.len; dsimp only at this; rw [this]
  have hjl : j < m * size := by rw [← hl]; exact (List.getElem?_eq_some_iff.1 hu).1
  have hm0 : 0 < m := by
    rcases Nat.eq_zero_or_pos m with h0 | h0
    · subst h0; omega
    · exact h0
  obtain ⟨b, off, he, _, hc⟩ := hr.cells hm0
  cases he
  have hd : j / size < ys.length := by have := hr.len; dsimp only at this; rw [this]; exact (Nat.div_lt_iff_lt_mul hsz).2 hjl
  have hyk : ys[j / size]? = some ys[j / size] := List.getElem?_eq_getElem hd
  have hmod : j % size < (enc ys[j / size]).length := by rw [hen]; exact Nat.mod_lt _ hsz
  have h2 := hc _ _ hyk (j % size) _ (List.getElem?_eq_getElem hmod)
  have h3 := flat_get hen ys _ _ hyk (j % size) _ (List.getElem?_eq_getElem hmod)
  have hj : j / size * size + j % size = j := by rw [Nat.mul_comm]; exact Nat.div_add_mod j size
  rw [hj] at h3
  rw [h3] at hu
  cases hu
  rw [hen, hj] at h2
  unfold Addr.add
  split
  · rename_i h0
    subst h0
    simpa using h2
  · simpa using h2
theorem Own.prefix {α : Type} {enc : α → List Value} {w : World} {base : Nat} {e : TypeId} {size : Nat} (hen : ∀ y, (enc y).length = size) {g n c : Nat} {xs : List α} (h : Own w base e size enc ⟨some ⟨g, 0, none⟩, n, c⟩ xs) {k : Nat} (hk : k ≤ n) : Own w base e size enc ⟨some ⟨g, 0, none⟩, k, c⟩ (xs.take k) := by
  have hl : xs.length = n := h.len
  refine ⟨by simp only [List.length_take]; omega, by rw [flat_len hen, List.length_take, hl, Nat.min_eq_left hk], ?_⟩
  rcases h.row.2 with ⟨hv, _⟩ | ⟨g', cap, cur, hv, h3, h4, h5, h6, h7, h8⟩
  · cases hv
  · cases hv
    refine .inr ⟨g, c, cur, rfl, h3, h4, (by show k ≤ c; have h9 : n ≤ c := h5; omega), h6, h7, ?_⟩
    have e1 : (xs.take k).flatMap enc = (xs.flatMap enc).take (k * size) := by
      have h9 : xs.flatMap enc = (xs.take k).flatMap enc ++ (xs.drop k).flatMap enc := by rw [← List.flatMap_append, List.take_append_drop]
      rw [h9, List.take_left' (by rw [flat_len hen, List.length_take, hl, Nat.min_eq_left hk])]
    rw [e1, ← h8, List.take_take, Nat.min_eq_left (Nat.mul_le_mul_right _ hk)]
theorem setCells_block (b : Nat) : ∀ (vs : List Value) (o : Nat) (w : World) (cur : Array Value) (e : TypeId) (fr : Nat × Nat), w.heap[b]? = some (.cells cur e fr) →
    ∃ cur', (w.setCells b o vs).heap[b]? = some (.cells cur' e fr) ∧ cur'.size = cur.size ∧ (∀ k, k ≤ o → cur'.toList.take k = cur.toList.take k)
  | [], o, w, cur, e, fr, h => ⟨cur, h, rfl, fun _ _ => rfl⟩
  | v :: vs, o, w, cur, e, fr, h => by
    have h1 : (w.setCell ⟨b, o, none⟩ v).heap[b]? = some (.cells (cur.setIfInBounds o v) e fr) := by rw [set_block_if, if_pos rfl, h]; rfl
    obtain ⟨cur', h2, h3, h4⟩ := setCells_block b vs (o + 1) _ _ e fr h1
    refine ⟨cur', h2, by rw [h3]; simp, fun k hk => ?_⟩
    rw [h4 k (by omega)]
    apply List.ext_getElem?
    intro j
    rw [List.getElem?_take, List.getElem?_take]
    split
    · rw [Array.getElem?_toList, Array.getElem?_toList, Array.getElem?_setIfInBounds, if_neg (by omega)]
    · rfl
theorem setCells_other (b : Nat) : ∀ (vs : List Value) (o : Nat) (w : World) (k : Nat), k ≠ b → (w.setCells b o vs).heap[k]? = w.heap[k]?
  | [], _, _, _, _ => rfl
  | v :: vs, o, w, k, hk => by
    show ((w.setCell ⟨b, o, none⟩ v).setCells b (o + 1) vs).heap[k]? = _
    rw [setCells_other b vs (o + 1) _ k hk, set_block_if, if_neg hk]
theorem setCells_rest (b : Nat) : ∀ (vs : List Value) (o : Nat) (w : World), (w.setCells b o vs).os = w.os ∧ (w.setCells b o vs).tape = w.tape ∧ (w.setCells b o vs).output = w.output ∧ (w.setCells b o vs).heap.size = w.heap.size
  | [], _, _ => ⟨rfl, rfl, rfl, rfl⟩
  | v :: vs, o, w => by
    obtain ⟨h1, h2, h3, h4⟩ := setCells_rest b vs (o + 1) (w.setCell ⟨b, o, none⟩ v)
    exact ⟨h1, h2, h3, by show ((w.setCell ⟨b, o, none⟩ v).setCells b (o + 1) vs).heap.size = _; rw [h4]; simp [World.setCell]⟩
section
variable {P : Program} {w : World} {α : Type} {enc : α → List Value}
/-- 'clear' of the one element behind a row's end. -/
theorem run_clear_own {base : Nat} {t e ty : TypeId} {z : Value} {size : Nat} (ht : P.underlying t = some (.slice e)) (hv : ∀ w, (zeroValue e).run P w = .ok z w) (hz : z.cells.size = size) (h1 : ∀ u ∈ z.cells.toList, u.oneCell' = true) (hen : ∀ y, (enc y).length = size)
    {g m cap c : Nat} {xs : List α} (h : Own w base e size enc ⟨some ⟨g, 0, none⟩, m, cap⟩ xs) (hm : m + 1 ≤ cap) :
    ∃ w', (Builtin.clear_ #[t] ty #[.slice (some ⟨g, m * size, none⟩) 1 c]).run P w = .ok (.tuple #[]) w' ∧ Own w' base e size enc ⟨some ⟨g, 0, none⟩, m, cap⟩ xs ∧ w.grownBy w' (some g) := by
  rcases h.row.2 with ⟨hv, _⟩ | ⟨g', cap', cur, hv', h3, h4, h5, h6, h7, h8⟩
  · cases hv
  cases hv'
  have hzc : (Builtin.zeroCells z.cells 1).toList = z.cells.toList := by
    simp [Builtin.zeroCells]
    apply List.ext_getElem
    · simp
    · intro i h1 h2
      simp at h1 h2
      simp [Nat.mod_eq_of_lt h2, getElem!_pos z.cells i h2]
  have hfit : m * size + size ≤ cur.size := by rw [h7, ← Nat.succ_mul]; exact Nat.mul_le_mul_right _ hm
  have hst := run_storeCells_cells (P := P) g (m * size) z.cells.toList 0 w (by
      intro j hj
      have hj' : j < size := by rw [← hz]; simpa using hj
      have hlt : m * size + j < cur.size := by omega
      simp [World.cell?, h4, hlt])
    (by intro j hj; exact frozen_of_block h4 _) h1
  simp only [Nat.add_zero] at hst
  obtain ⟨cur', c1, c2, c3⟩ := setCells_block g z.cells.toList (m * size) w cur e (0, 0) h4
  obtain ⟨r1, r2, r3, r4⟩ := setCells_rest g z.cells.toList (m * size) w
  refine ⟨w.setCells g (m * size) z.cells.toList, ?_, ⟨h.len, h.row.1, .inr ⟨g, cap, cur', rfl, h3, c1, h5, h6, by rw [c2]; exact h7, by rw [c3 _ (Nat.le_refl _)]; exact h8⟩⟩, ⟨r1, r2, r3, by rw [r4]; exact Nat.le_refl _, fun k _ hk => setCells_other g _ _ _ k (fun e => hk (by rw [e]))⟩⟩
  simp [Builtin.clear_, run_underlying ht, hv, hzc, hst]
end
end Go.Proofs.Ytpckebhmdjhniaa
