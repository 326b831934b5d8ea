/- A slice of the call's own that grows: behind an append it reads as the two lists together. No conditions. -/
import Derived.Test.YtoafgpeghokhgaaFresh
import Derived.Test.YtoafgpeghokhgaaLet
import Derived.Maps.AppendAt
import Derived.OwnWalk
namespace Go.Proofs.Ytoafgpeghokhgaa
set_option linter.unusedSimpArgs false
set_option linter.unusedVariables false
open Go.RowKit
/-- A row of one's own: the header s owns the elements xs, in a block from base on. -/
structure Own {α : Type} (w : World) (base : Nat) (e : TypeId) (size : Nat) (enc : α → List Value) (s : Sl) (xs : List α) : Prop where
  len : xs.length = s.n
  row : w.ownsRow base e size s.val s.n (xs.flatMap enc)
theorem flat_len {α : Type} {enc : α → List Value} {size : Nat} (hsz : ∀ x, (enc x).length = size) : ∀ xs : List α, (xs.flatMap enc).length = xs.length * size
  | [] => by simp
  | x :: r => by rw [List.flatMap_cons, List.length_append, hsz, flat_len hsz r, List.length_cons, Nat.add_mul]; omega
section
variable {α : Type} {w : World} {base : Nat} {e : TypeId} {size : Nat} {enc : α → List Value} {s : Sl} {xs : List α}
theorem Own.nil_ (w : World) (base : Nat) (e : TypeId) (size : Nat) (enc : α → List Value) : Own w base e size enc ⟨none, 0, 0⟩ [] := ⟨rfl, World.ownsRow_nil w base e size⟩
theorem Own.kept {w' : World} {row : Option Nat} (h : Own w base e size enc s xs) (hg : w.grownBy w' row) (hne : s.val.ownBlock = none ∨ s.val.ownBlock ≠ row) : Own w' base e size enc s xs := ⟨h.len, h.row.kept hg hne⟩
theorem Own.block (h : Own w base e size enc s xs) : ∀ g, s.val.ownBlock = some g → base ≤ g ∧ g < w.heap.size := h.row.lt
theorem Own.same {w' : World} (h : Own w base e size enc s xs) (hb : ∀ g, s.val.ownBlock = some g → w'.heap[g]? = w.heap[g]?) : Own w' base e size enc s xs := by
  refine ⟨h.len, h.row.1, ?_⟩
  rcases h.row.2 with h2 | ⟨g, cap, cur, hv, h3, h4, h5⟩
  · exact .inl h2
  · exact .inr ⟨g, cap, cur, hv, h3, by rw [hb g (by rw [hv]; rfl)]; exact h4, h5⟩
theorem Own.rd (h : Own w base e size enc s xs) (hsz : ∀ x, (enc x).length = size) : Rd w enc s xs := by
  obtain ⟨a, n, c⟩ := s
  have hl : xs.length = n := h.len
  rcases h.row.2 with ⟨hv, hn⟩ | ⟨g, cap, cur, hv, hb, hg, hc, hm, hs, ht⟩
  · have hn' : n = 0 := hn
    injection hv with h1 h2 h3
    subst hn'
    subst h1 h3
    exact ⟨hl, Nat.le_refl _, Nat.zero_le _, fun hn => absurd hn (by simp)⟩
  · injection hv with h1 h2 h3
    subst h1 h3
    refine ⟨hl, hc, hm, fun hn => ⟨g, 0, rfl, (Array.getElem?_eq_some_iff.1 hg).1, fun k x hx j u hu => ?_⟩⟩
    have h1 := flat_get hsz xs k x hx j u hu
    rw [← ht, List.getElem?_take] at h1
    split at h1
    · rw [hsz, Nat.zero_add]
      simp only [World.cell?, hg]
      simpa using h1
    · cases h1
end
section
variable {P : Program} {w : World} {α : Type} {enc : α → List Value}
theorem run_append_rd (base : Nat) (t ty e : TypeId) (i : TypeInfo) (z : Value) (size bytes : Nat) (ht : P.underlying t = some (.slice e)) (hi : P.info? e = some i) (hz : i.zero = some z)
    (hsize : i.size = size) (hby : i.bytes = bytes) (hzs : z.cells.size = size) (hsz : 0 < size) (hen : ∀ y, (enc y).length = size) (h1 : ∀ y : α, ∀ u ∈ enc y, u.oneCell' = true)
    {s y : Sl} {xs ys : List α} (hown : Own w base e size enc s xs) (hr : Rd w enc y ys) (h63 : s.n + y.n ≤ maxLen) (hbytes : (s.n + y.n) * bytes ≤ 140737488355328) (hbase : base ≤ w.heap.size) :
    ∃ v' w', (Builtin.append_ #[t, t] ty #[s.val, y.val]).run P w = .ok (Sl.val v') w' ∧ Own w' base e size enc v' (xs ++ ys) ∧ w.grownBy w' s.val.ownBlock ∧ (v'.val.ownBlock = s.val.ownBlock ∨ v'.val.ownBlock = some w.heap.size) := by
  have form : ∀ {w' : World} {v' : Value} {n : Nat} {cs : List Value}, w'.ownsRow base e size v' n cs → ∃ q : Sl, v' = q.val ∧ q.n = n := by
    intro w' v' n cs h
    rcases h.2 with ⟨rfl, rfl⟩ | ⟨g, cap, cur, rfl, _⟩
    · exact ⟨⟨none, 0, 0⟩, rfl, rfl⟩
    · exact ⟨⟨_, n, cap⟩, rfl, rfl⟩
  obtain ⟨A, m, c⟩ := y
  cases A with
  | none =>
    have hm : m = 0 := by
      rcases Nat.eq_zero_or_pos m with h0 | h0
      · exact h0
      · obtain ⟨b, off, h, _⟩ := hr.cells h0
        cases h
    subst hm
    have hys : ys = [] := List.eq_nil_of_length_eq_zero hr.len
    subst hys
    refine ⟨s, w, ?_, by rw [List.append_nil]; exact hown, World.grownBy.refl w _, .inl rfl⟩
    rcases hown.row.2 with ⟨hv, hn⟩ | ⟨g, cap, cur, hv, _, _, hnc, _⟩
    · rw [hv]
      simp [Builtin.append_, run_underlying ht, sizeOf, typeInfo, hi, Builtin.lenOf, Builtin.firstCells]
    · rw [hv]
      simp [Builtin.append_, run_underlying ht, sizeOf, typeInfo, hi, Builtin.lenOf, Builtin.firstCells, hnc, storeCells]
  | some ad =>
    have hl : (ys.flatMap enc).length = m * size := by rw [flat_len hen]; have := hr.len; dsimp only at this; rw [this]
    have hcells : ∀ j u, (ys.flatMap enc)[j]? = some u → w.cell? (ad.add j) = some u := by
      intro j u hu
      have hjl : j < m * size := by rw [← hl]; exact (List.getElem?_eq_some_iff.1 hu).1
      have hm0 : 0 < m := by
        rcases Nat.eq_zero_or_pos m with h0 | h0
        · subst h0; omega
        · exact h0
      obtain ⟨b, off, he, _, hc⟩ := hr.cells hm0
      cases he
      have hd : j / size < ys.length := by have := hr.len; dsimp only at this; rw [this]; exact (Nat.div_lt_iff_lt_mul hsz).2 hjl
      have hyk : ys[j / size]? = some ys[j / size] := List.getElem?_eq_getElem hd
      have hmod : j % size < (enc ys[j / size]).length := by rw [hen]; exact Nat.mod_lt _ hsz
      have h2 := hc _ _ hyk (j % size) _ (List.getElem?_eq_getElem hmod)
      have h3 := flat_get hen ys _ _ hyk (j % size) _ (List.getElem?_eq_getElem hmod)
      have hj : j / size * size + j % size = j := by rw [Nat.mul_comm]; exact Nat.div_add_mod j size
      rw [hj] at h3
      rw [h3] at hu
      cases hu
      rw [hen, hj] at h2
      unfold Addr.add
      split
      · rename_i h0
        subst h0
        simpa using h2
      · simpa using h2
    have hone : ∀ u ∈ ys.flatMap enc, u.oneCell' = true := by
      intro u hu
      obtain ⟨y, _, hy⟩ := List.mem_flatMap.1 hu
      exact h1 y u hy
    obtain ⟨v', w', hrun, h2, h3, _, h5⟩ := run_append_own_at (P := P) w base t ty e i z size bytes ht hi hz hsize hby hzs hsz s.val s.n (xs.flatMap enc) hown.row ad m c (ys.flatMap enc) hl hcells hone h63 hbytes hbase
    obtain ⟨q, rfl, hq⟩ := form h2
    refine ⟨q, w', hrun, ⟨?_, ?_⟩, h3, h5⟩
    · rw [List.length_append, hown.len, hq]; have := hr.len; dsimp only at this ⊢; rw [this]
    · rw [List.flatMap_append, hq]; exact h2
theorem wpList_append_rd {ops : Array Oper} {rest : List Oper} {o : Oper} {a : Act} {Q : Exit → Act → World → Prop} (hgd : o.guard = none) (so xo : Operand) (t : TypeId)
    (ho : o.op = .call { callee := .builtin .append, args := #[so, xo], argTypes := #[t, t] })
    (base : Nat) (e : TypeId) (i : TypeInfo) (z : Value) (size bytes : Nat) (ht : P.underlying t = some (.slice e)) (hi : P.info? e = some i) (hz : i.zero = some z)
    (hsize : i.size = size) (hby : i.bytes = bytes) (hzs : z.cells.size = size) (hsz : 0 < size) (hen : ∀ y, (enc y).length = size) (h1 : ∀ y : α, ∀ u ∈ enc y, u.oneCell' = true)
    {s y : Sl} {xs ys : List α} (hs : a.eval so = s.val) (hx : a.eval xo = y.val) (hown : Own w base e size enc s xs) (hr : Rd w enc y ys) (h63 : s.n + y.n ≤ maxLen) (hbytes : (s.n + y.n) * bytes ≤ 140737488355328) (hbase : base ≤ w.heap.size)
    (h : ∀ (v' : Sl) w', Own w' base e size enc v' (xs ++ ys) → w.grownBy w' s.val.ownBlock → (v'.val.ownBlock = s.val.ownBlock ∨ v'.val.ownBlock = some w.heap.size) → wpList P ops Q rest (a.put o.dst v'.val) w') : wpList P ops Q (o :: rest) a w :=
  wpList_plain hgd fun K hK => by
    obtain ⟨v', w', hrun, h2, h3, h4⟩ := run_append_rd (P := P) base t o.type e i z size bytes ht hi hz hsize hby hzs hsz hen h1 hown hr h63 hbytes hbase
    unfold Oper.wp execOp
    simp only [ho, resolve, invoke, builtin, Sem.run_bind, Sem.run_pure, Result.andThen_ok, List.map_toArray, List.map_cons, List.map_nil, hs, hx, hrun]
    exact hK _ _ (h v' w' h2 h3 h4)
end
end Go.Proofs.Ytoafgpeghokhgaa
