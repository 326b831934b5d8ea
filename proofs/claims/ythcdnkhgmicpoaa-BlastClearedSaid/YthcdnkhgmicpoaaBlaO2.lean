/- How operations on missions read; what an operation leaves, element by element. -/
import Derived.Test.YthcdnkhgmicpoaaBlaY
namespace Go.Proofs.Ythcdnkhgmicpoaa
set_option linter.unusedSimpArgs false
set_option linter.unusedVariables false
open Go.RowKit Go.ChangeShapes Go.WideShapes Go.ChangeAt Go.Deep
theorem o_boolB : OpensTo Try.prog 4 (fun b : Bool => [.bool b]) (fun _ _ => True) := opens_bool Try.underlying4
set_option maxRecDepth 100000 in
theorem o_bop : OpensTo Try.prog 46 OpB.enc (fun _ _ => True) := fun enc w fuel cs x h => by
  obtain ⟨xs, n, _, _, hl, hxl, hf⟩ := DataW.trod_struct Try.underlying46 h
  have hl9 : cs.length = 9 := hl.trans (by kernel_rfl)
  obtain ⟨a0, e0, w0⟩ := opens_field hf hxl 0 _ rfl o_int 1 C_int
  obtain ⟨a1, e1, w1⟩ := opens_field hf hxl 1 _ rfl o_int 1 C_int
  obtain ⟨a2, e2, w2⟩ := opens_field hf hxl 2 _ rfl o_int 1 C_int
  obtain ⟨a3, e3, w3⟩ := opens_field hf hxl 3 _ rfl o_int 1 C_int
  obtain ⟨a4, e4, w4⟩ := opens_field hf hxl 4 _ rfl o_int 1 C_int
  obtain ⟨a5, e5, w5⟩ := opens_field hf hxl 5 _ rfl o_int 1 C_int
  obtain ⟨a6, e6, w6⟩ := opens_field hf hxl 6 _ rfl o_int 1 C_int
  obtain ⟨a7, e7, w7⟩ := opens_field hf hxl 7 _ rfl o_boolB 1 (by kernel_rfl)
  obtain ⟨a8, e8, w8⟩ := opens_field hf hxl 8 _ rfl o_boolB 1 (by kernel_rfl)
  match cs, hl9 with
  | [c0, c1, c2, c3, c4, c5, c6, c7, c8], _ =>
    simp at e0 e1 e2 e3 e4 e5 e6 e7 e8
    subst e0 e1 e2 e3 e4 e5 e6 e7 e8
    exact ⟨⟨a0, a1, a2, a3, a4, a5, a6, a7, a8⟩, rfl, trivial⟩
theorem o_bops : OpensTo Try.prog 44 (fun x : Sl × List OpB => [.slice x.1.a x.1.n x.1.c]) (fun w x => Rd w OpB.enc x.1 x.2 ∧ ∀ a ∈ x.2, True) :=
  opens_slice Try.underlying44 o_bop 9 (by kernel_rfl) (by decide) (fun _ => rfl)
theorem Rd.bop {w : World} {s : Sl} {xs : List OpB} (h : Rd w OpB.enc s xs) {k : Nat} (hk : k < s.n) : ∃ b off x, s.a = some ⟨b, off, none⟩ ∧ b < w.heap.size ∧ Hid (xs[k]? = some x) ∧
    w.cell? ⟨b, off + k * 9, none⟩ = some (.int .i64 x.kind) ∧ w.cell? ⟨b, off + k * 9 + 1, none⟩ = some (.int .i64 x.id) ∧ w.cell? ⟨b, off + k * 9 + 2, none⟩ = some (.int .i64 x.slide) ∧ w.cell? ⟨b, off + k * 9 + 3, none⟩ = some (.int .i64 x.by_) ∧ w.cell? ⟨b, off + k * 9 + 4, none⟩ = some (.int .i64 x.time) ∧ w.cell? ⟨b, off + k * 9 + 5, none⟩ = some (.int .i64 x.fr) ∧ w.cell? ⟨b, off + k * 9 + 6, none⟩ = some (.int .i64 x.till) ∧ w.cell? ⟨b, off + k * 9 + 7, none⟩ = some (.bool x.worked) ∧ w.cell? ⟨b, off + k * 9 + 8, none⟩ = some (.bool x.empty) := by
  obtain ⟨b, off, x, e, hb, h1, h2, hc⟩ := h.step hk
  have key : ∀ j u, (OpB.enc x)[j]? = some u → w.cell? ⟨b, off + k * 9 + j, none⟩ = some u := fun j u hu => by
    have := hc j u hu
    rw [show off + (k * (OpB.enc x).length + j) = off + k * 9 + j from by simp [OpB.enc]; omega] at this
    exact this
  exact ⟨b, off, x, e, hb, h2, key 0 _ rfl, key 1 _ rfl, key 2 _ rfl, key 3 _ rfl, key 4 _ rfl, key 5 _ rfl, key 6 _ rfl, key 7 _ rfl, key 8 _ rfl⟩
theorem do_same {x : OpB} {l : List MS} (h : right51 l = 0) (hb : doB x l = true) :
    right51 (doL x l) = 0 ∧ ((x.kind == 0) = true ∧ (doL x l).length = l.length + 1 ∨ (x.kind == 0) = false ∧ (doL x l).length = l.length) ∧
    ∀ (k : Nat) (a : MS), l[k]? = some a → ∃ st t : Int, (doL x l)[k]? = some ⟨a.id, a.slide, a.by_, st, t, a.fr, a.till⟩ ∧ ((a.id != x.id) = true → st = a.state ∧ t = a.since) := by
  rcases do_spec h hb with ⟨h1, h2, h3⟩ | ⟨h1, k, m, st, a1, a2, a3, a4, a5, a6, a7, a8⟩
  · refine ⟨h3, .inl ⟨by simpa using h1, by rw [h2]; simp⟩, fun k a hk => ⟨a.state, a.since, ?_, fun _ => ⟨rfl, rfl⟩⟩⟩
    rw [h2, List.getElem?_append_left (List.getElem?_eq_some_iff.1 hk).1]
    exact hk
  · refine ⟨a8, .inr ⟨by simpa using h1, by rw [a7]; simp⟩, fun j a hj => ?_⟩
    rw [a7, List.getElem?_set]
    by_cases hjk : k = j
    · subst hjk
      rw [a2] at hj
      cases hj
      refine ⟨st, x.time, ?_, fun hne => ?_⟩
      · rw [if_pos rfl, if_pos (List.getElem?_eq_some_iff.1 a2).1]; rfl
      · simp [a3] at hne
    · rw [if_neg hjk]
      exact ⟨a.state, a.since, hj, fun _ => ⟨rfl, rfl⟩⟩
end Go.Proofs.Ythcdnkhgmicpoaa
