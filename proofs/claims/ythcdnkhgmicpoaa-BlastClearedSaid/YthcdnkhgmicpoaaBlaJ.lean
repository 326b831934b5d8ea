/- Missions: the plain law behind BlastCleared: what the script's operations that succeeded so far have done for each mission. -/
import Derived.Test.YthcdnkhgmicpoaaBlaN
import Derived.Test.YthcdnkhgmicpoaaBlaK
namespace Go.Proofs.Ythcdnkhgmicpoaa
set_option linter.unusedSimpArgs false
set_option linter.unusedVariables false
open Go.RowKit
/-- A mission that is cleared or armed was so by an operation before. -/
def InvC (l : List MS) (bs : List OpB) : Prop := ∀ m ∈ l, ((m.state = 1 ∨ m.state = 2) → doneB 1 m 0 bs = true) ∧ (m.state = 2 → doneB 2 m m.by_ bs = true)
theorem done_app {k : Int} {m : MS} {b : Int} {bs : List OpB} {x : OpB} (h : doneB k m b bs = true ∨ oneD k m b x = true) : doneB k m b (bs ++ [x]) = true := by
  unfold doneB at *
  rw [List.any_append]
  rcases h with h | h
  · rw [h]; rfl
  · simp [h]
theorem done_upd {k : Int} {m : MS} {b st t : Int} {bs : List OpB} : doneB k (updM m st t) b bs = doneB k m b bs := rfl
theorem fnd_app {id : Int} {m : MS} : ∀ {l : List MS}, fndM id l = none → m.id = id → fndM id (l ++ [m]) = some m
  | [], _, h => by simp [fndM, h]
  | a :: l, h, hm => by
    rw [fndM] at h
    rw [List.cons_append, fndM]
    by_cases e : a.id = id
    · rw [if_pos e] at h; cases h
    · rw [if_neg e] at h ⊢
      exact fnd_app h hm
theorem idx_off {id : Int} : ∀ {l : List MS} {i : Int}, 0 ≤ i → idxM id i l = -1 ∨ i ≤ idxM id i l
  | [], i, _ => .inl rfl
  | a :: l, i, hi => by
    unfold idxM
    split
    · exact .inr (Int.le_refl _)
    · rcases idx_off (id := id) (l := l) (i := i + 1) (by omega) with h | h
      · exact .inl h
      · exact .inr (by omega)
theorem fnd_set {id : Int} {m y : MS} : ∀ {l : List MS} {k : Nat} {i : Int}, 0 ≤ i → idxM id i l = i + k → l[k]? = some m → y.id = id → fndM id (l.set k y) = some y
  | [], k, i, _, h, h2, _ => by simp at h2
  | a :: l, k, i, hi, h, h2, hy => by
    unfold idxM at h
    cases k with
    | zero => rw [List.set_cons_zero, fndM, if_pos hy]
    | succ k =>
      by_cases e : (a.id == id) = true
      · rw [if_pos e] at h; omega
      · rw [if_neg e] at h
        rw [List.set_cons_succ, fndM, if_neg (by simpa using e)]
        exact fnd_set (i := i + 1) (by omega) (by rw [h]; push_cast; omega) (by simpa using h2) hy
structure Cleared (x : OpB) (l nx : List MS) (bs : List OpB) (M Y : MS) (ob : Bool) : Prop where
  fnd : fndV (fndM x.id l) = .tuple #[M.val, .bool ob]
  fnd2 : fndV (fndM x.id nx) = .tuple #[Y.val, .bool true]
  since : Y.since = x.time
  old : ob = true → M.since ≤ x.time
  fire : x.kind = 3 → ob = true ∧ x.empty = true ∧ x.by_ = M.by_ ∧ doneB 1 M 0 bs = true ∧ doneB 2 M M.by_ bs = true
  other : x.kind ≠ 3 → (Y.state == 3) = false ∧ (Y.state == 4) = false
  inv : InvC nx (bs ++ [x])
theorem clear_spec {x : OpB} {l : List MS} {bs : List OpB} (h : right51 l = 0) (hb : doB x l = true) (hi : InvC l bs) : ∃ M Y ob, Cleared x l (doL x l) bs M Y ob := by
  rcases do_spec h hb with ⟨h1, h2, h3⟩ | ⟨h1, k, m, st, a1, a2, a3, a4, a5, a6, a7, a8⟩
  · rw [h2] at h3 ⊢
    have hn := fnd_new h3
    have hf := fnd_app (m := newB x) hn rfl
    refine ⟨zeroM, newB x, false, by rw [hn]; rfl, by rw [hf]; rfl, rfl, (fun e => by cases e), (fun e => by omega), (fun _ => ⟨rfl, rfl⟩), fun y hy => ?_⟩
    rcases List.mem_append.1 hy with hy | hy
    · exact ⟨fun g => done_app (.inl ((hi y hy).1 g)), fun g => done_app (.inl ((hi y hy).2 g))⟩
    · obtain rfl : y = newB x := by simpa using hy
      exact ⟨fun g => by rcases g with g | g <;> exact absurd g (by show ¬ (0 : Int) = _; decide), fun g => absurd g (by show ¬ (0 : Int) = _; decide)⟩
  · have hf := fnd_at a1 a2
    have hm := hi m (List.mem_of_getElem? a2)
    have hf2 : fndM x.id (l.set k (updM m st x.time)) = some (updM m st x.time) := fnd_set (i := 0) (by omega) (by rw [a1]; omega) a2 a3
    rw [a7]
    refine ⟨m, updM m st x.time, true, by rw [hf]; rfl, by rw [hf2]; rfl, rfl, fun _ => a4, fun hk3 => ?_, fun hk3 => ?_, fun y hy => ?_⟩
    · rcases a6 with g | g | g | g | g
      · omega
      · omega
      · exact ⟨rfl, g.2.2.2.2, g.2.2.2.1, hm.1 (.inr g.2.1), hm.2 g.2.1⟩
      · omega
      · omega
    · have : st ≠ 3 ∧ st ≠ 4 := by rcases a6 with g | g | g | g | g <;> omega
      exact ⟨by show (st == 3) = false; simp; exact this.1, by show (st == 4) = false; simp; exact this.2⟩
    · rcases List.mem_or_eq_of_mem_set hy with hy | rfl
      · exact ⟨fun g => done_app (.inl ((hi y hy).1 g)), fun g => done_app (.inl ((hi y hy).2 g))⟩
      · have hwin : ∀ t : Int, winM m t = true → decide (m.fr ≤ t) = true ∧ decide (t < m.till) = true := fun t ht => by simpa [winM] using ht
        refine ⟨fun g => ?_, fun g => ?_⟩
        · replace g : st = 1 ∨ st = 2 := g
          rw [done_upd]
          rcases a6 with q | q | q | q | q
          · obtain ⟨q1, q2, q3, q4, q5⟩ := q
            obtain ⟨e1, e2⟩ := hwin _ q5
            exact done_app (.inr (by simp [oneD, q1, ← a3, e1, e2, q4]))
          · exact done_app (.inl (hm.1 (.inl q.2.1)))
          · omega
          · omega
          · omega
        · replace g : st = 2 := g
          rw [done_upd]
          rcases a6 with q | q | q | q | q
          · omega
          · obtain ⟨q1, q2, q3, q4, q5⟩ := q
            obtain ⟨e1, e2⟩ := hwin _ q5
            exact done_app (.inr (by simp [oneD, q1, ← a3, e1, e2, q4, updM]))
          · omega
          · omega
          · omega
end Go.Proofs.Ythcdnkhgmicpoaa
