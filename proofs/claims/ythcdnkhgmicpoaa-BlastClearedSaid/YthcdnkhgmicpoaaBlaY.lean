/- Missions: the plain law: what an operation that succeeds has done. -/
import Derived.Test.YthcdnkhgmicpoaaBlaZ
namespace Go.Proofs.Ythcdnkhgmicpoaa
set_option linter.unusedSimpArgs false
set_option linter.unusedVariables false
open Go.RowKit
/-- The operation x turns the mission m into the state st. -/
def TurnsB (x : OpB) (m : MS) (st : Int) : Prop :=
  (x.kind = 1 ∧ m.state = 0 ∧ st = 1 ∧ x.empty = true ∧ winM m x.time = true) ∨ (x.kind = 2 ∧ m.state = 1 ∧ st = 2 ∧ x.by_ = m.by_ ∧ winM m x.time = true) ∨
  (x.kind = 3 ∧ m.state = 2 ∧ (st = 3 ∨ st = 4) ∧ x.by_ = m.by_ ∧ x.empty = true) ∨ (x.kind = 4 ∧ m.state = 3 ∧ st = 5) ∨
  (x.kind = 5 ∧ (m.state = 0 ∨ m.state = 1 ∨ m.state = 2 ∨ m.state = 4) ∧ (m.state = 4 → m.since + 1800 ≤ x.time) ∧ st = 6)
def newB (x : OpB) : MS := ⟨x.id, x.slide, x.by_, 0, x.time, x.fr, x.till⟩
theorem turns_open {x : OpB} {m : MS} {st : Int} (h : TurnsB x m st) : openM m = true ∧ (0 ≤ st ∧ st ≤ 6) := by
  simp only [openM, inB_iff]
  rcases h with h | h | h | h | h <;> omega
theorem ref_clear {e : Bool} {t : Int} {m : MS} (h : refClear e t m = 0) : m.state = 0 ∧ e = true ∧ winM m t = true := by
  unfold refClear at h
  split at h
  · omega
  · rename_i h1
    split at h
    · omega
    · rename_i h2
      split at h
      · omega
      · rename_i h3
        exact ⟨by simpa using h1, by simpa using h2, by simpa using h3⟩
theorem ref_arm {b t : Int} {m : MS} (h : refArm b t m = 0) : m.state = 1 ∧ b = m.by_ ∧ winM m t = true := by
  unfold refArm at h
  split at h
  · omega
  · rename_i h1
    split at h
    · omega
    · rename_i h2
      split at h
      · omega
      · rename_i h3
        exact ⟨by simpa using h1, by simpa using h2, by simpa using h3⟩
theorem ref_fire {b : Int} {e : Bool} {m : MS} (h : refFire b e m = 0) : m.state = 2 ∧ b = m.by_ ∧ e = true := by
  unfold refFire at h
  split at h
  · omega
  · rename_i h1
    split at h
    · omega
    · rename_i h2
      split at h
      · omega
      · rename_i h3
        exact ⟨by simpa using h1, by simpa using h2, by simpa using h3⟩
theorem ref_end {m : MS} (h : refEnd m = 0) : m.state = 3 := by
  unfold refEnd at h
  split at h
  · omega
  · rename_i h1; simpa using h1
theorem ref_abort {t : Int} {m : MS} (h : refAbort t m = 0) : m.state ≠ 3 ∧ m.state ≠ 5 ∧ m.state ≠ 6 ∧ (m.state = 4 → m.since + 1800 ≤ t) := by
  unfold refAbort at h
  split at h
  · omega
  · rename_i h1
    split at h
    · omega
    · rename_i h2
      split at h
      · omega
      · rename_i h3
        simp at h1 h2 h3
        refine ⟨h1, h2, h3, fun h4 => ?_⟩
        rw [if_pos (by simpa using h4)] at h
        split at h
        · omega
        · omega
theorem do_spec {x : OpB} {l : List MS} (h : right51 l = 0) (hb : doB x l = true) :
    (x.kind = 0 ∧ doL x l = l ++ [newB x] ∧ right51 (doL x l) = 0) ∨
    (x.kind ≠ 0 ∧ ∃ (k : Nat) (m : MS) (st : Int), idxM x.id 0 l = (k : Int) ∧ l[k]? = some m ∧ m.id = x.id ∧ m.since ≤ x.time ∧ x.time ≤ 20000000 ∧ TurnsB x m st ∧ doL x l = l.set k (updM m st x.time) ∧ right51 (doL x l) = 0) := by
  have hL : doL x l = doF x l := by unfold doL; rw [if_pos hb]
  have hE : doE x l = 0 := by simpa [doB] using hb
  rw [hL]
  clear hL hb
  have fin : ∀ (k : Nat) (m : MS) (st : Int), l[k]? = some m → m.since ≤ x.time → x.time ≤ 20000000 → TurnsB x m st → right51 (l.set k (updM m st x.time)) = 0 := by
    intro k m st hk h1 h2 ht
    have hg := right_good h m (List.mem_of_getElem? hk)
    exact set_right h hk (turns_open ht).2 ⟨by have := hg.since.1; omega, h2⟩ (fun _ => (turns_open ht).1)
  obtain ⟨kind, id, slide, by_, time, fr, till, worked, empty⟩ := x
  dsimp only at *
  rcases kinds6 kind with rfl | rfl | rfl | rfl | rfl | rfl | ⟨h0, h1, h2, h3, h4, h5⟩
  · left
    have e1 : planE l ⟨id, slide, by_, 0, time, fr, till⟩ = 0 := hE
    have e2 : doF ⟨0, id, slide, by_, time, fr, till, worked, empty⟩ l = planF l ⟨id, slide, by_, 0, time, fr, till⟩ := rfl
    rw [e2]
    have e3 : planF l ⟨id, slide, by_, 0, time, fr, till⟩ = l ++ [⟨id, slide, by_, 0, time, fr, till⟩] := by unfold planF; rw [if_pos e1]
    rw [e3]
    refine ⟨rfl, rfl, ?_⟩
    unfold planE at e1
    rw [if_neg (by simp)] at e1
    exact e1
  · right
    refine ⟨by decide, ?_⟩
    obtain ⟨k, m, a1, a2, a3, a4, a5, a6, a7⟩ := chg_zero (ref := refClear empty time) (show chgE id time (refClear empty time) l = 0 from hE)
    obtain ⟨b1, b2, b3⟩ := ref_clear a6
    have ht : TurnsB ⟨1, id, slide, by_, time, fr, till, worked, empty⟩ m 1 := .inl ⟨rfl, b1, rfl, b2, b3⟩
    have e2 : doF ⟨1, id, slide, by_, time, fr, till, worked, empty⟩ l = l.set k (updM m 1 time) := a7 1
    exact ⟨k, m, 1, a1, a2, a3, a4, a5, ht, e2, by rw [e2]; exact fin k m 1 a2 a4 a5 ht⟩
  · right
    refine ⟨by decide, ?_⟩
    obtain ⟨k, m, a1, a2, a3, a4, a5, a6, a7⟩ := chg_zero (ref := refArm by_ time) (show chgE id time (refArm by_ time) l = 0 from hE)
    obtain ⟨b1, b2, b3⟩ := ref_arm a6
    have ht : TurnsB ⟨2, id, slide, by_, time, fr, till, worked, empty⟩ m 2 := .inr (.inl ⟨rfl, b1, rfl, b2, b3⟩)
    have e2 : doF ⟨2, id, slide, by_, time, fr, till, worked, empty⟩ l = l.set k (updM m 2 time) := a7 2
    exact ⟨k, m, 2, a1, a2, a3, a4, a5, ht, e2, by rw [e2]; exact fin k m 2 a2 a4 a5 ht⟩
  · right
    refine ⟨by decide, ?_⟩
    obtain ⟨k, m, a1, a2, a3, a4, a5, a6, a7⟩ := chg_zero (ref := refFire by_ empty) (show chgE id time (refFire by_ empty) l = 0 from hE)
    obtain ⟨b1, b2, b3⟩ := ref_fire a6
    have ht : TurnsB ⟨3, id, slide, by_, time, fr, till, worked, empty⟩ m (if worked = true then 3 else 4) := .inr (.inr (.inl ⟨rfl, b1, by cases worked <;> simp, b2, b3⟩))
    have e2 : doF ⟨3, id, slide, by_, time, fr, till, worked, empty⟩ l = l.set k (updM m (if worked = true then 3 else 4) time) := a7 _
    exact ⟨k, m, _, a1, a2, a3, a4, a5, ht, e2, by rw [e2]; exact fin k m _ a2 a4 a5 ht⟩
  · right
    refine ⟨by decide, ?_⟩
    obtain ⟨k, m, a1, a2, a3, a4, a5, a6, a7⟩ := chg_zero (ref := refEnd) (show chgE id time refEnd l = 0 from hE)
    have b1 := ref_end a6
    have ht : TurnsB ⟨4, id, slide, by_, time, fr, till, worked, empty⟩ m 5 := .inr (.inr (.inr (.inl ⟨rfl, b1, rfl⟩)))
    have e2 : doF ⟨4, id, slide, by_, time, fr, till, worked, empty⟩ l = l.set k (updM m 5 time) := a7 5
    exact ⟨k, m, 5, a1, a2, a3, a4, a5, ht, e2, by rw [e2]; exact fin k m 5 a2 a4 a5 ht⟩
  · right
    refine ⟨by decide, ?_⟩
    obtain ⟨k, m, a1, a2, a3, a4, a5, a6, a7⟩ := chg_zero (ref := refAbort time) (show chgE id time (refAbort time) l = 0 from hE)
    obtain ⟨b1, b2, b3, b4⟩ := ref_abort a6
    have hg := (right_good h m (List.mem_of_getElem? a2)).state
    have ht : TurnsB ⟨5, id, slide, by_, time, fr, till, worked, empty⟩ m 6 := .inr (.inr (.inr (.inr ⟨rfl, by omega, b4, rfl⟩)))
    have e2 : doF ⟨5, id, slide, by_, time, fr, till, worked, empty⟩ l = l.set k (updM m 6 time) := a7 6
    exact ⟨k, m, 6, a1, a2, a3, a4, a5, ht, e2, by rw [e2]; exact fin k m 6 a2 a4 a5 ht⟩
  · simp only [doE, h0, h1, h2, h3, h4, h5] at hE
    simp at hE
end Go.Proofs.Ythcdnkhgmicpoaa
