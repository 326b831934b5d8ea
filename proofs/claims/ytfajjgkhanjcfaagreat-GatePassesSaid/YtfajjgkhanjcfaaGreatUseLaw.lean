/- Passes: what a ride leaves: plain facts on the medium behind it. -/
import Derived.Test.YtfajjgkhanjcfaaGreatValid
namespace Go.Proofs.YtfajjgkhanjcfaaGreat
set_option linter.unusedSimpArgs false
set_option linter.unusedVariables false
open Go.RowKit
theorem why_facts {p : PD} {m : MV} {op lift t : Int} (h : whyF p m op lift t = 0) : p.sf ≤ t ∧ t < p.st ∧ hasF p.ops op = true ∧ openF p t = true ∧ usedF p m t = false ∧ m.at_ ≤ t ∧ (lift = m.lift → m.at_ + 300 ≤ t) := by
  unfold whyF at h
  split at h
  · omega
  rename_i h1
  split at h
  · omega
  rename_i h2
  split at h
  · omega
  rename_i h3
  split at h
  · omega
  rename_i h4
  split at h
  · omega
  rename_i h5
  refine ⟨by omega, by omega, by simpa using h2, by simpa using h3, by simpa using h4, by omega, fun e => ?_⟩
  by_cases k : t < m.at_ + 300
  · exact absurd (.inr ⟨e, k⟩) h5
  · omega
theorem used_facts {p : PD} {m : MV} {t : Int} (h : usedF p m t = false) : (p.kind = 0 → m.first = -1 ∨ t < m.first + p.units) ∧ (p.kind = 1 → m.left = 0 → dayF t = m.today) ∧ (p.kind = 2 → m.left ≠ 0) := by
  unfold usedF at h
  refine ⟨fun k => ?_, fun k hl => ?_, fun k => ?_⟩
  · rw [if_pos k] at h
    by_cases a : t < m.first + p.units
    · exact .inr a
    · left
      have a' : m.first + p.units ≤ t := by omega
      simp [a'] at h
      exact h
  · rw [if_neg (by omega), if_pos k] at h
    simp [hl] at h
    exact h
  · rw [if_neg (by omega), if_neg (by omega)] at h
    simpa using h
theorem use_facts {p : PD} {m : MV} {op lift t : Int} (h : useE p m op lift t = 0) : whyF p m op lift t = 0 ∧ m.counter < 1000000 ∧ 1 ≤ lift ∧ lift ≤ 9999 := by
  unfold useE at h
  split at h
  · omega
  rename_i h1
  split at h
  · omega
  rename_i h2
  split at h
  · omega
  exact ⟨Decidable.not_not.1 h1, by omega, by omega, by omega⟩
theorem day_facts {t : Int} (h0 : 0 ≤ t) (h1 : t ≤ 20000000) : dayF t = t / 86400 ∧ 0 ≤ dayF t ∧ dayF t ≤ 231 := by
  have : dayF t = t / 86400 := by unfold dayF; rw [if_pos (isTimeB_t h0 h1)]
  omega
theorem def_use {p : PD} {m : MV} {op lift t : Int} (hd : Def p m) (h : useE p m op lift t = 0) : Def p (useM p m lift t) := by
  obtain ⟨hw, hc, hl1, hl2⟩ := use_facts h
  obtain ⟨w1, w2, -, -, w5, w6, -⟩ := why_facts hw
  obtain ⟨u0, u1, u2⟩ := used_facts w5
  have a1 := hd.sf0; have a2 := hd.st; have a3 := hd.first0; have a4 := hd.first; have a5 := hd.left0; have a6 := hd.left; have a7 := hd.count0
  obtain ⟨d0, d1, d2⟩ := day_facts (show 0 ≤ t by omega) (show t ≤ 20000000 by omega)
  have hL : 0 ≤ (useM p m lift t).left ∧ (useM p m lift t).left ≤ 100 := by
    unfold useM
    dsimp only
    split
    · rename_i hk
      rcases hk with hk | ⟨hk, hn⟩
      · have := u2 hk; omega
      · have : m.left ≠ 0 := fun e => hn (u1 hk e)
        omega
    · omega
  have hF : -1 ≤ (useM p m lift t).first ∧ (useM p m lift t).first ≤ 20000000 := by
    unfold useM
    dsimp only
    split <;> omega
  exact { units0 := hd.units0, units := hd.units, few := hd.few, kind := hd.kind, sf0 := hd.sf0, sft := hd.sft, st := hd.st, first0 := hF.1, first := hF.2, at0 := by show -1 ≤ t; omega, at1 := by show t ≤ 20000000; omega, left0 := hL.1, left := hL.2, today0 := by show -1 ≤ dayF t; omega, today := by show dayF t ≤ 231; omega, count0 := by show 0 ≤ m.counter + 1; omega, count := by show m.counter + 1 ≤ 1000000; omega }
theorem mRight_of {m : MV} (h1 : 1 ≤ m.serial ∧ m.serial ≤ 9999 ∧ 1 ≤ m.product ∧ m.product ≤ 9999 ∧ 0 ≤ m.counter ∧ m.counter ≤ 1000000 ∧ -1 ≤ m.first ∧ m.first ≤ 20000000 ∧ -1 ≤ m.at_ ∧ m.at_ ≤ 20000000 ∧ 0 ≤ m.left ∧ m.left ≤ 100 ∧ -1 ≤ m.today ∧ m.today ≤ 231 ∧ 0 ≤ m.lift ∧ m.lift ≤ 9999) (h2 : m.first = -1 → m.at_ = -1) (h3 : m.at_ = -1 → m.lift = 0 ∧ m.today = -1) (h4 : m.first ≤ m.at_) : mRight m = 0 := by
  unfold mRight
  rw [if_neg, if_neg]
  · simp [mState]; omega
  · simp [mBad]; omega
theorem right_use {p : PD} {m : MV} {op lift t : Int} (hm : mRight m = 0) (hd : Def p m) (h : useE p m op lift t = 0) : mRight (useM p m lift t) = 0 := by
  have hd' := def_use hd h
  obtain ⟨hw, hc, hl1, hl2⟩ := use_facts h
  obtain ⟨w1, w2, -, -, -, w6, -⟩ := why_facts hw
  have a1 := hd.sf0
  obtain ⟨⟨f1, f2, f3, f4, f5, f6, f7, f8, f9, f10, f11, f12, f13, f14, f15, f16⟩, g2, g3, g4⟩ := mRight_facts hm
  refine mRight_of ⟨f1, f2, f3, f4, hd'.count0, hd'.count, hd'.first0, hd'.first, hd'.at0, hd'.at1, hd'.left0, hd'.left, hd'.today0, hd'.today, by show 0 ≤ lift; omega, by show lift ≤ 9999; omega⟩ ?_ ?_ ?_
  · show (if m.first = -1 then t else m.first) = -1 → t = -1
    split <;> omega
  · show t = -1 → _
    omega
  · show (if m.first = -1 then t else m.first) ≤ t
    split <;> omega
end Go.Proofs.YtfajjgkhanjcfaaGreat
