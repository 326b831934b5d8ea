/- A new pass is used as often as was paid for: the invariant of the rides, and that a ride keeps it. -/
import Derived.Test.YtmokmndlkalplaaUseLaw
import Derived.Test.YtmokmndlkalplaaAlive26
namespace Go.Proofs.Ytmokmndlkalplaa
set_option linter.unusedSimpArgs false
set_option linter.unusedVariables false
open Go.RowKit
structure UInv (p : PD) (M : MV) (r d f td : Int) : Prop where
  hd : Def p M
  r0 : 0 ≤ r
  d0 : 0 ≤ d
  dr : d ≤ r
  tde : td = M.today
  fst0 : r = 0 → M.first = -1
  fst1 : 0 < r → M.first = f ∧ 0 ≤ f
  fa : M.first ≤ M.at_
  l1 : p.kind = 1 → M.left = p.units - d
  l2 : p.kind = 2 → M.left = p.units - r
theorem uinv_start {p : PD} (hd : Def p (freshM p)) : UInv p (freshM p) 0 0 0 (-1) :=
  { hd := hd, r0 := by omega, d0 := by omega, dr := by omega, tde := rfl, fst0 := fun _ => rfl, fst1 := fun h => by omega, fa := by show (-1 : Int) ≤ -1; omega,
    l1 := fun h => by show (if p.kind = 0 then 0 else p.units) = _; rw [if_neg (by omega)]; omega, l2 := fun h => by show (if p.kind = 0 then 0 else p.units) = _; rw [if_neg (by omega)]; omega }
theorem uinv_step {p : PD} {M : MV} {r d f td op lift t : Int} (h : UInv p M r d f td) (hE : useE p M op lift t = 0) :
    0 ≤ t ∧ t ≤ 20000000 ∧ UInv p (useM p M lift t) (r + 1) (if t / 86400 = td then d else d + 1) (if r = 0 then t else f) (t / 86400) ∧
    (p.kind = 0 → (if r = 0 then t else f) ≤ t ∧ t - (if r = 0 then t else f) < p.units) ∧
    (p.kind = 1 → (if t / 86400 = td then d else d + 1) ≤ p.units ∧ (useM p M lift t).left = p.units - (if t / 86400 = td then d else d + 1)) ∧
    (p.kind = 2 → r + 1 ≤ p.units ∧ (useM p M lift t).left = p.units - (r + 1)) := by
  have hd' := def_use h.hd hE
  obtain ⟨hw, -, -, -⟩ := use_facts hE
  obtain ⟨w1, w2, -, -, w5, w6, -⟩ := why_facts hw
  obtain ⟨u0, u1, u2⟩ := used_facts w5
  have a1 := h.hd.sf0; have a2 := h.hd.st; have a3 := h.hd.units0
  obtain ⟨d0, d1, d2⟩ := day_facts (show 0 ≤ t by omega) (show t ≤ 20000000 by omega)
  have hl0 := hd'.left0
  have hL1 : p.kind = 1 → (useM p M lift t).left = p.units - (if t / 86400 = td then d else d + 1) := by
    intro hk
    have := h.l1 hk
    show (if p.kind = 2 ∨ (p.kind = 1 ∧ ¬ dayF t = M.today) then M.left - 1 else M.left) = _
    have he := h.tde
    rw [d0]
    by_cases e : t / 86400 = td
    · rw [if_pos e, if_neg (by rw [← he]; omega)]; omega
    · rw [if_neg e, if_pos (by rw [← he]; omega)]; omega
  have hL2 : p.kind = 2 → (useM p M lift t).left = p.units - (r + 1) := by
    intro hk
    have := h.l2 hk
    show (if p.kind = 2 ∨ (p.kind = 1 ∧ ¬ dayF t = M.today) then M.left - 1 else M.left) = _
    rw [if_pos (.inl hk)]; omega
  have hr := h.r0; have hd0 := h.d0; have hdr := h.dr
  have hf0 := h.fst0; have hf1 := h.fst1; have hfa := h.fa
  have hF : (useM p M lift t).first = (if r = 0 then t else f) := by
    show (if M.first = -1 then t else M.first) = _
    by_cases e : r = 0
    · rw [if_pos e, if_pos (hf0 e)]
    · obtain ⟨g1, g2⟩ := hf1 (by omega)
      rw [if_neg e, if_neg (by omega)]; exact g1
  have hFt : (if r = 0 then t else f) ≤ t ∧ 0 ≤ (if r = 0 then t else f) := by
    split
    · omega
    · obtain ⟨g1, g2⟩ := hf1 (by omega); omega
  refine ⟨by omega, by omega, ⟨hd', by omega, ?_, ?_, d0.symm, fun e => by omega, fun _ => ⟨hF, hFt.2⟩, by rw [hF]; exact hFt.1, hL1, hL2⟩, ?_, fun hk => ⟨?_, hL1 hk⟩, fun hk => ⟨?_, hL2 hk⟩⟩
  · split <;> omega
  · split <;> omega
  · intro hk
    refine ⟨hFt.1, ?_⟩
    split
    · omega
    · rename_i e
      obtain ⟨g1, g2⟩ := hf1 (by omega)
      rcases u0 hk with q | q <;> omega
  · have := hL1 hk; omega
  · have := hL2 hk; omega
end Go.Proofs.Ytmokmndlkalplaa
