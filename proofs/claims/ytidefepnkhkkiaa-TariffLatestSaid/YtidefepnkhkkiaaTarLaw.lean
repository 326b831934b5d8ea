/- Tariffs: what 'right' gives. -/
import Derived.Test.YtidefepnkhkkiaaTarAlive
namespace Go.Proofs.Ytidefepnkhkkiaa
set_option linter.unusedSimpArgs false
set_option linter.unusedVariables false
open Go.RowKit
theorem fewR_all : ∀ {rs : List RT}, fewR rs = true → ∀ r ∈ rs, r.peak.length ≤ 30
  | [], _, r, hr => by cases hr
  | x :: rs, h, r, hr => by
    unfold fewR at h
    split at h
    · cases h
    · rcases List.mem_cons.1 hr with rfl | hr
      · omega
      · exact fewR_all h r hr
theorem fewL_all : ∀ {xs : List TF}, fewL xs = true → smallT xs
  | [], _, x, hx => by cases hx
  | y :: xs, h, x, hx => by
    unfold fewL at h
    split at h
    · cases h
    · rename_i h1
      split at h
      · cases h
      · rename_i h2
        rcases List.mem_cons.1 hx with rfl | hx
        · exact ⟨by omega, fewR_all (by simpa using h2)⟩
        · exact fewL_all h x hx
theorem ratesL_good : ∀ {rs : List RT} {seen : List Int}, ratesL seen rs = 0 → ∀ r ∈ rs, r.good
  | [], _, _, r, hr => by cases hr
  | x :: rs, seen, h, r, hr => by
    unfold ratesL at h
    split at h
    · rename_i h1
      rcases List.mem_cons.1 hr with rfl | hr
      · obtain ⟨hb, -, -⟩ := rateE_ok h1
        simp [RT.bad] at hb
        constructor <;> omega
      · exact ratesL_good h r hr
    · contradiction
theorem tarsL_good : ∀ {xs : List TF} {prev : Option Int}, tarsL prev xs = 0 → goodTs xs
  | [], _, _, x, hx => by cases hx
  | y :: xs, prev, h, x, hx => by
    unfold tarsL at h
    split at h
    · rename_i h1
      rcases List.mem_cons.1 hx with rfl | hx
      · unfold tarE at h1
        split at h1
        · omega
        split at h1
        · omega
        split at h1
        · omega
        exact ratesL_good h1
      · exact tarsL_good h x hx
    · contradiction
theorem right_facts {xs : List TF} (h : rightT xs = true) : goodTs xs ∧ smallT xs ∧ xs.length ≤ 16 ∧ tarsL none xs = 0 := by
  simp only [rightT, Bool.and_eq_true, beq_iff_eq] at h
  obtain ⟨h1, h2⟩ := h
  unfold fewF at h1
  split at h1
  · cases h1
  unfold tarF at h2
  split at h2
  · omega
  split at h2
  · omega
  exact ⟨tarsL_good h2, fewL_all h1, by omega, h2⟩
end Go.Proofs.Ytidefepnkhkkiaa
