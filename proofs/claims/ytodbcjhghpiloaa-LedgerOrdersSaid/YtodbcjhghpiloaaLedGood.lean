/- Ledger: what right postings are. -/
import Derived.Test.YtodbcjhghpiloaaLedAlive
namespace Go.Proofs.Ytodbcjhghpiloaa
set_option linter.unusedSimpArgs false
set_option linter.unusedVariables false
open Go.RowKit
theorem postsL_zero : ∀ {xs : List PV} {seen : List Int}, postsL seen xs = 0 → ∀ x ∈ xs, x.bad = false ∧ ¬ x.from_ = x.to_
  | [], _, _, x, hx => by cases hx
  | y :: r, seen, h, x, hx => by
    unfold postsL at h
    split at h
    · rename_i h1
      rcases List.mem_cons.1 hx with rfl | hx
      · unfold postE at h1
        split at h1
        · omega
        split at h1
        · omega
        · exact ⟨by simpa using ‹¬ x.bad = true›, ‹_›⟩
      · exact postsL_zero h x hx
    · contradiction
theorem right_zero {xs : List PV} (h : rightP xs = 0) : ∀ x ∈ xs, x.bad = false ∧ ¬ x.from_ = x.to_ := by
  unfold rightP at h
  split at h
  · omega
  · exact postsL_zero h
theorem right_good {xs : List PV} (h : rightP xs = 0) : goodP xs := fun x hx => by
  obtain ⟨-, -, -, -, -, -, h7, h8⟩ := PV.bad_of (right_zero h x hx).1
  omega
theorem right_wf {xs : List PV} (h : rightP xs = 0) : wfAcc xs := fun x hx => by
  obtain ⟨-, -, h3, h4, h5, h6, -, -⟩ := PV.bad_of (right_zero h x hx).1
  exact ⟨i64_wf (by omega) (by omega), i64_wf (by omega) (by omega)⟩
end Go.Proofs.Ytodbcjhghpiloaa
