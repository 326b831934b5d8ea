/- Products: the reference's check of one product: out of range. -/
import Derived.Test.YtfajjgkhanjcfaaGreatProd
namespace Go.Proofs.YtfajjgkhanjcfaaGreat
set_option linter.unusedSimpArgs false
set_option linter.unusedVariables false
open Go.RowKit

def prevAt (xs : List Int) (k : Nat) : Option Int := if k = 0 then none else xs[k - 1]?
set_option maxRecDepth 100000 in
set_option maxHeartbeats 4000000 in
theorem ref22_one_bad (p : PD) (s : Sl) (es : List PD) (w : World) (hbad : rangeBad p = true) : Calls Tryz.prog 34 #[p.val, s.val] w (Gives (.int .i64 2) w) := by
  obtain ⟨pid, kind, units, least, most, ⟨A, n, c⟩, ⟨hA, hn, hc⟩, sf, st, price, xs, hours⟩ := p
  obtain ⟨eA, en, ec⟩ := s
  have HB := Lib.hid hbad
  clear hbad
  simp only [PD.val, Sl.val]
  rcases kind4 kind with rfl | rfl | rfl | ⟨h0, h1, h2⟩
  all_goals (go_enter Tryz.func34, Tryz.ntmps34; try dsimp only [List.append])
  all_goals go_upto_if 74 with fail
  all_goals go_wp2
  all_goals first
    | (go_ret; exact gives_of rfl (by go_light; (repeat' (first | (with_reducible exact Below.refl _ _) | (with_reducible exact Nat.le_refl _) | (with_reducible assumption) | (with_reducible refine below_step ?_ ?_ hr) | (with_reducible refine below_over ?_ ?_ _) | (with_reducible refine Below.alloc ?_ ?_ _) | (with_reducible refine Below.setCell ?_ ?_ _) | (with_reducible refine below_put ?_ ?_ _) | (with_reducible refine Below.drew ?_) | (with_reducible refine below_drewN_ ?_ _) | (with_reducible refine le_drewN ?_ _) | (with_reducible refine over_le _ _ _ ?_) | (with_reducible refine le_alloc ?_ _) | (with_reducible refine le_setCell ?_ _ _) | (with_reducible refine le_put ?_ _ _) | (with_reducible refine le_drew ?_) | dsimp only | omega | ((try simp only [World.size_alloc, World.size_setCell, World.size_drew, size_put]); omega) | (simp; done)))))
    | (exfalso; go_light; have h := HB.out; clear HB; simp [rangeBad, mostF] at h; (try simp at h0 h1 h2); omega)
end Go.Proofs.YtfajjgkhanjcfaaGreat
