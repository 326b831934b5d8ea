/- Gates: the reference's Right, and that of the list of revoked media. -/
import Derived.Test.YtfajjgkhanjcfaaGreatGate
namespace Go.Proofs.YtfajjgkhanjcfaaGreat
set_option linter.unusedSimpArgs false
set_option linter.unusedVariables false
open Go.RowKit
def gBad (g : GV) : Bool := decide (g.id < 1) || (decide (9999 < g.id) || (decide (g.lift < 1) || (decide (9999 < g.lift) || (decide (g.operator < 1) || (decide (8 < g.operator) || (decide (g.seq < 1) || (decide (1000000 < g.seq) || (decide (g.heard < 0) || decide (20000000 < g.heard)))))))))
def right28 (g : GV) : Int := if gBad g = true then 2 else right27 ⟨g.version, g.sl, g.list⟩
theorem gate_facts {g : GV} (h : right28 g = 0) : 1 ≤ g.id ∧ g.id ≤ 9999 ∧ 1 ≤ g.lift ∧ g.lift ≤ 9999 ∧ 1 ≤ g.operator ∧ g.operator ≤ 8 ∧ 1 ≤ g.seq ∧ g.seq ≤ 1000000 ∧ 0 ≤ g.heard ∧ g.heard ≤ 20000000 := by
  unfold right28 at h
  split at h
  · omega
  · rename_i hb
    simp [gBad] at hb
    omega
set_option maxRecDepth 100000 in
set_option maxHeartbeats 3200000 in
theorem ref28_Right_bad (g : GV) (w : World) (hb : gBad g = true) : Calls Tryz.prog 17 #[g.val] w (Gives (.int .i64 2) w) := by
  have HB := Lib.hid hb
  clear hb
  (go_enter Tryz.func17, Tryz.ntmps17; try dsimp only [List.append])
  go_upto_if 50 with fail
  all_goals go_wp2
  all_goals first
    | (go_ret; exact gives_of rfl (by go_light; (repeat' (first | (with_reducible exact Below.refl _ _) | (with_reducible exact Nat.le_refl _) | (with_reducible assumption) | (with_reducible refine below_step ?_ ?_ hr) | (with_reducible refine below_over ?_ ?_ _) | (with_reducible refine Below.alloc ?_ ?_ _) | (with_reducible refine Below.setCell ?_ ?_ _) | (with_reducible refine below_put ?_ ?_ _) | (with_reducible refine Below.drew ?_) | (with_reducible refine below_drewN_ ?_ _) | (with_reducible refine le_drewN ?_ _) | (with_reducible refine over_le _ _ _ ?_) | (with_reducible refine le_alloc ?_ _) | (with_reducible refine le_setCell ?_ _ _) | (with_reducible refine le_put ?_ _ _) | (with_reducible refine le_drew ?_) | dsimp only | omega | ((try simp only [World.size_alloc, World.size_setCell, World.size_drew, size_put]); omega) | (simp; done)))))
    | (exfalso; go_light; have h := HB.out; clear HB; simp [gBad] at h; omega)
set_option maxRecDepth 100000 in
set_option maxHeartbeats 3200000 in
theorem ref28_Right_good (g : GV) (w : World) (hg : g.at_ w) (hb : gBad g = false) : Calls Tryz.prog 17 #[g.val] w (Gives (.int .i64 (right27 ⟨g.version, g.sl, g.list⟩)) w) := by
  have Hg := Lib.hid hg
  simp only [gBad, Bool.or_eq_false_iff] at hb
  obtain ⟨b1, b2, b3, b4, b5, b6, b7, b8, b9, b10⟩ := hb
  have Hc := Lib.hid (fun w' (h : Below w.heap.size w w') => ref27_Right ⟨g.version, g.sl, g.list⟩ w' (Hg.out.toW h))
  clear hg
  (go_enter Tryz.func17, Tryz.ntmps17; try dsimp only [List.append])
  go_wp2_with fail
  refine (Hc.out _ (by (repeat' (first | (with_reducible exact Below.refl _ _) | (with_reducible exact Nat.le_refl _) | (with_reducible assumption) | (with_reducible refine below_step ?_ ?_ hr) | (with_reducible refine below_over ?_ ?_ _) | (with_reducible refine Below.alloc ?_ ?_ _) | (with_reducible refine Below.setCell ?_ ?_ _) | (with_reducible refine below_put ?_ ?_ _) | (with_reducible refine Below.drew ?_) | (with_reducible refine below_drewN_ ?_ _) | (with_reducible refine le_drewN ?_ _) | (with_reducible refine over_le _ _ _ ?_) | (with_reducible refine le_alloc ?_ _) | (with_reducible refine le_setCell ?_ _ _) | (with_reducible refine le_put ?_ _ _) | (with_reducible refine le_drew ?_) | dsimp only | omega | ((try simp only [World.size_alloc, World.size_setCell, World.size_drew, size_put]); omega) | (simp; done))))).mono ?_
  rintro e w1 hg
  obtain ⟨rfl, hb⟩ := hg.below
  clear hg
  have hz := hb.size
  (try simp only [World.size_alloc, World.size_setCell, World.size_drew, size_put] at hz)
  have hB : Below w.heap.size w w1 := below_step (by (repeat' (first | (with_reducible exact Below.refl _ _) | (with_reducible exact Nat.le_refl _) | (with_reducible assumption) | (with_reducible refine below_step ?_ ?_ hr) | (with_reducible refine below_over ?_ ?_ _) | (with_reducible refine Below.alloc ?_ ?_ _) | (with_reducible refine Below.setCell ?_ ?_ _) | (with_reducible refine below_put ?_ ?_ _) | (with_reducible refine Below.drew ?_) | (with_reducible refine below_drewN_ ?_ _) | (with_reducible refine le_drewN ?_ _) | (with_reducible refine over_le _ _ _ ?_) | (with_reducible refine le_alloc ?_ _) | (with_reducible refine le_setCell ?_ _ _) | (with_reducible refine le_put ?_ _ _) | (with_reducible refine le_drew ?_) | dsimp only | omega | ((try simp only [World.size_alloc, World.size_setCell, World.size_drew, size_put]); omega) | (simp; done)))) (by (first | omega | ((try simp only [World.size_alloc, World.size_setCell, World.size_drew, size_put]); omega))) hb
  clear hb
  go_wp2_with fail
  go_ret
  exact gives_of rfl (by go_light; (repeat' (first | (with_reducible exact Below.refl _ _) | (with_reducible exact Nat.le_refl _) | (with_reducible assumption) | (with_reducible refine below_step ?_ ?_ hr) | (with_reducible refine below_over ?_ ?_ _) | (with_reducible refine Below.alloc ?_ ?_ _) | (with_reducible refine Below.setCell ?_ ?_ _) | (with_reducible refine below_put ?_ ?_ _) | (with_reducible refine Below.drew ?_) | (with_reducible refine below_drewN_ ?_ _) | (with_reducible refine le_drewN ?_ _) | (with_reducible refine over_le _ _ _ ?_) | (with_reducible refine le_alloc ?_ _) | (with_reducible refine le_setCell ?_ _ _) | (with_reducible refine le_put ?_ _ _) | (with_reducible refine le_drew ?_) | dsimp only | omega | ((try simp only [World.size_alloc, World.size_setCell, World.size_drew, size_put]); omega) | (simp; done))))
theorem ref28_Right (g : GV) (w : World) (hg : g.at_ w) : Calls Tryz.prog 17 #[g.val] w (Gives (.int .i64 (right28 g)) w) := by
  unfold right28
  cases hb : gBad g
  · rw [if_neg (by simp)]; exact ref28_Right_good g w hg hb
  · rw [if_pos rfl]; exact ref28_Right_bad g w hb
end Go.Proofs.YtfajjgkhanjcfaaGreat
