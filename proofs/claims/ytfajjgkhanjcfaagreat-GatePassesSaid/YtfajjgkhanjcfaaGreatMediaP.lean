/- Media: the program's Right. -/
import Derived.Test.YtfajjgkhanjcfaaGreatMedia
namespace Go.Proofs.YtfajjgkhanjcfaaGreat
set_option linter.unusedSimpArgs false
set_option linter.unusedVariables false
open Go.RowKit
set_option maxRecDepth 100000 in
set_option maxHeartbeats 4000000 in
theorem media_Right_bad (m : MV) (w : World) (hbad : mBad m = true) : Calls Tryz.prog 51 #[m.val] w (Gives (.int .i64 2) w) := by
  obtain ⟨serial, counter, product, first, left, today, lift, at_, tag⟩ := m
  have HB := Lib.hid hbad
  clear hbad
  simp only [MV.val]
  (go_enter Tryz.func51, Tryz.ntmps51; try dsimp only [List.append])
  go_wp2
  all_goals first
    | (go_ret; exact gives_of rfl (by go_light; (repeat' (first | (with_reducible exact Below.refl _ _) | (with_reducible exact Nat.le_refl _) | (with_reducible assumption) | (with_reducible refine below_step ?_ ?_ hr) | (with_reducible refine below_over ?_ ?_ _) | (with_reducible refine Below.alloc ?_ ?_ _) | (with_reducible refine Below.setCell ?_ ?_ _) | (with_reducible refine below_put ?_ ?_ _) | (with_reducible refine Below.drew ?_) | (with_reducible refine below_drewN_ ?_ _) | (with_reducible refine le_drewN ?_ _) | (with_reducible refine over_le _ _ _ ?_) | (with_reducible refine le_alloc ?_ _) | (with_reducible refine le_setCell ?_ _ _) | (with_reducible refine le_put ?_ _ _) | (with_reducible refine le_drew ?_) | dsimp only | omega | ((try simp only [World.size_alloc, World.size_setCell, World.size_drew, size_put]); omega) | (simp; done)))))
    | (exfalso; go_light; have h := HB.out; clear HB; simp [mBad] at h; omega)
set_option maxRecDepth 100000 in
set_option maxHeartbeats 4000000 in
theorem media_Right_good (m : MV) (w : World) (hgood : mBad m = false) : Calls Tryz.prog 51 #[m.val] w (Gives (.int .i64 (mRight m)) w) := by
  have HB := Lib.hid hgood
  have hf : ¬ m.serial < 1 ∧ ¬ 9999 < m.serial ∧ ¬ m.product < 1 ∧ ¬ 9999 < m.product ∧ ¬ m.counter < 0 ∧ ¬ 1000000 < m.counter ∧ ¬ m.first < -1 ∧ ¬ 20000000 < m.first ∧ ¬ m.at_ < -1 ∧ ¬ 20000000 < m.at_ ∧ ¬ m.left < 0 ∧ ¬ 100 < m.left ∧ ¬ m.today < -1 ∧ ¬ 231 < m.today ∧ ¬ m.lift < 0 ∧ ¬ 9999 < m.lift := by
    simp [mBad] at hgood; omega
  obtain ⟨serial, counter, product, first, left, today, lift, at_, tag⟩ := m
  obtain ⟨n1, n2, n3, n4, n5, n6, n7, n8, n9, n10, n11, n12, n13, n14, n15, n16⟩ := hf
  clear hgood
  simp only [MV.val]
  (go_enter Tryz.func51, Tryz.ntmps51; try dsimp only [List.append])
  go_wp2
  all_goals (go_ret; refine gives_of (ret_int ?_) (by go_light; (repeat' (first | (with_reducible exact Below.refl _ _) | (with_reducible exact Nat.le_refl _) | (with_reducible assumption) | (with_reducible refine below_step ?_ ?_ hr) | (with_reducible refine below_over ?_ ?_ _) | (with_reducible refine Below.alloc ?_ ?_ _) | (with_reducible refine Below.setCell ?_ ?_ _) | (with_reducible refine below_put ?_ ?_ _) | (with_reducible refine Below.drew ?_) | (with_reducible refine below_drewN_ ?_ _) | (with_reducible refine le_drewN ?_ _) | (with_reducible refine over_le _ _ _ ?_) | (with_reducible refine le_alloc ?_ _) | (with_reducible refine le_setCell ?_ _ _) | (with_reducible refine le_put ?_ _ _) | (with_reducible refine le_drew ?_) | dsimp only | omega | ((try simp only [World.size_alloc, World.size_setCell, World.size_drew, size_put]); omega) | (simp; done)))); go_light; have h1 := HB.out; clear HB; simp only [mRight, h1, mState]; ((try simp only [Bool.false_eq_true, if_false]); (repeat' split)) <;> first | rfl | omega | (simp_all; done) | (simp_all; omega))
theorem media_Right (m : MV) (w : World) : Calls Tryz.prog 51 #[m.val] w (Gives (.int .i64 (mRight m)) w) := by
  cases h : mBad m
  · exact media_Right_good m w h
  · have e : mRight m = 2 := by simp [mRight, h]
    rw [e]
    exact media_Right_bad m w h
end Go.Proofs.YtfajjgkhanjcfaaGreat
