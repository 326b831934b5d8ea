/- Media: the reference's Right, and the program's Right where the reference's is met. -/
import Derived.Test.YtfajjgkhanjcfaaGreatProd
namespace Go.Proofs.YtfajjgkhanjcfaaGreat
set_option linter.unusedSimpArgs false
set_option linter.unusedVariables false
open Go.RowKit

structure MV where
  serial : Int
  counter : Int
  product : Int
  first : Int
  left : Int
  today : Int
  lift : Int
  at_ : Int
  tag : Int
abbrev MV.val (m : MV) : Value := .agg #[.int .i64 m.serial, .int .i64 m.counter, .int .i64 m.product, .int .i64 m.first, .int .i64 m.left, .int .i64 m.today, .int .i64 m.lift, .int .i64 m.at_, .int .u64 m.tag]
def mBad (m : MV) : Bool := decide (m.serial < 1) || decide (9999 < m.serial) || decide (m.product < 1) || decide (9999 < m.product) || decide (m.counter < 0) || decide (1000000 < m.counter) || decide (m.first < -1) || decide (20000000 < m.first) || decide (m.at_ < -1) || decide (20000000 < m.at_) || decide (m.left < 0) || decide (100 < m.left) || decide (m.today < -1) || decide (231 < m.today) || decide (m.lift < 0) || decide (9999 < m.lift)
def mState (m : MV) : Bool := (m.first == -1 && !(m.at_ == -1)) || (m.at_ == -1 && (!(m.lift == 0) || !(m.today == -1))) || decide (m.at_ < m.first)
def mRight (m : MV) : Int := if mBad m = true then 2 else if mState m = true then 10 else 0
theorem mRight_facts {m : MV} (h : mRight m = 0) : (1 ≤ m.serial ∧ m.serial ≤ 9999 ∧ 1 ≤ m.product ∧ m.product ≤ 9999 ∧ 0 ≤ m.counter ∧ m.counter ≤ 1000000 ∧ -1 ≤ m.first ∧ m.first ≤ 20000000 ∧ -1 ≤ m.at_ ∧ m.at_ ≤ 20000000 ∧ 0 ≤ m.left ∧ m.left ≤ 100 ∧ -1 ≤ m.today ∧ m.today ≤ 231 ∧ 0 ≤ m.lift ∧ m.lift ≤ 9999) ∧ (m.first = -1 → m.at_ = -1) ∧ (m.at_ = -1 → m.lift = 0 ∧ m.today = -1) ∧ m.first ≤ m.at_ := by
  unfold mRight at h
  split at h
  · omega
  · rename_i h1
    split at h
    · omega
    · rename_i h2
      simp [mBad] at h1
      simp [mState] at h2
      omega

set_option maxRecDepth 100000 in
set_option maxHeartbeats 4000000 in
theorem ref25_Right_bad (m : MV) (w : World) (hbad : mBad m = true) : Calls Tryz.prog 62 #[m.val] w (Gives (.int .i64 2) w) := by
  obtain ⟨serial, counter, product, first, left, today, lift, at_, tag⟩ := m
  have HB := Lib.hid hbad
  clear hbad
  simp only [MV.val]
  (go_enter Tryz.func62, Tryz.ntmps62; try dsimp only [List.append])
  go_wp2
  all_goals first
    | (go_ret; exact gives_of rfl (by go_light; (repeat' (first | (with_reducible exact Below.refl _ _) | (with_reducible exact Nat.le_refl _) | (with_reducible assumption) | (with_reducible refine below_step ?_ ?_ hr) | (with_reducible refine below_over ?_ ?_ _) | (with_reducible refine Below.alloc ?_ ?_ _) | (with_reducible refine Below.setCell ?_ ?_ _) | (with_reducible refine below_put ?_ ?_ _) | (with_reducible refine Below.drew ?_) | (with_reducible refine below_drewN_ ?_ _) | (with_reducible refine le_drewN ?_ _) | (with_reducible refine over_le _ _ _ ?_) | (with_reducible refine le_alloc ?_ _) | (with_reducible refine le_setCell ?_ _ _) | (with_reducible refine le_put ?_ _ _) | (with_reducible refine le_drew ?_) | dsimp only | omega | ((try simp only [World.size_alloc, World.size_setCell, World.size_drew, size_put]); omega) | (simp; done)))))
    | (exfalso; go_light; have h := HB.out; clear HB; simp [mBad] at h; omega)
set_option maxRecDepth 100000 in
set_option maxHeartbeats 4000000 in
theorem ref25_Right_good (m : MV) (w : World) (hgood : mBad m = false) : Calls Tryz.prog 62 #[m.val] w (Gives (.int .i64 (mRight m)) w) := by
  have HB := Lib.hid hgood
  have hf : ¬ m.serial < 1 ∧ ¬ 9999 < m.serial ∧ ¬ m.product < 1 ∧ ¬ 9999 < m.product ∧ ¬ m.counter < 0 ∧ ¬ 1000000 < m.counter ∧ ¬ m.first < -1 ∧ ¬ 20000000 < m.first ∧ ¬ m.at_ < -1 ∧ ¬ 20000000 < m.at_ ∧ ¬ m.left < 0 ∧ ¬ 100 < m.left ∧ ¬ m.today < -1 ∧ ¬ 231 < m.today ∧ ¬ m.lift < 0 ∧ ¬ 9999 < m.lift := by
    simp [mBad] at hgood; omega
  obtain ⟨serial, counter, product, first, left, today, lift, at_, tag⟩ := m
  obtain ⟨n1, n2, n3, n4, n5, n6, n7, n8, n9, n10, n11, n12, n13, n14, n15, n16⟩ := hf
  clear hgood
  simp only [MV.val]
  (go_enter Tryz.func62, Tryz.ntmps62; try dsimp only [List.append])
  go_wp2
  all_goals (go_ret; refine gives_of (ret_int ?_) (by go_light; (repeat' (first | (with_reducible exact Below.refl _ _) | (with_reducible exact Nat.le_refl _) | (with_reducible assumption) | (with_reducible refine below_step ?_ ?_ hr) | (with_reducible refine below_over ?_ ?_ _) | (with_reducible refine Below.alloc ?_ ?_ _) | (with_reducible refine Below.setCell ?_ ?_ _) | (with_reducible refine below_put ?_ ?_ _) | (with_reducible refine Below.drew ?_) | (with_reducible refine below_drewN_ ?_ _) | (with_reducible refine le_drewN ?_ _) | (with_reducible refine over_le _ _ _ ?_) | (with_reducible refine le_alloc ?_ _) | (with_reducible refine le_setCell ?_ _ _) | (with_reducible refine le_put ?_ _ _) | (with_reducible refine le_drew ?_) | dsimp only | omega | ((try simp only [World.size_alloc, World.size_setCell, World.size_drew, size_put]); omega) | (simp; done)))); go_light; have h1 := HB.out; clear HB; simp only [mRight, h1, mState]; ((try simp only [Bool.false_eq_true, if_false]); (repeat' split)) <;> first | rfl | omega | (simp_all; done) | (simp_all; omega))
theorem ref25_Right (m : MV) (w : World) : Calls Tryz.prog 62 #[m.val] w (Gives (.int .i64 (mRight m)) w) := by
  cases h : mBad m
  · exact ref25_Right_good m w h
  · have e : mRight m = 2 := by simp [mRight, h]
    rw [e]
    exact ref25_Right_bad m w h
end Go.Proofs.YtfajjgkhanjcfaaGreat
