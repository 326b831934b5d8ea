/- Media: the reference's Right, and the program's Right where the reference's is met. -/
import Derived.Test.YtoafgpeghokhgaaProd
namespace Go.Proofs.Ytoafgpeghokhgaa
set_option linter.unusedSimpArgs false
set_option linter.unusedVariables false
open Go.RowKit

structure MV where
  serial : Int
  counter : Int
  product : Int
  first : Int
  left : Int
  today : Int
  lift : Int
  at_ : Int
  tag : Int
abbrev MV.val (m : MV) : Value := .agg #[.int .i64 m.serial, .int .i64 m.counter, .int .i64 m.product, .int .i64 m.first, .int .i64 m.left, .int .i64 m.today, .int .i64 m.lift, .int .i64 m.at_, .int .u64 m.tag]
def mBad (m : MV) : Bool := decide (m.serial < 1) || decide (9999 < m.serial) || decide (m.product < 1) || decide (9999 < m.product) || decide (m.counter < 0) || decide (1000000 < m.counter) || decide (m.first < -1) || decide (20000000 < m.first) || decide (m.at_ < -1) || decide (20000000 < m.at_) || decide (m.left < 0) || decide (100 < m.left) || decide (m.today < -1) || decide (231 < m.today) || decide (m.lift < 0) || decide (9999 < m.lift)
def mState (m : MV) : Bool := (m.first == -1 && !(m.at_ == -1)) || (m.at_ == -1 && (!(m.lift == 0) || !(m.today == -1))) || decide (m.at_ < m.first)
def mRight (m : MV) : Int := if mBad m = true then 2 else if mState m = true then 10 else 0
theorem mRight_facts {m : MV} (h : mRight m = 0) : (1 ≤ m.serial ∧ m.serial ≤ 9999 ∧ 1 ≤ m.product ∧ m.product ≤ 9999 ∧ 0 ≤ m.counter ∧ m.counter ≤ 1000000 ∧ -1 ≤ m.first ∧ m.first ≤ 20000000 ∧ -1 ≤ m.at_ ∧ m.at_ ≤ 20000000 ∧ 0 ≤ m.left ∧ m.left ≤ 100 ∧ -1 ≤ m.today ∧ m.today ≤ 231 ∧ 0 ≤ m.lift ∧ m.lift ≤ 9999) ∧ (m.first = -1 → m.at_ = -1) ∧ (m.at_ = -1 → m.lift = 0 ∧ m.today = -1) ∧ m.first ≤ m.at_ := by
  unfold mRight at h
  split at h
  · omega
  · rename_i h1
    split at h
    · omega
    · rename_i h2
      simp [mBad] at h1
      simp [mState] at h2
      omega

end Go.Proofs.Ytoafgpeghokhgaa
