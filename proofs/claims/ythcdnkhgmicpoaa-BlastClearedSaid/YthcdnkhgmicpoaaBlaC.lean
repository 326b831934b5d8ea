/- Missions: why a request is refused (the program's closures); one element of an own row is written. -/
import Derived.Test.YthcdnkhgmicpoaaBlaP
namespace Go.Proofs.Ythcdnkhgmicpoaa
set_option linter.unusedSimpArgs false
set_option linter.unusedVariables false
open Go.RowKit
def refClear (empty : Bool) (t : Int) (m : MS) : Int := if (m.state != 0) = true then 10 else if empty = false then 13 else if winM m t = false then 14 else 0
def refArm (by_ t : Int) (m : MS) : Int := if (m.state != 1) = true then 10 else if (by_ != m.by_) = true then 17 else if winM m t = false then 14 else 0
def refFire (by_ : Int) (empty : Bool) (m : MS) : Int := if (m.state != 2) = true then 10 else if (by_ != m.by_) = true then 17 else if empty = false then 13 else 0
def refEnd (m : MS) : Int := if (m.state != 3) = true then 10 else 0
def refAbort (t : Int) (m : MS) : Int := if (m.state == 3) = true then 10 else if (m.state == 5) = true then 10 else if (m.state == 6) = true then 10 else if (m.state == 4) = true then (if t < m.since + 1800 then 13 else 0) else 0
theorem win_is {b : Bool} (m : MS) (t : Int) (w : World) (h : winM m t = b) : Calls Try.prog 45 #[m.val, .int .i64 t] w (Gives (.bool b) w) := h ▸ bla_inWindow m t w
set_option maxRecDepth 100000 in
set_option maxHeartbeats 1600000 in
theorem bla_Clear1 (m : MS) (empty : Bool) (t : Int) (B1 B2 : Nat) (w : World) (hB1 : w.heap[B1]? = some (.cells #[.bool empty] 4)) (hB2 : w.heap[B2]? = some (.cells #[.int .i64 t] 3)) : Calls Try.prog 44 #[m.val, .pointer (some ⟨B1, 0, none⟩), .pointer (some ⟨B2, 0, none⟩)] w (Gives (.int .i64 (refClear empty t m)) w) := by
  obtain ⟨id, slide, by_, state, since, fr, till⟩ := m
  have q1 := cell_of_block hB1 0
  have q2 := cell_of_block hB2 0
  have l1 : B1 < w.heap.size := (Array.getElem?_eq_some_iff.1 hB1).1
  have l2 : B2 < w.heap.size := (Array.getElem?_eq_some_iff.1 hB2).1
  clear hB1 hB2
  unfold refClear
  dsimp only
  cases h1 : (state != 0)
  · cases empty
    · (go_enter Try.func44, Try.ntmps44; try dsimp only [List.append])
      go_wp2_with fail
      go_ret
      exact gives_of rfl (by go_light; (repeat' (first | (with_reducible exact Below.refl _ _) | (with_reducible exact Nat.le_refl _) | (with_reducible assumption) | (with_reducible refine below_step ?_ ?_ hr) | (with_reducible refine below_over ?_ ?_ _) | (with_reducible refine Below.alloc ?_ ?_ _) | (with_reducible refine Below.setCell ?_ ?_ _) | (with_reducible refine below_put ?_ ?_ _) | (with_reducible refine Below.drew ?_) | (with_reducible refine below_drewN_ ?_ _) | (with_reducible refine le_drewN ?_ _) | (with_reducible refine over_le _ _ _ ?_) | (with_reducible refine le_alloc ?_ _) | (with_reducible refine le_setCell ?_ _ _) | (with_reducible refine le_put ?_ _ _) | (with_reducible refine le_drew ?_) | dsimp only | omega | ((try simp only [World.size_alloc, World.size_setCell, World.size_drew, size_put]); omega) | (simp; done))))
    · cases h3 : winM ⟨id, slide, by_, state, since, fr, till⟩ t
      all_goals
        (go_enter Try.func44, Try.ntmps44; try dsimp only [List.append])
        go_wp2_with (go_at_call 45; refine (win_is ⟨id, slide, by_, state, since, fr, till⟩ t _ h3).mono ?_; rintro e w1 hg; obtain ⟨rfl, hb⟩ := hg.below; clear hg; have hz := hb.size; (try simp only [World.size_alloc, World.size_setCell, World.size_drew, size_put] at hz); have hB : Below w.heap.size w w1 := below_step (by (repeat' (first | (with_reducible exact Below.refl _ _) | (with_reducible exact Nat.le_refl _) | (with_reducible assumption) | (with_reducible refine below_step ?_ ?_ hr) | (with_reducible refine below_over ?_ ?_ _) | (with_reducible refine Below.alloc ?_ ?_ _) | (with_reducible refine Below.setCell ?_ ?_ _) | (with_reducible refine below_put ?_ ?_ _) | (with_reducible refine Below.drew ?_) | (with_reducible refine below_drewN_ ?_ _) | (with_reducible refine le_drewN ?_ _) | (with_reducible refine over_le _ _ _ ?_) | (with_reducible refine le_alloc ?_ _) | (with_reducible refine le_setCell ?_ _ _) | (with_reducible refine le_put ?_ _ _) | (with_reducible refine le_drew ?_) | dsimp only | omega | ((try simp only [World.size_alloc, World.size_setCell, World.size_drew, size_put]); omega) | (simp; done)))) (by (first | omega | ((try simp only [World.size_alloc, World.size_setCell, World.size_drew, size_put]); omega))) hb; clear hb)
        go_ret
        exact gives_of rfl (by go_light; (repeat' (first | (with_reducible exact Below.refl _ _) | (with_reducible exact Nat.le_refl _) | (with_reducible assumption) | (with_reducible refine below_step ?_ ?_ hr) | (with_reducible refine below_over ?_ ?_ _) | (with_reducible refine Below.alloc ?_ ?_ _) | (with_reducible refine Below.setCell ?_ ?_ _) | (with_reducible refine below_put ?_ ?_ _) | (with_reducible refine Below.drew ?_) | (with_reducible refine below_drewN_ ?_ _) | (with_reducible refine le_drewN ?_ _) | (with_reducible refine over_le _ _ _ ?_) | (with_reducible refine le_alloc ?_ _) | (with_reducible refine le_setCell ?_ _ _) | (with_reducible refine le_put ?_ _ _) | (with_reducible refine le_drew ?_) | dsimp only | omega | ((try simp only [World.size_alloc, World.size_setCell, World.size_drew, size_put]); omega) | (simp; done))))
  · (go_enter Try.func44, Try.ntmps44; try dsimp only [List.append])
    go_wp2_with fail
    go_ret
    exact gives_of rfl (by go_light; (repeat' (first | (with_reducible exact Below.refl _ _) | (with_reducible exact Nat.le_refl _) | (with_reducible assumption) | (with_reducible refine below_step ?_ ?_ hr) | (with_reducible refine below_over ?_ ?_ _) | (with_reducible refine Below.alloc ?_ ?_ _) | (with_reducible refine Below.setCell ?_ ?_ _) | (with_reducible refine below_put ?_ ?_ _) | (with_reducible refine Below.drew ?_) | (with_reducible refine below_drewN_ ?_ _) | (with_reducible refine le_drewN ?_ _) | (with_reducible refine over_le _ _ _ ?_) | (with_reducible refine le_alloc ?_ _) | (with_reducible refine le_setCell ?_ _ _) | (with_reducible refine le_put ?_ _ _) | (with_reducible refine le_drew ?_) | dsimp only | omega | ((try simp only [World.size_alloc, World.size_setCell, World.size_drew, size_put]); omega) | (simp; done))))
set_option maxRecDepth 100000 in
set_option maxHeartbeats 1600000 in
theorem bla_Arm1 (m : MS) (b t : Int) (B1 B2 : Nat) (w : World) (hB1 : w.heap[B1]? = some (.cells #[.int .i64 b] 3)) (hB2 : w.heap[B2]? = some (.cells #[.int .i64 t] 3)) : Calls Try.prog 49 #[m.val, .pointer (some ⟨B1, 0, none⟩), .pointer (some ⟨B2, 0, none⟩)] w (Gives (.int .i64 (refArm b t m)) w) := by
  obtain ⟨id, slide, by_, state, since, fr, till⟩ := m
  have q1 := cell_of_block hB1 0
  have q2 := cell_of_block hB2 0
  have l1 : B1 < w.heap.size := (Array.getElem?_eq_some_iff.1 hB1).1
  have l2 : B2 < w.heap.size := (Array.getElem?_eq_some_iff.1 hB2).1
  clear hB1 hB2
  unfold refArm
  dsimp only
  cases h1 : (state != 1)
  · cases h2 : (b != by_)
    · cases h3 : winM ⟨id, slide, by_, state, since, fr, till⟩ t
      all_goals
        (go_enter Try.func49, Try.ntmps49; try dsimp only [List.append])
        go_wp2_with (go_at_call 45; refine (win_is ⟨id, slide, by_, state, since, fr, till⟩ t _ h3).mono ?_; rintro e w1 hg; obtain ⟨rfl, hb⟩ := hg.below; clear hg; have hz := hb.size; (try simp only [World.size_alloc, World.size_setCell, World.size_drew, size_put] at hz); have hB : Below w.heap.size w w1 := below_step (by (repeat' (first | (with_reducible exact Below.refl _ _) | (with_reducible exact Nat.le_refl _) | (with_reducible assumption) | (with_reducible refine below_step ?_ ?_ hr) | (with_reducible refine below_over ?_ ?_ _) | (with_reducible refine Below.alloc ?_ ?_ _) | (with_reducible refine Below.setCell ?_ ?_ _) | (with_reducible refine below_put ?_ ?_ _) | (with_reducible refine Below.drew ?_) | (with_reducible refine below_drewN_ ?_ _) | (with_reducible refine le_drewN ?_ _) | (with_reducible refine over_le _ _ _ ?_) | (with_reducible refine le_alloc ?_ _) | (with_reducible refine le_setCell ?_ _ _) | (with_reducible refine le_put ?_ _ _) | (with_reducible refine le_drew ?_) | dsimp only | omega | ((try simp only [World.size_alloc, World.size_setCell, World.size_drew, size_put]); omega) | (simp; done)))) (by (first | omega | ((try simp only [World.size_alloc, World.size_setCell, World.size_drew, size_put]); omega))) hb; clear hb)
        go_ret
        exact gives_of rfl (by go_light; (repeat' (first | (with_reducible exact Below.refl _ _) | (with_reducible exact Nat.le_refl _) | (with_reducible assumption) | (with_reducible refine below_step ?_ ?_ hr) | (with_reducible refine below_over ?_ ?_ _) | (with_reducible refine Below.alloc ?_ ?_ _) | (with_reducible refine Below.setCell ?_ ?_ _) | (with_reducible refine below_put ?_ ?_ _) | (with_reducible refine Below.drew ?_) | (with_reducible refine below_drewN_ ?_ _) | (with_reducible refine le_drewN ?_ _) | (with_reducible refine over_le _ _ _ ?_) | (with_reducible refine le_alloc ?_ _) | (with_reducible refine le_setCell ?_ _ _) | (with_reducible refine le_put ?_ _ _) | (with_reducible refine le_drew ?_) | dsimp only | omega | ((try simp only [World.size_alloc, World.size_setCell, World.size_drew, size_put]); omega) | (simp; done))))
    · (go_enter Try.func49, Try.ntmps49; try dsimp only [List.append])
      go_wp2_with fail
      go_ret
      exact gives_of rfl (by go_light; (repeat' (first | (with_reducible exact Below.refl _ _) | (with_reducible exact Nat.le_refl _) | (with_reducible assumption) | (with_reducible refine below_step ?_ ?_ hr) | (with_reducible refine below_over ?_ ?_ _) | (with_reducible refine Below.alloc ?_ ?_ _) | (with_reducible refine Below.setCell ?_ ?_ _) | (with_reducible refine below_put ?_ ?_ _) | (with_reducible refine Below.drew ?_) | (with_reducible refine below_drewN_ ?_ _) | (with_reducible refine le_drewN ?_ _) | (with_reducible refine over_le _ _ _ ?_) | (with_reducible refine le_alloc ?_ _) | (with_reducible refine le_setCell ?_ _ _) | (with_reducible refine le_put ?_ _ _) | (with_reducible refine le_drew ?_) | dsimp only | omega | ((try simp only [World.size_alloc, World.size_setCell, World.size_drew, size_put]); omega) | (simp; done))))
  · (go_enter Try.func49, Try.ntmps49; try dsimp only [List.append])
    go_wp2_with fail
    go_ret
    exact gives_of rfl (by go_light; (repeat' (first | (with_reducible exact Below.refl _ _) | (with_reducible exact Nat.le_refl _) | (with_reducible assumption) | (with_reducible refine below_step ?_ ?_ hr) | (with_reducible refine below_over ?_ ?_ _) | (with_reducible refine Below.alloc ?_ ?_ _) | (with_reducible refine Below.setCell ?_ ?_ _) | (with_reducible refine below_put ?_ ?_ _) | (with_reducible refine Below.drew ?_) | (with_reducible refine below_drewN_ ?_ _) | (with_reducible refine le_drewN ?_ _) | (with_reducible refine over_le _ _ _ ?_) | (with_reducible refine le_alloc ?_ _) | (with_reducible refine le_setCell ?_ _ _) | (with_reducible refine le_put ?_ _ _) | (with_reducible refine le_drew ?_) | dsimp only | omega | ((try simp only [World.size_alloc, World.size_setCell, World.size_drew, size_put]); omega) | (simp; done))))
set_option maxRecDepth 100000 in
set_option maxHeartbeats 1600000 in
theorem bla_Fire1 (m : MS) (b : Int) (empty : Bool) (B1 B2 : Nat) (w : World) (hB1 : w.heap[B1]? = some (.cells #[.int .i64 b] 3)) (hB2 : w.heap[B2]? = some (.cells #[.bool empty] 4)) : Calls Try.prog 52 #[m.val, .pointer (some ⟨B1, 0, none⟩), .pointer (some ⟨B2, 0, none⟩)] w (Gives (.int .i64 (refFire b empty m)) w) := by
  obtain ⟨id, slide, by_, state, since, fr, till⟩ := m
  have q1 := cell_of_block hB1 0
  have q2 := cell_of_block hB2 0
  have l1 : B1 < w.heap.size := (Array.getElem?_eq_some_iff.1 hB1).1
  have l2 : B2 < w.heap.size := (Array.getElem?_eq_some_iff.1 hB2).1
  clear hB1 hB2
  unfold refFire
  dsimp only
  cases h1 : (state != 2)
  · cases h2 : (b != by_)
    · cases empty
      all_goals
        (go_enter Try.func52, Try.ntmps52; try dsimp only [List.append])
        go_wp2_with fail
        go_ret
        exact gives_of rfl (by go_light; (repeat' (first | (with_reducible exact Below.refl _ _) | (with_reducible exact Nat.le_refl _) | (with_reducible assumption) | (with_reducible refine below_step ?_ ?_ hr) | (with_reducible refine below_over ?_ ?_ _) | (with_reducible refine Below.alloc ?_ ?_ _) | (with_reducible refine Below.setCell ?_ ?_ _) | (with_reducible refine below_put ?_ ?_ _) | (with_reducible refine Below.drew ?_) | (with_reducible refine below_drewN_ ?_ _) | (with_reducible refine le_drewN ?_ _) | (with_reducible refine over_le _ _ _ ?_) | (with_reducible refine le_alloc ?_ _) | (with_reducible refine le_setCell ?_ _ _) | (with_reducible refine le_put ?_ _ _) | (with_reducible refine le_drew ?_) | dsimp only | omega | ((try simp only [World.size_alloc, World.size_setCell, World.size_drew, size_put]); omega) | (simp; done))))
    · (go_enter Try.func52, Try.ntmps52; try dsimp only [List.append])
      go_wp2_with fail
      go_ret
      exact gives_of rfl (by go_light; (repeat' (first | (with_reducible exact Below.refl _ _) | (with_reducible exact Nat.le_refl _) | (with_reducible assumption) | (with_reducible refine below_step ?_ ?_ hr) | (with_reducible refine below_over ?_ ?_ _) | (with_reducible refine Below.alloc ?_ ?_ _) | (with_reducible refine Below.setCell ?_ ?_ _) | (with_reducible refine below_put ?_ ?_ _) | (with_reducible refine Below.drew ?_) | (with_reducible refine below_drewN_ ?_ _) | (with_reducible refine le_drewN ?_ _) | (with_reducible refine over_le _ _ _ ?_) | (with_reducible refine le_alloc ?_ _) | (with_reducible refine le_setCell ?_ _ _) | (with_reducible refine le_put ?_ _ _) | (with_reducible refine le_drew ?_) | dsimp only | omega | ((try simp only [World.size_alloc, World.size_setCell, World.size_drew, size_put]); omega) | (simp; done))))
  · (go_enter Try.func52, Try.ntmps52; try dsimp only [List.append])
    go_wp2_with fail
    go_ret
    exact gives_of rfl (by go_light; (repeat' (first | (with_reducible exact Below.refl _ _) | (with_reducible exact Nat.le_refl _) | (with_reducible assumption) | (with_reducible refine below_step ?_ ?_ hr) | (with_reducible refine below_over ?_ ?_ _) | (with_reducible refine Below.alloc ?_ ?_ _) | (with_reducible refine Below.setCell ?_ ?_ _) | (with_reducible refine below_put ?_ ?_ _) | (with_reducible refine Below.drew ?_) | (with_reducible refine below_drewN_ ?_ _) | (with_reducible refine le_drewN ?_ _) | (with_reducible refine over_le _ _ _ ?_) | (with_reducible refine le_alloc ?_ _) | (with_reducible refine le_setCell ?_ _ _) | (with_reducible refine le_put ?_ _ _) | (with_reducible refine le_drew ?_) | dsimp only | omega | ((try simp only [World.size_alloc, World.size_setCell, World.size_drew, size_put]); omega) | (simp; done))))
set_option maxRecDepth 100000 in
set_option maxHeartbeats 1600000 in
theorem bla_End1 (m : MS) (w : World) : Calls Try.prog 53 #[m.val] w (Gives (.int .i64 (refEnd m)) w) := by
  obtain ⟨id, slide, by_, state, since, fr, till⟩ := m
  unfold refEnd
  dsimp only
  cases h1 : (state != 3)
  all_goals
    (go_enter Try.func53, Try.ntmps53; try dsimp only [List.append])
    go_wp2_with fail
    go_ret
    exact gives_of rfl (by go_light; (repeat' (first | (with_reducible exact Below.refl _ _) | (with_reducible exact Nat.le_refl _) | (with_reducible assumption) | (with_reducible refine below_step ?_ ?_ hr) | (with_reducible refine below_over ?_ ?_ _) | (with_reducible refine Below.alloc ?_ ?_ _) | (with_reducible refine Below.setCell ?_ ?_ _) | (with_reducible refine below_put ?_ ?_ _) | (with_reducible refine Below.drew ?_) | (with_reducible refine below_drewN_ ?_ _) | (with_reducible refine le_drewN ?_ _) | (with_reducible refine over_le _ _ _ ?_) | (with_reducible refine le_alloc ?_ _) | (with_reducible refine le_setCell ?_ _ _) | (with_reducible refine le_put ?_ _ _) | (with_reducible refine le_drew ?_) | dsimp only | omega | ((try simp only [World.size_alloc, World.size_setCell, World.size_drew, size_put]); omega) | (simp; done))))
set_option maxRecDepth 100000 in
set_option maxHeartbeats 3200000 in
theorem bla_Abort1 (m : MS) (t : Int) (B1 : Nat) (w : World) (hB1 : w.heap[B1]? = some (.cells #[.int .i64 t] 3)) (h0 : 0 ≤ m.since) (h9 : m.since ≤ 20000000) : Calls Try.prog 54 #[m.val, .pointer (some ⟨B1, 0, none⟩)] w (Gives (.int .i64 (refAbort t m)) w) := by
  obtain ⟨id, slide, by_, state, since, fr, till⟩ := m
  have q1 := cell_of_block hB1 0
  have l1 : B1 < w.heap.size := (Array.getElem?_eq_some_iff.1 hB1).1
  clear hB1
  dsimp only at h0 h9
  unfold refAbort
  dsimp only
  cases h3 : (state == 3)
  rotate_left
  · (go_enter Try.func54, Try.ntmps54; try dsimp only [List.append])
    go_wp2_with fail
    go_ret
    exact gives_of rfl (by go_light; (repeat' (first | (with_reducible exact Below.refl _ _) | (with_reducible exact Nat.le_refl _) | (with_reducible assumption) | (with_reducible refine below_step ?_ ?_ hr) | (with_reducible refine below_over ?_ ?_ _) | (with_reducible refine Below.alloc ?_ ?_ _) | (with_reducible refine Below.setCell ?_ ?_ _) | (with_reducible refine below_put ?_ ?_ _) | (with_reducible refine Below.drew ?_) | (with_reducible refine below_drewN_ ?_ _) | (with_reducible refine le_drewN ?_ _) | (with_reducible refine over_le _ _ _ ?_) | (with_reducible refine le_alloc ?_ _) | (with_reducible refine le_setCell ?_ _ _) | (with_reducible refine le_put ?_ _ _) | (with_reducible refine le_drew ?_) | dsimp only | omega | ((try simp only [World.size_alloc, World.size_setCell, World.size_drew, size_put]); omega) | (simp; done))))
  cases h5 : (state == 5)
  rotate_left
  · (go_enter Try.func54, Try.ntmps54; try dsimp only [List.append])
    go_wp2_with fail
    go_ret
    exact gives_of rfl (by go_light; (repeat' (first | (with_reducible exact Below.refl _ _) | (with_reducible exact Nat.le_refl _) | (with_reducible assumption) | (with_reducible refine below_step ?_ ?_ hr) | (with_reducible refine below_over ?_ ?_ _) | (with_reducible refine Below.alloc ?_ ?_ _) | (with_reducible refine Below.setCell ?_ ?_ _) | (with_reducible refine below_put ?_ ?_ _) | (with_reducible refine Below.drew ?_) | (with_reducible refine below_drewN_ ?_ _) | (with_reducible refine le_drewN ?_ _) | (with_reducible refine over_le _ _ _ ?_) | (with_reducible refine le_alloc ?_ _) | (with_reducible refine le_setCell ?_ _ _) | (with_reducible refine le_put ?_ _ _) | (with_reducible refine le_drew ?_) | dsimp only | omega | ((try simp only [World.size_alloc, World.size_setCell, World.size_drew, size_put]); omega) | (simp; done))))
  cases h6 : (state == 6)
  rotate_left
  · (go_enter Try.func54, Try.ntmps54; try dsimp only [List.append])
    go_wp2_with fail
    go_ret
    exact gives_of rfl (by go_light; (repeat' (first | (with_reducible exact Below.refl _ _) | (with_reducible exact Nat.le_refl _) | (with_reducible assumption) | (with_reducible refine below_step ?_ ?_ hr) | (with_reducible refine below_over ?_ ?_ _) | (with_reducible refine Below.alloc ?_ ?_ _) | (with_reducible refine Below.setCell ?_ ?_ _) | (with_reducible refine below_put ?_ ?_ _) | (with_reducible refine Below.drew ?_) | (with_reducible refine below_drewN_ ?_ _) | (with_reducible refine le_drewN ?_ _) | (with_reducible refine over_le _ _ _ ?_) | (with_reducible refine le_alloc ?_ _) | (with_reducible refine le_setCell ?_ _ _) | (with_reducible refine le_put ?_ _ _) | (with_reducible refine le_drew ?_) | dsimp only | omega | ((try simp only [World.size_alloc, World.size_setCell, World.size_drew, size_put]); omega) | (simp; done))))
  cases h4 : (state == 4)
  · (go_enter Try.func54, Try.ntmps54; try dsimp only [List.append])
    go_wp2_with fail
    go_ret
    exact gives_of rfl (by go_light; (repeat' (first | (with_reducible exact Below.refl _ _) | (with_reducible exact Nat.le_refl _) | (with_reducible assumption) | (with_reducible refine below_step ?_ ?_ hr) | (with_reducible refine below_over ?_ ?_ _) | (with_reducible refine Below.alloc ?_ ?_ _) | (with_reducible refine Below.setCell ?_ ?_ _) | (with_reducible refine below_put ?_ ?_ _) | (with_reducible refine Below.drew ?_) | (with_reducible refine below_drewN_ ?_ _) | (with_reducible refine le_drewN ?_ _) | (with_reducible refine over_le _ _ _ ?_) | (with_reducible refine le_alloc ?_ _) | (with_reducible refine le_setCell ?_ _ _) | (with_reducible refine le_put ?_ _ _) | (with_reducible refine le_drew ?_) | dsimp only | omega | ((try simp only [World.size_alloc, World.size_setCell, World.size_drew, size_put]); omega) | (simp; done))))
  · by_cases ht : t < since + 1800
    · rw [if_neg (by simp), if_neg (by simp), if_neg (by simp), if_pos rfl, if_pos ht]
      have htb : decide (t < since + 1800) = true := by simpa using ht
      (go_enter Try.func54, Try.ntmps54; try dsimp only [List.append])
      go_wp2_with fail
      go_ret
      exact gives_of rfl (by go_light; (repeat' (first | (with_reducible exact Below.refl _ _) | (with_reducible exact Nat.le_refl _) | (with_reducible assumption) | (with_reducible refine below_step ?_ ?_ hr) | (with_reducible refine below_over ?_ ?_ _) | (with_reducible refine Below.alloc ?_ ?_ _) | (with_reducible refine Below.setCell ?_ ?_ _) | (with_reducible refine below_put ?_ ?_ _) | (with_reducible refine Below.drew ?_) | (with_reducible refine below_drewN_ ?_ _) | (with_reducible refine le_drewN ?_ _) | (with_reducible refine over_le _ _ _ ?_) | (with_reducible refine le_alloc ?_ _) | (with_reducible refine le_setCell ?_ _ _) | (with_reducible refine le_put ?_ _ _) | (with_reducible refine le_drew ?_) | dsimp only | omega | ((try simp only [World.size_alloc, World.size_setCell, World.size_drew, size_put]); omega) | (simp; done))))
    · rw [if_neg (by simp), if_neg (by simp), if_neg (by simp), if_pos rfl, if_neg ht]
      have htb : decide (t < since + 1800) = false := by simpa using ht
      (go_enter Try.func54, Try.ntmps54; try dsimp only [List.append])
      go_wp2_with fail
      go_ret
      exact gives_of rfl (by go_light; (repeat' (first | (with_reducible exact Below.refl _ _) | (with_reducible exact Nat.le_refl _) | (with_reducible assumption) | (with_reducible refine below_step ?_ ?_ hr) | (with_reducible refine below_over ?_ ?_ _) | (with_reducible refine Below.alloc ?_ ?_ _) | (with_reducible refine Below.setCell ?_ ?_ _) | (with_reducible refine below_put ?_ ?_ _) | (with_reducible refine Below.drew ?_) | (with_reducible refine below_drewN_ ?_ _) | (with_reducible refine le_drewN ?_ _) | (with_reducible refine over_le _ _ _ ?_) | (with_reducible refine le_alloc ?_ _) | (with_reducible refine le_setCell ?_ _ _) | (with_reducible refine le_put ?_ _ _) | (with_reducible refine le_drew ?_) | dsimp only | omega | ((try simp only [World.size_alloc, World.size_setCell, World.size_drew, size_put]); omega) | (simp; done))))
/-! One element of an own row is written. -/
def updM (m : MS) (st t : Int) : MS := ⟨m.id, m.slide, m.by_, st, t, m.fr, m.till⟩
theorem flat_set {α : Type} {enc : α → List Value} {size : Nat} (hsz : ∀ x, (enc x).length = size) : ∀ (xs : List α) (k j : Nat) (x y : α) (u : Value), xs[k]? = some x → enc y = (enc x).set j u → j < size → (xs.flatMap enc).set (k * size + j) u = (xs.set k y).flatMap enc
  | [], k, j, x, y, u, h, _, _ => by simp at h
  | a :: r, 0, j, x, y, u, h, he, hj => by
    simp at h
    subst h
    rw [List.set_cons_zero, List.flatMap_cons, List.flatMap_cons, he, Nat.zero_mul, Nat.zero_add, List.set_append_left _ _ (by rw [hsz]; exact hj)]
  | a :: r, k + 1, j, x, y, u, h, he, hj => by
    rw [List.set_cons_succ, List.flatMap_cons, List.flatMap_cons, List.set_append_right _ _ (by rw [hsz, Nat.add_mul]; omega), hsz, ← flat_set hsz r k j x y u (by simpa using h) he hj]
    congr 2
    rw [Nat.add_mul]
    omega
theorem own_addr {w : World} {base : Nat} {s : Sl} {xs : List MS} (h : OwnM w base s xs) (hn : 0 < s.n) : ∃ g cap, s = ⟨some ⟨g, 0, none⟩, s.n, cap⟩ ∧ base ≤ g ∧ g < w.heap.size ∧ ∀ i, w.frozen? ⟨g, i, none⟩ = false := by
  obtain ⟨A, n, c⟩ := s
  rcases h.row.2 with ⟨hv, h0⟩ | ⟨g, cap, cur, hv, h3, h4, -⟩
  · have h0' : n = 0 := h0
    dsimp only at hn
    omega
  · injection hv with h1 h2 h3'
    subst h1 h3'
    exact ⟨g, c, rfl, h3, (Array.getElem?_eq_some_iff.1 h4).1, fun i => frozen_of_block h4 i⟩
theorem own_set {w : World} {base g n cap : Nat} {xs : List MS} (h : OwnM w base ⟨some ⟨g, 0, none⟩, n, cap⟩ xs) {k j : Nat} {x y : MS} {u : Value} (hk : xs[k]? = some x) (hy : MS.enc y = (MS.enc x).set j u) (hj : j < 7) : OwnM (w.setCell ⟨g, k * 7 + j, none⟩ u) base ⟨some ⟨g, 0, none⟩, n, cap⟩ (xs.set k y) := by
  have hl : xs.length = n := h.len
  have hf := flat_set (size := 7) (fun _ => rfl) xs k j x y u hk hy hj
  refine ⟨by simp [hl], by rw [← hf, List.length_set]; exact h.row.1, ?_⟩
  rcases h.row.2 with ⟨hv, h0⟩ | ⟨g', cap', cur, hv, h3, h4, h5, h6, h7, h8⟩
  · cases hv
  · cases hv
    refine .inr ⟨g, cap, cur.setIfInBounds (k * 7 + j) u, rfl, h3, by rw [set_block_if, if_pos rfl, h4]; rfl, h5, h6, by simpa using h7, ?_⟩
    rw [← hf, ← h8, Array.toList_setIfInBounds, List.take_set]
end Go.Proofs.Ythcdnkhgmicpoaa
