/- Gates: Right and Hear. -/
import Derived.Test.YtfajjgkhanjcfaaGreatRight28
import Derived.Test.YtfajjgkhanjcfaaGreatRevA
namespace Go.Proofs.YtfajjgkhanjcfaaGreat
set_option linter.unusedSimpArgs false
set_option linter.unusedVariables false
open Go.RowKit
set_option maxRecDepth 100000 in
set_option maxHeartbeats 3200000 in
theorem gate_Right_bad (g : GV) (w : World) (hb : gBad g = true) : Calls Tryz.prog 13 #[g.val] w (Gives (.int .i64 2) w) := by
  cases h0 : decide (g.id < 1)
  rotate_left
  · clear hb
    (go_enter Tryz.func13, Tryz.ntmps13; try dsimp only [List.append])
    go_wp2_with fail
    go_ret
    exact gives_of rfl (by go_light; (repeat' (first | (with_reducible exact Below.refl _ _) | (with_reducible exact Nat.le_refl _) | (with_reducible assumption) | (with_reducible refine below_step ?_ ?_ hr) | (with_reducible refine below_over ?_ ?_ _) | (with_reducible refine Below.alloc ?_ ?_ _) | (with_reducible refine Below.setCell ?_ ?_ _) | (with_reducible refine below_put ?_ ?_ _) | (with_reducible refine Below.drew ?_) | (with_reducible refine below_drewN_ ?_ _) | (with_reducible refine le_drewN ?_ _) | (with_reducible refine over_le _ _ _ ?_) | (with_reducible refine le_alloc ?_ _) | (with_reducible refine le_setCell ?_ _ _) | (with_reducible refine le_put ?_ _ _) | (with_reducible refine le_drew ?_) | dsimp only | omega | ((try simp only [World.size_alloc, World.size_setCell, World.size_drew, size_put]); omega) | (simp; done))))
  cases h1 : decide (9999 < g.id)
  rotate_left
  · clear hb
    (go_enter Tryz.func13, Tryz.ntmps13; try dsimp only [List.append])
    go_wp2_with fail
    go_ret
    exact gives_of rfl (by go_light; (repeat' (first | (with_reducible exact Below.refl _ _) | (with_reducible exact Nat.le_refl _) | (with_reducible assumption) | (with_reducible refine below_step ?_ ?_ hr) | (with_reducible refine below_over ?_ ?_ _) | (with_reducible refine Below.alloc ?_ ?_ _) | (with_reducible refine Below.setCell ?_ ?_ _) | (with_reducible refine below_put ?_ ?_ _) | (with_reducible refine Below.drew ?_) | (with_reducible refine below_drewN_ ?_ _) | (with_reducible refine le_drewN ?_ _) | (with_reducible refine over_le _ _ _ ?_) | (with_reducible refine le_alloc ?_ _) | (with_reducible refine le_setCell ?_ _ _) | (with_reducible refine le_put ?_ _ _) | (with_reducible refine le_drew ?_) | dsimp only | omega | ((try simp only [World.size_alloc, World.size_setCell, World.size_drew, size_put]); omega) | (simp; done))))
  cases h2 : decide (g.lift < 1)
  rotate_left
  · clear hb
    (go_enter Tryz.func13, Tryz.ntmps13; try dsimp only [List.append])
    go_wp2_with fail
    go_ret
    exact gives_of rfl (by go_light; (repeat' (first | (with_reducible exact Below.refl _ _) | (with_reducible exact Nat.le_refl _) | (with_reducible assumption) | (with_reducible refine below_step ?_ ?_ hr) | (with_reducible refine below_over ?_ ?_ _) | (with_reducible refine Below.alloc ?_ ?_ _) | (with_reducible refine Below.setCell ?_ ?_ _) | (with_reducible refine below_put ?_ ?_ _) | (with_reducible refine Below.drew ?_) | (with_reducible refine below_drewN_ ?_ _) | (with_reducible refine le_drewN ?_ _) | (with_reducible refine over_le _ _ _ ?_) | (with_reducible refine le_alloc ?_ _) | (with_reducible refine le_setCell ?_ _ _) | (with_reducible refine le_put ?_ _ _) | (with_reducible refine le_drew ?_) | dsimp only | omega | ((try simp only [World.size_alloc, World.size_setCell, World.size_drew, size_put]); omega) | (simp; done))))
  cases h3 : decide (9999 < g.lift)
  rotate_left
  · clear hb
    (go_enter Tryz.func13, Tryz.ntmps13; try dsimp only [List.append])
    go_wp2_with fail
    go_ret
    exact gives_of rfl (by go_light; (repeat' (first | (with_reducible exact Below.refl _ _) | (with_reducible exact Nat.le_refl _) | (with_reducible assumption) | (with_reducible refine below_step ?_ ?_ hr) | (with_reducible refine below_over ?_ ?_ _) | (with_reducible refine Below.alloc ?_ ?_ _) | (with_reducible refine Below.setCell ?_ ?_ _) | (with_reducible refine below_put ?_ ?_ _) | (with_reducible refine Below.drew ?_) | (with_reducible refine below_drewN_ ?_ _) | (with_reducible refine le_drewN ?_ _) | (with_reducible refine over_le _ _ _ ?_) | (with_reducible refine le_alloc ?_ _) | (with_reducible refine le_setCell ?_ _ _) | (with_reducible refine le_put ?_ _ _) | (with_reducible refine le_drew ?_) | dsimp only | omega | ((try simp only [World.size_alloc, World.size_setCell, World.size_drew, size_put]); omega) | (simp; done))))
  cases h4 : decide (g.operator < 1)
  rotate_left
  · clear hb
    (go_enter Tryz.func13, Tryz.ntmps13; try dsimp only [List.append])
    go_wp2_with fail
    go_ret
    exact gives_of rfl (by go_light; (repeat' (first | (with_reducible exact Below.refl _ _) | (with_reducible exact Nat.le_refl _) | (with_reducible assumption) | (with_reducible refine below_step ?_ ?_ hr) | (with_reducible refine below_over ?_ ?_ _) | (with_reducible refine Below.alloc ?_ ?_ _) | (with_reducible refine Below.setCell ?_ ?_ _) | (with_reducible refine below_put ?_ ?_ _) | (with_reducible refine Below.drew ?_) | (with_reducible refine below_drewN_ ?_ _) | (with_reducible refine le_drewN ?_ _) | (with_reducible refine over_le _ _ _ ?_) | (with_reducible refine le_alloc ?_ _) | (with_reducible refine le_setCell ?_ _ _) | (with_reducible refine le_put ?_ _ _) | (with_reducible refine le_drew ?_) | dsimp only | omega | ((try simp only [World.size_alloc, World.size_setCell, World.size_drew, size_put]); omega) | (simp; done))))
  cases h5 : decide (8 < g.operator)
  rotate_left
  · clear hb
    (go_enter Tryz.func13, Tryz.ntmps13; try dsimp only [List.append])
    go_wp2_with fail
    go_ret
    exact gives_of rfl (by go_light; (repeat' (first | (with_reducible exact Below.refl _ _) | (with_reducible exact Nat.le_refl _) | (with_reducible assumption) | (with_reducible refine below_step ?_ ?_ hr) | (with_reducible refine below_over ?_ ?_ _) | (with_reducible refine Below.alloc ?_ ?_ _) | (with_reducible refine Below.setCell ?_ ?_ _) | (with_reducible refine below_put ?_ ?_ _) | (with_reducible refine Below.drew ?_) | (with_reducible refine below_drewN_ ?_ _) | (with_reducible refine le_drewN ?_ _) | (with_reducible refine over_le _ _ _ ?_) | (with_reducible refine le_alloc ?_ _) | (with_reducible refine le_setCell ?_ _ _) | (with_reducible refine le_put ?_ _ _) | (with_reducible refine le_drew ?_) | dsimp only | omega | ((try simp only [World.size_alloc, World.size_setCell, World.size_drew, size_put]); omega) | (simp; done))))
  cases h6 : decide (g.seq < 1)
  rotate_left
  · clear hb
    (go_enter Tryz.func13, Tryz.ntmps13; try dsimp only [List.append])
    go_wp2_with fail
    go_ret
    exact gives_of rfl (by go_light; (repeat' (first | (with_reducible exact Below.refl _ _) | (with_reducible exact Nat.le_refl _) | (with_reducible assumption) | (with_reducible refine below_step ?_ ?_ hr) | (with_reducible refine below_over ?_ ?_ _) | (with_reducible refine Below.alloc ?_ ?_ _) | (with_reducible refine Below.setCell ?_ ?_ _) | (with_reducible refine below_put ?_ ?_ _) | (with_reducible refine Below.drew ?_) | (with_reducible refine below_drewN_ ?_ _) | (with_reducible refine le_drewN ?_ _) | (with_reducible refine over_le _ _ _ ?_) | (with_reducible refine le_alloc ?_ _) | (with_reducible refine le_setCell ?_ _ _) | (with_reducible refine le_put ?_ _ _) | (with_reducible refine le_drew ?_) | dsimp only | omega | ((try simp only [World.size_alloc, World.size_setCell, World.size_drew, size_put]); omega) | (simp; done))))
  cases h7 : decide (1000000 < g.seq)
  rotate_left
  · clear hb
    (go_enter Tryz.func13, Tryz.ntmps13; try dsimp only [List.append])
    go_wp2_with fail
    go_ret
    exact gives_of rfl (by go_light; (repeat' (first | (with_reducible exact Below.refl _ _) | (with_reducible exact Nat.le_refl _) | (with_reducible assumption) | (with_reducible refine below_step ?_ ?_ hr) | (with_reducible refine below_over ?_ ?_ _) | (with_reducible refine Below.alloc ?_ ?_ _) | (with_reducible refine Below.setCell ?_ ?_ _) | (with_reducible refine below_put ?_ ?_ _) | (with_reducible refine Below.drew ?_) | (with_reducible refine below_drewN_ ?_ _) | (with_reducible refine le_drewN ?_ _) | (with_reducible refine over_le _ _ _ ?_) | (with_reducible refine le_alloc ?_ _) | (with_reducible refine le_setCell ?_ _ _) | (with_reducible refine le_put ?_ _ _) | (with_reducible refine le_drew ?_) | dsimp only | omega | ((try simp only [World.size_alloc, World.size_setCell, World.size_drew, size_put]); omega) | (simp; done))))
  cases h8 : decide (g.heard < 0)
  rotate_left
  · clear hb
    (go_enter Tryz.func13, Tryz.ntmps13; try dsimp only [List.append])
    go_wp2_with fail
    go_ret
    exact gives_of rfl (by go_light; (repeat' (first | (with_reducible exact Below.refl _ _) | (with_reducible exact Nat.le_refl _) | (with_reducible assumption) | (with_reducible refine below_step ?_ ?_ hr) | (with_reducible refine below_over ?_ ?_ _) | (with_reducible refine Below.alloc ?_ ?_ _) | (with_reducible refine Below.setCell ?_ ?_ _) | (with_reducible refine below_put ?_ ?_ _) | (with_reducible refine Below.drew ?_) | (with_reducible refine below_drewN_ ?_ _) | (with_reducible refine le_drewN ?_ _) | (with_reducible refine over_le _ _ _ ?_) | (with_reducible refine le_alloc ?_ _) | (with_reducible refine le_setCell ?_ _ _) | (with_reducible refine le_put ?_ _ _) | (with_reducible refine le_drew ?_) | dsimp only | omega | ((try simp only [World.size_alloc, World.size_setCell, World.size_drew, size_put]); omega) | (simp; done))))
  cases h9 : decide (20000000 < g.heard)
  rotate_left
  · clear hb
    (go_enter Tryz.func13, Tryz.ntmps13; try dsimp only [List.append])
    go_wp2_with fail
    go_ret
    exact gives_of rfl (by go_light; (repeat' (first | (with_reducible exact Below.refl _ _) | (with_reducible exact Nat.le_refl _) | (with_reducible assumption) | (with_reducible refine below_step ?_ ?_ hr) | (with_reducible refine below_over ?_ ?_ _) | (with_reducible refine Below.alloc ?_ ?_ _) | (with_reducible refine Below.setCell ?_ ?_ _) | (with_reducible refine below_put ?_ ?_ _) | (with_reducible refine Below.drew ?_) | (with_reducible refine below_drewN_ ?_ _) | (with_reducible refine le_drewN ?_ _) | (with_reducible refine over_le _ _ _ ?_) | (with_reducible refine le_alloc ?_ _) | (with_reducible refine le_setCell ?_ _ _) | (with_reducible refine le_put ?_ _ _) | (with_reducible refine le_drew ?_) | dsimp only | omega | ((try simp only [World.size_alloc, World.size_setCell, World.size_drew, size_put]); omega) | (simp; done))))
  simp only [gBad, h0, h1, h2, h3, h4, h5, h6, h7, h8, h9] at hb
  exact absurd hb (by simp)
set_option maxRecDepth 100000 in
set_option maxHeartbeats 3200000 in
theorem gate_Right_good (g : GV) (w : World) (hg : g.at_ w) (hb : gBad g = false) : Calls Tryz.prog 13 #[g.val] w (Gives (.int .i64 (right27 ⟨g.version, g.sl, g.list⟩)) w) := by
  have Hg := Lib.hid hg
  simp only [gBad, Bool.or_eq_false_iff] at hb
  obtain ⟨b1, b2, b3, b4, b5, b6, b7, b8, b9, b10⟩ := hb
  have Hc := Lib.hid (fun w' (h : Below w.heap.size w w') => rev_Right ⟨g.version, g.sl, g.list⟩ w' (Hg.out.toW h))
  clear hg
  (go_enter Tryz.func13, Tryz.ntmps13; try dsimp only [List.append])
  go_wp2_with fail
  refine (Hc.out _ (by (repeat' (first | (with_reducible exact Below.refl _ _) | (with_reducible exact Nat.le_refl _) | (with_reducible assumption) | (with_reducible refine below_step ?_ ?_ hr) | (with_reducible refine below_over ?_ ?_ _) | (with_reducible refine Below.alloc ?_ ?_ _) | (with_reducible refine Below.setCell ?_ ?_ _) | (with_reducible refine below_put ?_ ?_ _) | (with_reducible refine Below.drew ?_) | (with_reducible refine below_drewN_ ?_ _) | (with_reducible refine le_drewN ?_ _) | (with_reducible refine over_le _ _ _ ?_) | (with_reducible refine le_alloc ?_ _) | (with_reducible refine le_setCell ?_ _ _) | (with_reducible refine le_put ?_ _ _) | (with_reducible refine le_drew ?_) | dsimp only | omega | ((try simp only [World.size_alloc, World.size_setCell, World.size_drew, size_put]); omega) | (simp; done))))).mono ?_
  rintro e w1 hg
  obtain ⟨rfl, hb⟩ := hg.below
  clear hg
  have hz := hb.size
  (try simp only [World.size_alloc, World.size_setCell, World.size_drew, size_put] at hz)
  have hB : Below w.heap.size w w1 := below_step (by (repeat' (first | (with_reducible exact Below.refl _ _) | (with_reducible exact Nat.le_refl _) | (with_reducible assumption) | (with_reducible refine below_step ?_ ?_ hr) | (with_reducible refine below_over ?_ ?_ _) | (with_reducible refine Below.alloc ?_ ?_ _) | (with_reducible refine Below.setCell ?_ ?_ _) | (with_reducible refine below_put ?_ ?_ _) | (with_reducible refine Below.drew ?_) | (with_reducible refine below_drewN_ ?_ _) | (with_reducible refine le_drewN ?_ _) | (with_reducible refine over_le _ _ _ ?_) | (with_reducible refine le_alloc ?_ _) | (with_reducible refine le_setCell ?_ _ _) | (with_reducible refine le_put ?_ _ _) | (with_reducible refine le_drew ?_) | dsimp only | omega | ((try simp only [World.size_alloc, World.size_setCell, World.size_drew, size_put]); omega) | (simp; done)))) (by (first | omega | ((try simp only [World.size_alloc, World.size_setCell, World.size_drew, size_put]); omega))) hb
  clear hb
  go_wp2_with fail
  go_ret
  exact gives_of rfl (by go_light; (repeat' (first | (with_reducible exact Below.refl _ _) | (with_reducible exact Nat.le_refl _) | (with_reducible assumption) | (with_reducible refine below_step ?_ ?_ hr) | (with_reducible refine below_over ?_ ?_ _) | (with_reducible refine Below.alloc ?_ ?_ _) | (with_reducible refine Below.setCell ?_ ?_ _) | (with_reducible refine below_put ?_ ?_ _) | (with_reducible refine Below.drew ?_) | (with_reducible refine below_drewN_ ?_ _) | (with_reducible refine le_drewN ?_ _) | (with_reducible refine over_le _ _ _ ?_) | (with_reducible refine le_alloc ?_ _) | (with_reducible refine le_setCell ?_ _ _) | (with_reducible refine le_put ?_ _ _) | (with_reducible refine le_drew ?_) | dsimp only | omega | ((try simp only [World.size_alloc, World.size_setCell, World.size_drew, size_put]); omega) | (simp; done))))
theorem gate_Right (g : GV) (w : World) (hg : g.at_ w) : Calls Tryz.prog 13 #[g.val] w (Gives (.int .i64 (right28 g)) w) := by
  unfold right28
  cases hb : gBad g
  · rw [if_neg (by simp)]; exact gate_Right_good g w hg hb
  · rw [if_pos rfl]; exact gate_Right_bad g w hb
/-- What Hear gives: the list, and the error. -/
def hearF (g : GV) (d : DV) (t : Int) : R3 := if t < g.heard ∨ 20000000 < t then ⟨0, [], 11⟩ else apF g.version g.list d.d4
def heardV (g : GV) (t : Int) (r : R3) (s : Sl) : GV := if r.err = 0 then ⟨g.id, g.lift, g.operator, g.seq, g.key, r.version, s, t, r.list⟩ else ⟨0, 0, 0, 0, 0, 0, ⟨none, 0, 0⟩, 0, []⟩
theorem heardV_ok (g : GV) (t rv : Int) (rl : List Int) (s : Sl) : heardV g t ⟨rv, rl, 0⟩ s = ⟨g.id, g.lift, g.operator, g.seq, g.key, rv, s, t, rl⟩ := by unfold heardV; rw [if_pos rfl]
def HearPost (g : GV) (t : Int) (r : R3) (w : World) (e : Ending) (w' : World) : Prop := ∃ s : Sl, e = .returned (.tuple #[(heardV g t r s).val, .int .i64 r.err]) ∧ Below w.heap.size w w' ∧ (heardV g t r s).at_ w'
abbrev zeroGV : GV := ⟨0, 0, 0, 0, 0, 0, ⟨none, 0, 0⟩, 0, []⟩
set_option maxRecDepth 100000 in
set_option maxHeartbeats 3200000 in
theorem gate_Hear_order0 (g : GV) (d : DV) (t : Int) (w : World) (h : t < g.heard) : Calls Tryz.prog 12 #[g.val, d.val, .int .i64 t] w (HearPost g t ⟨0, [], 11⟩ w) := by
  have h1 : decide (t < g.heard) = true := by simpa using h
  clear h
  (go_enter Tryz.func12, Tryz.ntmps12; try dsimp only [List.append])
  go_wp2_with fail
  refine bodyPost_ret (v := .tuple #[zeroGV.val, .int .i64 11]) (by simp [results, Tryz.results12, go_sem]) rfl ?_
  exact ⟨⟨none, 0, 0⟩, rfl, by go_light; (repeat' (first | (with_reducible exact Below.refl _ _) | (with_reducible exact Nat.le_refl _) | (with_reducible assumption) | (with_reducible refine below_step ?_ ?_ hr) | (with_reducible refine below_over ?_ ?_ _) | (with_reducible refine Below.alloc ?_ ?_ _) | (with_reducible refine Below.setCell ?_ ?_ _) | (with_reducible refine below_put ?_ ?_ _) | (with_reducible refine Below.drew ?_) | (with_reducible refine below_drewN_ ?_ _) | (with_reducible refine le_drewN ?_ _) | (with_reducible refine over_le _ _ _ ?_) | (with_reducible refine le_alloc ?_ _) | (with_reducible refine le_setCell ?_ _ _) | (with_reducible refine le_put ?_ _ _) | (with_reducible refine le_drew ?_) | dsimp only | omega | ((try simp only [World.size_alloc, World.size_setCell, World.size_drew, size_put]); omega) | (simp; done))), Rd.nil_ _ _⟩
set_option maxRecDepth 100000 in
set_option maxHeartbeats 3200000 in
theorem gate_Hear_order1 (g : GV) (d : DV) (t : Int) (w : World) (h0 : ¬ t < g.heard) (h : 20000000 < t) : Calls Tryz.prog 12 #[g.val, d.val, .int .i64 t] w (HearPost g t ⟨0, [], 11⟩ w) := by
  have h1 : decide (t < g.heard) = false := by simpa using h0
  have h2 : decide (20000000 < t) = true := by simpa using h
  clear h h0
  (go_enter Tryz.func12, Tryz.ntmps12; try dsimp only [List.append])
  go_wp2_with fail
  refine bodyPost_ret (v := .tuple #[zeroGV.val, .int .i64 11]) (by simp [results, Tryz.results12, go_sem]) rfl ?_
  exact ⟨⟨none, 0, 0⟩, rfl, by go_light; (repeat' (first | (with_reducible exact Below.refl _ _) | (with_reducible exact Nat.le_refl _) | (with_reducible assumption) | (with_reducible refine below_step ?_ ?_ hr) | (with_reducible refine below_over ?_ ?_ _) | (with_reducible refine Below.alloc ?_ ?_ _) | (with_reducible refine Below.setCell ?_ ?_ _) | (with_reducible refine below_put ?_ ?_ _) | (with_reducible refine Below.drew ?_) | (with_reducible refine below_drewN_ ?_ _) | (with_reducible refine le_drewN ?_ _) | (with_reducible refine over_le _ _ _ ?_) | (with_reducible refine le_alloc ?_ _) | (with_reducible refine le_setCell ?_ _ _) | (with_reducible refine le_put ?_ _ _) | (with_reducible refine le_drew ?_) | dsimp only | omega | ((try simp only [World.size_alloc, World.size_setCell, World.size_drew, size_put]); omega) | (simp; done))), Rd.nil_ _ _⟩
set_option maxRecDepth 100000 in
set_option maxHeartbeats 6400000 in
theorem gate_Hear_rest (g : GV) (d : DV) (t : Int) (w : World) (hg : g.at_ w) (hd : d.at_ w) (hn : g.sl.n ≤ 400) (hn1 : d.sa.n ≤ 400) (hn2 : d.sd.n ≤ 400) (hw : WfI g.list) (hw1 : WfI d.add) (hw2 : WfI d.drop) (h0 : ¬ t < g.heard) (h : ¬ 20000000 < t) : Calls Tryz.prog 12 #[g.val, d.val, .int .i64 t] w (HearPost g t (apF g.version g.list d.d4) w) := by
  have h1 : decide (t < g.heard) = false := by simpa using h0
  have h2 : decide (20000000 < t) = false := by simpa using h
  have Hc := Lib.hid (fun w' (hb : Below w.heap.size w w') => rev_Apply_own ⟨g.version, g.sl, g.list⟩ d w' (hg.toW hb) (hd.toW hb) hn hn1 hn2 hw hw1 hw2)
  generalize apF g.version g.list d.d4 = R at Hc
  obtain ⟨rv, rl, re⟩ := R
  clear hg hd hn hn1 hn2 h0 h hw hw1 hw2
  by_cases he : re = 0
  · subst he
    (go_enter Tryz.func12, Tryz.ntmps12; try dsimp only [List.append])
    go_wp2_with fail
    refine (Hc.out _ (by (repeat' (first | (with_reducible exact Below.refl _ _) | (with_reducible exact Nat.le_refl _) | (with_reducible assumption) | (with_reducible refine below_step ?_ ?_ hr) | (with_reducible refine below_over ?_ ?_ _) | (with_reducible refine Below.alloc ?_ ?_ _) | (with_reducible refine Below.setCell ?_ ?_ _) | (with_reducible refine below_put ?_ ?_ _) | (with_reducible refine Below.drew ?_) | (with_reducible refine below_drewN_ ?_ _) | (with_reducible refine le_drewN ?_ _) | (with_reducible refine over_le _ _ _ ?_) | (with_reducible refine le_alloc ?_ _) | (with_reducible refine le_setCell ?_ _ _) | (with_reducible refine le_put ?_ _ _) | (with_reducible refine le_drew ?_) | dsimp only | omega | ((try simp only [World.size_alloc, World.size_setCell, World.size_drew, size_put]); omega) | (simp; done))))).mono ?_
    rintro e w1 ⟨s, rfl, hb, hs⟩
    have HS := Lib.hid (hs.base (b' := w.heap.size + 1 + 1 + 1) (by simp only [World.size_alloc]; omega))
    clear hs
    dsimp only
    have hz := hb.size
    (try simp only [World.size_alloc, World.size_setCell, World.size_drew, size_put] at hz)
    have hB : Below w.heap.size w w1 := below_step (by (repeat' (first | (with_reducible exact Below.refl _ _) | (with_reducible exact Nat.le_refl _) | (with_reducible assumption) | (with_reducible refine below_step ?_ ?_ hr) | (with_reducible refine below_over ?_ ?_ _) | (with_reducible refine Below.alloc ?_ ?_ _) | (with_reducible refine Below.setCell ?_ ?_ _) | (with_reducible refine below_put ?_ ?_ _) | (with_reducible refine Below.drew ?_) | (with_reducible refine below_drewN_ ?_ _) | (with_reducible refine le_drewN ?_ _) | (with_reducible refine over_le _ _ _ ?_) | (with_reducible refine le_alloc ?_ _) | (with_reducible refine le_setCell ?_ _ _) | (with_reducible refine le_put ?_ _ _) | (with_reducible refine le_drew ?_) | dsimp only | omega | ((try simp only [World.size_alloc, World.size_setCell, World.size_drew, size_put]); omega) | (simp; done)))) (by (first | omega | ((try simp only [World.size_alloc, World.size_setCell, World.size_drew, size_put]); omega))) hb
    have Q' : w1.heap[w.heap.size]? = _ := hb.block (w.heap.size) (by (first | omega | ((try simp only [World.size_alloc, World.size_setCell, World.size_drew, size_put]); omega)))
    simp only [alloc_block_if, put_block_if, over_block_if, set_block_if, setObj_cells, drew_block, drewN_block, Option.map_some, List.setIfInBounds_toArray, List.set_cons_zero, List.set_cons_succ, World.size_alloc, World.size_setCell, size_put, World.size_drew, if_true, if_false, ↓IntWalk.iteOmega] at Q'
    have Q_0 := Q'
    clear Q'
    have Q' : w1.heap[w.heap.size + 1]? = _ := hb.block (w.heap.size + 1) (by (first | omega | ((try simp only [World.size_alloc, World.size_setCell, World.size_drew, size_put]); omega)))
    simp only [alloc_block_if, put_block_if, over_block_if, set_block_if, setObj_cells, drew_block, drewN_block, Option.map_some, List.setIfInBounds_toArray, List.set_cons_zero, List.set_cons_succ, World.size_alloc, World.size_setCell, size_put, World.size_drew, if_true, if_false, ↓IntWalk.iteOmega] at Q'
    have Q_1 := Q'
    clear Q'
    have Q' : w1.heap[w.heap.size + 1 + 1]? = _ := hb.block (w.heap.size + 1 + 1) (by (first | omega | ((try simp only [World.size_alloc, World.size_setCell, World.size_drew, size_put]); omega)))
    simp only [alloc_block_if, put_block_if, over_block_if, set_block_if, setObj_cells, drew_block, drewN_block, Option.map_some, List.setIfInBounds_toArray, List.set_cons_zero, List.set_cons_succ, World.size_alloc, World.size_setCell, size_put, World.size_drew, if_true, if_false, ↓IntWalk.iteOmega] at Q'
    have Q_2 := Q'
    clear Q'
    have L_0 : w.heap.size < w1.heap.size := (by (first | omega | ((try simp only [World.size_alloc, World.size_setCell, World.size_drew, size_put]); omega)))
    have q_1 := cell_of_block Q_1
    have L_2 : w.heap.size + 1 + 1 < w1.heap.size := (by (first | omega | ((try simp only [World.size_alloc, World.size_setCell, World.size_drew, size_put]); omega)))
    clear hb
    rw [← put_self Q_0]
    rw [← put_self Q_2]
    have n1 : ¬ w.heap.size + 1 = w.heap.size := by omega
    have n2 : ¬ w.heap.size + 1 + 1 = w.heap.size := by omega
    have n3 : ¬ w.heap.size = w.heap.size + 1 := by omega
    have n4 : ¬ w.heap.size = w.heap.size + 1 + 1 := by omega
    have n5 : ¬ w1.heap.size = w.heap.size := by omega
    have n6 : ¬ w1.heap.size = w.heap.size + 1 + 1 := by omega
    have n7 : ¬ w.heap.size = w1.heap.size := by omega
    have n8 : ¬ w.heap.size + 1 + 1 = w1.heap.size := by omega
    have n9 : ¬ w1.heap.size + 1 = w.heap.size := by omega
    have n10 : ¬ w1.heap.size + 1 = w.heap.size + 1 + 1 := by omega
    go_wp2_with fail
    refine bodyPost_ret (v := .tuple #[GV.val ⟨g.id, g.lift, g.operator, g.seq, g.key, rv, s, t, rl⟩, .int .i64 0]) (by simp [results, Tryz.results12, go_sem, L_0, L_2, n1, n2, n3, n4, n5, n6, n7, n8, n9, n10]) rfl ?_
    refine ⟨s, by rw [heardV_ok], by go_light; (repeat' (first | (with_reducible exact Below.refl _ _) | (with_reducible exact Nat.le_refl _) | (with_reducible assumption) | (with_reducible refine below_step ?_ ?_ hr) | (with_reducible refine below_over ?_ ?_ _) | (with_reducible refine Below.alloc ?_ ?_ _) | (with_reducible refine Below.setCell ?_ ?_ _) | (with_reducible refine below_put ?_ ?_ _) | (with_reducible refine Below.drew ?_) | (with_reducible refine below_drewN_ ?_ _) | (with_reducible refine le_drewN ?_ _) | (with_reducible refine over_le _ _ _ ?_) | (with_reducible refine le_alloc ?_ _) | (with_reducible refine le_setCell ?_ _ _) | (with_reducible refine le_put ?_ _ _) | (with_reducible refine le_drew ?_) | dsimp only | omega | ((try simp only [World.size_alloc, World.size_setCell, World.size_drew, size_put]); omega) | (simp; done))), ?_⟩
    rw [heardV_ok]
    exact (show Rd _ encI s rl from by go_light; exact (((HS.out.put (o := _) L_2 (fun g' hg' e => by have := (HS.out.block g' hg').1; omega)).put (o := _) (by rw [size_put]; exact L_0) (fun g' hg' e => by have := (HS.out.block g' hg').1; omega)).alloc' _).rd (fun _ => rfl))
  · have heb : (re != 0) = true := by simpa using he
    have hhv : ∀ s, heardV g t ⟨rv, rl, re⟩ s = ⟨0, 0, 0, 0, 0, 0, ⟨none, 0, 0⟩, 0, []⟩ := fun s => by unfold heardV; rw [if_neg he]
    have HHV := Lib.hid hhv
    clear hhv he
    (go_enter Tryz.func12, Tryz.ntmps12; try dsimp only [List.append])
    go_wp2_with fail
    refine (Hc.out _ (by (repeat' (first | (with_reducible exact Below.refl _ _) | (with_reducible exact Nat.le_refl _) | (with_reducible assumption) | (with_reducible refine below_step ?_ ?_ hr) | (with_reducible refine below_over ?_ ?_ _) | (with_reducible refine Below.alloc ?_ ?_ _) | (with_reducible refine Below.setCell ?_ ?_ _) | (with_reducible refine below_put ?_ ?_ _) | (with_reducible refine Below.drew ?_) | (with_reducible refine below_drewN_ ?_ _) | (with_reducible refine le_drewN ?_ _) | (with_reducible refine over_le _ _ _ ?_) | (with_reducible refine le_alloc ?_ _) | (with_reducible refine le_setCell ?_ _ _) | (with_reducible refine le_put ?_ _ _) | (with_reducible refine le_drew ?_) | dsimp only | omega | ((try simp only [World.size_alloc, World.size_setCell, World.size_drew, size_put]); omega) | (simp; done))))).mono ?_
    rintro e w1 ⟨s, rfl, hb, hs⟩
    clear hs
    dsimp only
    have hz := hb.size
    (try simp only [World.size_alloc, World.size_setCell, World.size_drew, size_put] at hz)
    have hB : Below w.heap.size w w1 := below_step (by (repeat' (first | (with_reducible exact Below.refl _ _) | (with_reducible exact Nat.le_refl _) | (with_reducible assumption) | (with_reducible refine below_step ?_ ?_ hr) | (with_reducible refine below_over ?_ ?_ _) | (with_reducible refine Below.alloc ?_ ?_ _) | (with_reducible refine Below.setCell ?_ ?_ _) | (with_reducible refine below_put ?_ ?_ _) | (with_reducible refine Below.drew ?_) | (with_reducible refine below_drewN_ ?_ _) | (with_reducible refine le_drewN ?_ _) | (with_reducible refine over_le _ _ _ ?_) | (with_reducible refine le_alloc ?_ _) | (with_reducible refine le_setCell ?_ _ _) | (with_reducible refine le_put ?_ _ _) | (with_reducible refine le_drew ?_) | dsimp only | omega | ((try simp only [World.size_alloc, World.size_setCell, World.size_drew, size_put]); omega) | (simp; done)))) (by (first | omega | ((try simp only [World.size_alloc, World.size_setCell, World.size_drew, size_put]); omega))) hb
    have Q' : w1.heap[w.heap.size]? = _ := hb.block (w.heap.size) (by (first | omega | ((try simp only [World.size_alloc, World.size_setCell, World.size_drew, size_put]); omega)))
    simp only [alloc_block_if, put_block_if, over_block_if, set_block_if, setObj_cells, drew_block, drewN_block, Option.map_some, List.setIfInBounds_toArray, List.set_cons_zero, List.set_cons_succ, World.size_alloc, World.size_setCell, size_put, World.size_drew, if_true, if_false, ↓IntWalk.iteOmega] at Q'
    have Q_0 := Q'
    clear Q'
    have Q' : w1.heap[w.heap.size + 1]? = _ := hb.block (w.heap.size + 1) (by (first | omega | ((try simp only [World.size_alloc, World.size_setCell, World.size_drew, size_put]); omega)))
    simp only [alloc_block_if, put_block_if, over_block_if, set_block_if, setObj_cells, drew_block, drewN_block, Option.map_some, List.setIfInBounds_toArray, List.set_cons_zero, List.set_cons_succ, World.size_alloc, World.size_setCell, size_put, World.size_drew, if_true, if_false, ↓IntWalk.iteOmega] at Q'
    have Q_1 := Q'
    clear Q'
    have Q' : w1.heap[w.heap.size + 1 + 1]? = _ := hb.block (w.heap.size + 1 + 1) (by (first | omega | ((try simp only [World.size_alloc, World.size_setCell, World.size_drew, size_put]); omega)))
    simp only [alloc_block_if, put_block_if, over_block_if, set_block_if, setObj_cells, drew_block, drewN_block, Option.map_some, List.setIfInBounds_toArray, List.set_cons_zero, List.set_cons_succ, World.size_alloc, World.size_setCell, size_put, World.size_drew, if_true, if_false, ↓IntWalk.iteOmega] at Q'
    have Q_2 := Q'
    clear Q'
    have q_0 := cell_of_block Q_0
    have q_1 := cell_of_block Q_1
    have L_2 : w.heap.size + 1 + 1 < w1.heap.size := (by (first | omega | ((try simp only [World.size_alloc, World.size_setCell, World.size_drew, size_put]); omega)))
    clear hb
    rw [← put_self Q_2]
    have n1 : ¬ w.heap.size + 1 = w.heap.size := by omega
    have n2 : ¬ w.heap.size + 1 + 1 = w.heap.size := by omega
    have n6 : ¬ w1.heap.size = w.heap.size + 1 + 1 := by omega
    have n8 : ¬ w.heap.size + 1 + 1 = w1.heap.size := by omega
    go_wp2_with fail
    refine bodyPost_ret (v := .tuple #[zeroGV.val, .int .i64 re]) (by simp [results, Tryz.results12, go_sem, L_2, n1, n2, n6, n8]) rfl ?_
    refine ⟨⟨none, 0, 0⟩, ?_, by go_light; (repeat' (first | (with_reducible exact Below.refl _ _) | (with_reducible exact Nat.le_refl _) | (with_reducible assumption) | (with_reducible refine below_step ?_ ?_ hr) | (with_reducible refine below_over ?_ ?_ _) | (with_reducible refine Below.alloc ?_ ?_ _) | (with_reducible refine Below.setCell ?_ ?_ _) | (with_reducible refine below_put ?_ ?_ _) | (with_reducible refine Below.drew ?_) | (with_reducible refine below_drewN_ ?_ _) | (with_reducible refine le_drewN ?_ _) | (with_reducible refine over_le _ _ _ ?_) | (with_reducible refine le_alloc ?_ _) | (with_reducible refine le_setCell ?_ _ _) | (with_reducible refine le_put ?_ _ _) | (with_reducible refine le_drew ?_) | dsimp only | omega | ((try simp only [World.size_alloc, World.size_setCell, World.size_drew, size_put]); omega) | (simp; done))), ?_⟩
    · rw [HHV.out]
    · rw [HHV.out]; exact Rd.nil_ _ _

theorem gate_Hear (g : GV) (d : DV) (t : Int) (w : World) (hg : g.at_ w) (hd : d.at_ w) (hn : g.sl.n ≤ 400) (hn1 : d.sa.n ≤ 400) (hn2 : d.sd.n ≤ 400) (hw : WfI g.list) (hw1 : WfI d.add) (hw2 : WfI d.drop) : Calls Tryz.prog 12 #[g.val, d.val, .int .i64 t] w (HearPost g t (hearF g d t) w) := by
  unfold hearF
  by_cases h0 : t < g.heard
  · rw [if_pos (.inl h0)]; exact gate_Hear_order0 g d t w h0
  by_cases h : 20000000 < t
  · rw [if_pos (.inr h)]; exact gate_Hear_order1 g d t w h0 h
  rw [if_neg (by omega)]
  exact gate_Hear_rest g d t w hg hd hn hn1 hn2 hw hw1 hw2 h0 h
end Go.Proofs.YtfajjgkhanjcfaaGreat
