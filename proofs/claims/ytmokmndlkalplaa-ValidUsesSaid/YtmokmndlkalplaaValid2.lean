/- Passes: Until and Rest. -/
import Derived.Test.YtmokmndlkalplaaValid
namespace Go.Proofs.Ytmokmndlkalplaa
set_option linter.unusedSimpArgs false
set_option linter.unusedVariables false
open Go.RowKit
def untilF (p : PD) (m : MV) : Int :=
  if p.kind = 0 then (if m.first = -1 then p.st else min p.st (m.first + p.units))
  else if p.kind = 1 then (if m.left = 0 then min p.st ((m.today + 1) * 86400) else p.st)
  else if p.kind = 2 then (if m.left = 0 then 0 else p.st) else p.st
def restF (p : PD) (m : MV) (t : Int) : Int :=
  if ¬ p.kind = 0 then m.left else if m.first = -1 then p.units else max 0 (m.first + p.units - max 0 t)
set_option maxRecDepth 100000 in
set_option maxHeartbeats 1600000 in
theorem valid_Until (p : PD) (m : MV) (w : World) (hd : Def p m) : Calls Try.prog 16 #[p.val, m.val] w (Gives (.int .i64 (untilF p m)) w) := by
  have h1 := hd.units0; have h2 := hd.units; have h3 := hd.first0; have h4 := hd.first; have h5 := hd.today0; have h6 := hd.today
  clear hd
  (go_enter Try.func16, Try.ntmps16; try dsimp only [List.append])
  go_wp2
  all_goals (go_ret; refine gives_of (ret_int ?_) (by go_light; (repeat' (first | (with_reducible exact Below.refl _ _) | (with_reducible exact Nat.le_refl _) | (with_reducible assumption) | (with_reducible refine below_step ?_ ?_ hr) | (with_reducible refine below_over ?_ ?_ _) | (with_reducible refine Below.alloc ?_ ?_ _) | (with_reducible refine Below.setCell ?_ ?_ _) | (with_reducible refine below_put ?_ ?_ _) | (with_reducible refine Below.drew ?_) | (with_reducible refine below_drewN_ ?_ _) | (with_reducible refine le_drewN ?_ _) | (with_reducible refine over_le _ _ _ ?_) | (with_reducible refine le_alloc ?_ _) | (with_reducible refine le_setCell ?_ _ _) | (with_reducible refine le_put ?_ _ _) | (with_reducible refine le_drew ?_) | dsimp only | omega | ((try simp only [World.size_alloc, World.size_setCell, World.size_drew, size_put]); omega) | (simp; done)))); go_light; (try simp only [beq_iff_eq, beq_eq_false_iff_ne, bne_iff_ne, bne_eq_false_iff_eq, ne_eq, Bool.not_eq_true', Bool.not_eq_false'] at *); ((try simp only [untilF, restF]); (repeat' split)) <;> first | rfl | omega | (simp_all; done) | (simp_all; omega))
set_option maxRecDepth 100000 in
set_option maxHeartbeats 1600000 in
theorem ref26_Until (p : PD) (m : MV) (w : World) (hd : Def p m) : Calls Try.prog 17 #[p.val, m.val] w (Gives (.int .i64 (untilF p m)) w) := by
  have h1 := hd.units0; have h2 := hd.units; have h3 := hd.first0; have h4 := hd.first; have h5 := hd.today0; have h6 := hd.today
  clear hd
  (go_enter Try.func17, Try.ntmps17; try dsimp only [List.append])
  go_wp2
  all_goals (go_ret; refine gives_of (ret_int ?_) (by go_light; (repeat' (first | (with_reducible exact Below.refl _ _) | (with_reducible exact Nat.le_refl _) | (with_reducible assumption) | (with_reducible refine below_step ?_ ?_ hr) | (with_reducible refine below_over ?_ ?_ _) | (with_reducible refine Below.alloc ?_ ?_ _) | (with_reducible refine Below.setCell ?_ ?_ _) | (with_reducible refine below_put ?_ ?_ _) | (with_reducible refine Below.drew ?_) | (with_reducible refine below_drewN_ ?_ _) | (with_reducible refine le_drewN ?_ _) | (with_reducible refine over_le _ _ _ ?_) | (with_reducible refine le_alloc ?_ _) | (with_reducible refine le_setCell ?_ _ _) | (with_reducible refine le_put ?_ _ _) | (with_reducible refine le_drew ?_) | dsimp only | omega | ((try simp only [World.size_alloc, World.size_setCell, World.size_drew, size_put]); omega) | (simp; done)))); go_light; (try simp only [beq_iff_eq, beq_eq_false_iff_ne, bne_iff_ne, bne_eq_false_iff_eq, ne_eq, Bool.not_eq_true', Bool.not_eq_false'] at *); ((try simp only [untilF, restF]); (repeat' split)) <;> first | rfl | omega | (simp_all; done) | (simp_all; omega))
set_option maxRecDepth 100000 in
set_option maxHeartbeats 1600000 in
theorem valid_Rest (p : PD) (m : MV) (t : Int) (w : World) (hd : Def p m) (ht0 : -9223372036854775808 ≤ t) (ht1 : t ≤ 9223372036854775807) : Calls Try.prog 18 #[p.val, m.val, .int .i64 t] w (Gives (.int .i64 (restF p m t)) w) := by
  have h1 := hd.units0; have h2 := hd.units; have h3 := hd.first0; have h4 := hd.first
  clear hd
  (go_enter Try.func18, Try.ntmps18; try dsimp only [List.append])
  go_wp2
  all_goals (go_ret; refine gives_of (ret_int ?_) (by go_light; (repeat' (first | (with_reducible exact Below.refl _ _) | (with_reducible exact Nat.le_refl _) | (with_reducible assumption) | (with_reducible refine below_step ?_ ?_ hr) | (with_reducible refine below_over ?_ ?_ _) | (with_reducible refine Below.alloc ?_ ?_ _) | (with_reducible refine Below.setCell ?_ ?_ _) | (with_reducible refine below_put ?_ ?_ _) | (with_reducible refine Below.drew ?_) | (with_reducible refine below_drewN_ ?_ _) | (with_reducible refine le_drewN ?_ _) | (with_reducible refine over_le _ _ _ ?_) | (with_reducible refine le_alloc ?_ _) | (with_reducible refine le_setCell ?_ _ _) | (with_reducible refine le_put ?_ _ _) | (with_reducible refine le_drew ?_) | dsimp only | omega | ((try simp only [World.size_alloc, World.size_setCell, World.size_drew, size_put]); omega) | (simp; done)))); go_light; (try simp only [beq_iff_eq, beq_eq_false_iff_ne, bne_iff_ne, bne_eq_false_iff_eq, ne_eq, Bool.not_eq_true', Bool.not_eq_false'] at *); ((try simp only [untilF, restF]); (repeat' split)) <;> first | rfl | omega | (simp_all; done) | (simp_all; omega))
set_option maxRecDepth 100000 in
set_option maxHeartbeats 1600000 in
theorem ref26_Rest (p : PD) (m : MV) (t : Int) (w : World) (hd : Def p m) (ht0 : -9223372036854775808 ≤ t) (ht1 : t ≤ 9223372036854775807) : Calls Try.prog 19 #[p.val, m.val, .int .i64 t] w (Gives (.int .i64 (restF p m t)) w) := by
  have h1 := hd.units0; have h2 := hd.units; have h3 := hd.first0; have h4 := hd.first
  clear hd
  (go_enter Try.func19, Try.ntmps19; try dsimp only [List.append])
  go_wp2
  all_goals (go_ret; refine gives_of (ret_int ?_) (by go_light; (repeat' (first | (with_reducible exact Below.refl _ _) | (with_reducible exact Nat.le_refl _) | (with_reducible assumption) | (with_reducible refine below_step ?_ ?_ hr) | (with_reducible refine below_over ?_ ?_ _) | (with_reducible refine Below.alloc ?_ ?_ _) | (with_reducible refine Below.setCell ?_ ?_ _) | (with_reducible refine below_put ?_ ?_ _) | (with_reducible refine Below.drew ?_) | (with_reducible refine below_drewN_ ?_ _) | (with_reducible refine le_drewN ?_ _) | (with_reducible refine over_le _ _ _ ?_) | (with_reducible refine le_alloc ?_ _) | (with_reducible refine le_setCell ?_ _ _) | (with_reducible refine le_put ?_ _ _) | (with_reducible refine le_drew ?_) | dsimp only | omega | ((try simp only [World.size_alloc, World.size_setCell, World.size_drew, size_put]); omega) | (simp; done)))); go_light; (try simp only [beq_iff_eq, beq_eq_false_iff_ne, bne_iff_ne, bne_eq_false_iff_eq, ne_eq, Bool.not_eq_true', Bool.not_eq_false'] at *); ((try simp only [untilF, restF]); (repeat' split)) <;> first | rfl | omega | (simp_all; done) | (simp_all; omega))
end Go.Proofs.Ytmokmndlkalplaa
