/- Passes: Why, Use, Until, Rest of the program and of the reference, as plain functions, for products and media that the functions are defined for. -/
import Derived.Test.YtfajjgkhanjcfaaGreatMedia
namespace Go.Proofs.YtfajjgkhanjcfaaGreat
set_option linter.unusedSimpArgs false
set_option linter.unusedVariables false
open Go.RowKit

/-- What 'defined' gives. -/
structure Def (p : PD) (m : MV) : Prop where
  units0 : 1 ≤ p.units
  units : p.units ≤ 604800
  few : p.kind ≠ 0 → p.units ≤ 100
  kind : p.kind = 0 ∨ p.kind = 1 ∨ p.kind = 2
  sf0 : 0 ≤ p.sf
  sft : p.sf < p.st
  st : p.st ≤ 20000000
  first0 : -1 ≤ m.first
  first : m.first ≤ 20000000
  at0 : -1 ≤ m.at_
  at1 : m.at_ ≤ 20000000
  left0 : 0 ≤ m.left
  left : m.left ≤ 100
  today0 : -1 ≤ m.today
  today : m.today ≤ 231
  count0 : 0 ≤ m.counter
  count : m.counter ≤ 1000000

def usedF (p : PD) (m : MV) (t : Int) : Bool :=
  if p.kind = 0 then !(m.first == -1) && decide (m.first + p.units ≤ t)
  else if p.kind = 1 then (m.left == 0) && !(dayF t == m.today)
  else m.left == 0
def whyF (p : PD) (m : MV) (op lift t : Int) : Int :=
  if t < p.sf ∨ p.st ≤ t then 4
  else if hasF p.ops op = false then 5
  else if openF p t = false then 6
  else if usedF p m t = true then 7
  else if t < m.at_ ∨ (lift = m.lift ∧ t < m.at_ + 300) then 8
  else 0

set_option maxRecDepth 100000 in
set_option maxHeartbeats 800000 in
theorem valid_used (p : PD) (m : MV) (t : Int) (w : World) (hd : Def p m) : Calls Tryz.prog 55 #[p.val, m.val, .int .i64 t] w (Gives (.bool (usedF p m t)) w) := by
  have h1 := hd.units0; have h2 := hd.units; have h3 := hd.first0; have h4 := hd.first
  clear hd
  obtain ⟨pid, kind, units, least, most, so, sh, sf, st, price, xs, hours⟩ := p
  obtain ⟨serial, counter, product, first, left, today, lift, at_, tag⟩ := m
  simp only [PD.val, MV.val]
  dsimp only at h1 h2 h3 h4
  by_cases k0 : kind = 0
  · subst k0
    (go_enter Tryz.func55, Tryz.ntmps55; try dsimp only [List.append])
    go_wp2
    all_goals (go_ret; refine gives_of (ret_bool ?_) (by go_light; (repeat' (first | (with_reducible exact Below.refl _ _) | (with_reducible exact Nat.le_refl _) | (with_reducible assumption) | (with_reducible refine below_step ?_ ?_ hr) | (with_reducible refine below_over ?_ ?_ _) | (with_reducible refine Below.alloc ?_ ?_ _) | (with_reducible refine Below.setCell ?_ ?_ _) | (with_reducible refine below_put ?_ ?_ _) | (with_reducible refine Below.drew ?_) | (with_reducible refine below_drewN_ ?_ _) | (with_reducible refine le_drewN ?_ _) | (with_reducible refine over_le _ _ _ ?_) | (with_reducible refine le_alloc ?_ _) | (with_reducible refine le_setCell ?_ _ _) | (with_reducible refine le_put ?_ _ _) | (with_reducible refine le_drew ?_) | dsimp only | omega | ((try simp only [World.size_alloc, World.size_setCell, World.size_drew, size_put]); omega) | (simp; done)))); go_light; simp_all [usedF])
  · have k0' : (kind == 0) = false := by simp [k0]
    have K0 := Lib.hid k0
    clear k0
    by_cases k1 : kind = 1
    · subst k1
      by_cases l0 : left = 0
      · subst l0
        (go_enter Tryz.func55, Tryz.ntmps55; try dsimp only [List.append])
        go_wp2
        all_goals refine wp_region_over (by kernel_rfl) (by kernel_rfl) ?_
        repeat (any_goals (first | go_big_quiet_step ((first | (go_at_call 36; exact quiet_same (clock_Day _ _)))) | (refine wpQuiet_step (fun K hK => ?_); go_simp; split <;> (refine hK _ ?_; clear hK K)) | quiet_step ((first | (go_at_call 36; exact quiet_same (clock_Day _ _))))))
        all_goals (refine wpQuiet_nil ?_; intro _ hw'; obtain ⟨xq, hw''⟩ := hw'; have hz := size_of hw''; (try simp only [World.size_alloc, World.size_setCell, World.size_drew] at hz); subst hw'')
        go_wp2
        all_goals (go_ret; refine gives_of (ret_bool ?_) (by go_light; (repeat' (first | (with_reducible exact Below.refl _ _) | (with_reducible exact Nat.le_refl _) | (with_reducible assumption) | (with_reducible refine below_step ?_ ?_ hr) | (with_reducible refine below_over ?_ ?_ _) | (with_reducible refine Below.alloc ?_ ?_ _) | (with_reducible refine Below.setCell ?_ ?_ _) | (with_reducible refine below_put ?_ ?_ _) | (with_reducible refine Below.drew ?_) | (with_reducible refine below_drewN_ ?_ _) | (with_reducible refine le_drewN ?_ _) | (with_reducible refine over_le _ _ _ ?_) | (with_reducible refine le_alloc ?_ _) | (with_reducible refine le_setCell ?_ _ _) | (with_reducible refine le_put ?_ _ _) | (with_reducible refine le_drew ?_) | dsimp only | omega | ((try simp only [World.size_alloc, World.size_setCell, World.size_drew, size_put]); omega) | (simp; done)))); go_light; simp [usedF]; try rfl)
      · have l0' : (left == 0) = false := by simp [l0]
        have L0 := Lib.hid l0
        clear l0
        (go_enter Tryz.func55, Tryz.ntmps55; try dsimp only [List.append])
        go_wp2
        all_goals refine wp_region_over (by kernel_rfl) (by kernel_rfl) ?_
        repeat (any_goals (first | go_big_quiet_step ((first | (go_at_call 36; exact quiet_same (clock_Day _ _)))) | (refine wpQuiet_step (fun K hK => ?_); go_simp; split <;> (refine hK _ ?_; clear hK K)) | quiet_step ((first | (go_at_call 36; exact quiet_same (clock_Day _ _))))))
        all_goals (refine wpQuiet_nil ?_; intro _ hw'; obtain ⟨xq, hw''⟩ := hw'; have hz := size_of hw''; (try simp only [World.size_alloc, World.size_setCell, World.size_drew] at hz); subst hw'')
        go_wp2
        all_goals (go_ret; refine gives_of (ret_bool ?_) (by go_light; (repeat' (first | (with_reducible exact Below.refl _ _) | (with_reducible exact Nat.le_refl _) | (with_reducible assumption) | (with_reducible refine below_step ?_ ?_ hr) | (with_reducible refine below_over ?_ ?_ _) | (with_reducible refine Below.alloc ?_ ?_ _) | (with_reducible refine Below.setCell ?_ ?_ _) | (with_reducible refine below_put ?_ ?_ _) | (with_reducible refine Below.drew ?_) | (with_reducible refine below_drewN_ ?_ _) | (with_reducible refine le_drewN ?_ _) | (with_reducible refine over_le _ _ _ ?_) | (with_reducible refine le_alloc ?_ _) | (with_reducible refine le_setCell ?_ _ _) | (with_reducible refine le_put ?_ _ _) | (with_reducible refine le_drew ?_) | dsimp only | omega | ((try simp only [World.size_alloc, World.size_setCell, World.size_drew, size_put]); omega) | (simp; done)))); go_light; simp [usedF, L0.out])
    · have k1' : (kind == 1) = false := by simp [k1]
      have K1 := Lib.hid k1
      clear k1
      (go_enter Tryz.func55, Tryz.ntmps55; try dsimp only [List.append])
      go_wp2
      go_ret
      exact gives_of (ret_bool (by simp [usedF, K0.out, K1.out])) (by go_light; (repeat' (first | (with_reducible exact Below.refl _ _) | (with_reducible exact Nat.le_refl _) | (with_reducible assumption) | (with_reducible refine below_step ?_ ?_ hr) | (with_reducible refine below_over ?_ ?_ _) | (with_reducible refine Below.alloc ?_ ?_ _) | (with_reducible refine Below.setCell ?_ ?_ _) | (with_reducible refine below_put ?_ ?_ _) | (with_reducible refine Below.drew ?_) | (with_reducible refine below_drewN_ ?_ _) | (with_reducible refine le_drewN ?_ _) | (with_reducible refine over_le _ _ _ ?_) | (with_reducible refine le_alloc ?_ _) | (with_reducible refine le_setCell ?_ _ _) | (with_reducible refine le_put ?_ _ _) | (with_reducible refine le_drew ?_) | dsimp only | omega | ((try simp only [World.size_alloc, World.size_setCell, World.size_drew, size_put]); omega) | (simp; done))))
set_option maxRecDepth 100000 in
set_option maxHeartbeats 800000 in
theorem ref26_used (p : PD) (m : MV) (t : Int) (w : World) (hd : Def p m) : Calls Tryz.prog 66 #[p.val, m.val, .int .i64 t] w (Gives (.bool (usedF p m t)) w) := by
  have h1 := hd.units0; have h2 := hd.units; have h3 := hd.first0; have h4 := hd.first
  clear hd
  obtain ⟨pid, kind, units, least, most, so, sh, sf, st, price, xs, hours⟩ := p
  obtain ⟨serial, counter, product, first, left, today, lift, at_, tag⟩ := m
  simp only [PD.val, MV.val]
  dsimp only at h1 h2 h3 h4
  by_cases k0 : kind = 0
  · subst k0
    (go_enter Tryz.func66, Tryz.ntmps66; try dsimp only [List.append])
    go_wp2
    all_goals (go_ret; refine gives_of (ret_bool ?_) (by go_light; (repeat' (first | (with_reducible exact Below.refl _ _) | (with_reducible exact Nat.le_refl _) | (with_reducible assumption) | (with_reducible refine below_step ?_ ?_ hr) | (with_reducible refine below_over ?_ ?_ _) | (with_reducible refine Below.alloc ?_ ?_ _) | (with_reducible refine Below.setCell ?_ ?_ _) | (with_reducible refine below_put ?_ ?_ _) | (with_reducible refine Below.drew ?_) | (with_reducible refine below_drewN_ ?_ _) | (with_reducible refine le_drewN ?_ _) | (with_reducible refine over_le _ _ _ ?_) | (with_reducible refine le_alloc ?_ _) | (with_reducible refine le_setCell ?_ _ _) | (with_reducible refine le_put ?_ _ _) | (with_reducible refine le_drew ?_) | dsimp only | omega | ((try simp only [World.size_alloc, World.size_setCell, World.size_drew, size_put]); omega) | (simp; done)))); go_light; simp_all [usedF])
  · have k0' : (kind == 0) = false := by simp [k0]
    have K0 := Lib.hid k0
    clear k0
    by_cases k1 : kind = 1
    · subst k1
      by_cases l0 : left = 0
      · subst l0
        (go_enter Tryz.func66, Tryz.ntmps66; try dsimp only [List.append])
        go_wp2
        all_goals refine wp_region_over (by kernel_rfl) (by kernel_rfl) ?_
        repeat (any_goals (first | go_big_quiet_step ((first | (go_at_call 44; exact quiet_same (ref02_Day _ _)))) | (refine wpQuiet_step (fun K hK => ?_); go_simp; split <;> (refine hK _ ?_; clear hK K)) | quiet_step ((first | (go_at_call 44; exact quiet_same (ref02_Day _ _))))))
        all_goals (refine wpQuiet_nil ?_; intro _ hw'; obtain ⟨xq, hw''⟩ := hw'; have hz := size_of hw''; (try simp only [World.size_alloc, World.size_setCell, World.size_drew] at hz); subst hw'')
        go_wp2
        all_goals (go_ret; refine gives_of (ret_bool ?_) (by go_light; (repeat' (first | (with_reducible exact Below.refl _ _) | (with_reducible exact Nat.le_refl _) | (with_reducible assumption) | (with_reducible refine below_step ?_ ?_ hr) | (with_reducible refine below_over ?_ ?_ _) | (with_reducible refine Below.alloc ?_ ?_ _) | (with_reducible refine Below.setCell ?_ ?_ _) | (with_reducible refine below_put ?_ ?_ _) | (with_reducible refine Below.drew ?_) | (with_reducible refine below_drewN_ ?_ _) | (with_reducible refine le_drewN ?_ _) | (with_reducible refine over_le _ _ _ ?_) | (with_reducible refine le_alloc ?_ _) | (with_reducible refine le_setCell ?_ _ _) | (with_reducible refine le_put ?_ _ _) | (with_reducible refine le_drew ?_) | dsimp only | omega | ((try simp only [World.size_alloc, World.size_setCell, World.size_drew, size_put]); omega) | (simp; done)))); go_light; simp [usedF]; try rfl)
      · have l0' : (left == 0) = false := by simp [l0]
        have L0 := Lib.hid l0
        clear l0
        (go_enter Tryz.func66, Tryz.ntmps66; try dsimp only [List.append])
        go_wp2
        all_goals refine wp_region_over (by kernel_rfl) (by kernel_rfl) ?_
        repeat (any_goals (first | go_big_quiet_step ((first | (go_at_call 44; exact quiet_same (ref02_Day _ _)))) | (refine wpQuiet_step (fun K hK => ?_); go_simp; split <;> (refine hK _ ?_; clear hK K)) | quiet_step ((first | (go_at_call 44; exact quiet_same (ref02_Day _ _))))))
        all_goals (refine wpQuiet_nil ?_; intro _ hw'; obtain ⟨xq, hw''⟩ := hw'; have hz := size_of hw''; (try simp only [World.size_alloc, World.size_setCell, World.size_drew] at hz); subst hw'')
        go_wp2
        all_goals (go_ret; refine gives_of (ret_bool ?_) (by go_light; (repeat' (first | (with_reducible exact Below.refl _ _) | (with_reducible exact Nat.le_refl _) | (with_reducible assumption) | (with_reducible refine below_step ?_ ?_ hr) | (with_reducible refine below_over ?_ ?_ _) | (with_reducible refine Below.alloc ?_ ?_ _) | (with_reducible refine Below.setCell ?_ ?_ _) | (with_reducible refine below_put ?_ ?_ _) | (with_reducible refine Below.drew ?_) | (with_reducible refine below_drewN_ ?_ _) | (with_reducible refine le_drewN ?_ _) | (with_reducible refine over_le _ _ _ ?_) | (with_reducible refine le_alloc ?_ _) | (with_reducible refine le_setCell ?_ _ _) | (with_reducible refine le_put ?_ _ _) | (with_reducible refine le_drew ?_) | dsimp only | omega | ((try simp only [World.size_alloc, World.size_setCell, World.size_drew, size_put]); omega) | (simp; done)))); go_light; simp [usedF, L0.out])
    · have k1' : (kind == 1) = false := by simp [k1]
      have K1 := Lib.hid k1
      clear k1
      (go_enter Tryz.func66, Tryz.ntmps66; try dsimp only [List.append])
      go_wp2
      go_ret
      exact gives_of (ret_bool (by simp [usedF, K0.out, K1.out])) (by go_light; (repeat' (first | (with_reducible exact Below.refl _ _) | (with_reducible exact Nat.le_refl _) | (with_reducible assumption) | (with_reducible refine below_step ?_ ?_ hr) | (with_reducible refine below_over ?_ ?_ _) | (with_reducible refine Below.alloc ?_ ?_ _) | (with_reducible refine Below.setCell ?_ ?_ _) | (with_reducible refine below_put ?_ ?_ _) | (with_reducible refine Below.drew ?_) | (with_reducible refine below_drewN_ ?_ _) | (with_reducible refine le_drewN ?_ _) | (with_reducible refine over_le _ _ _ ?_) | (with_reducible refine le_alloc ?_ _) | (with_reducible refine le_setCell ?_ _ _) | (with_reducible refine le_put ?_ _ _) | (with_reducible refine le_drew ?_) | dsimp only | omega | ((try simp only [World.size_alloc, World.size_setCell, World.size_drew, size_put]); omega) | (simp; done))))
set_option maxRecDepth 100000 in
set_option maxHeartbeats 1600000 in
theorem valid_Why (p : PD) (m : MV) (op lift t : Int) (w : World) (hp : p.at_ w) (hd : Def p m) : Calls Tryz.prog 32 #[p.val, m.val, .int .i64 op, .int .i64 lift, .int .i64 t] w (Gives (.int .i64 (whyF p m op lift t)) w) := by
  have h1 := hd.at0; have h2 := hd.at1
  have Hd := Lib.hid hd
  have Hp := Lib.hid hp
  clear hd hp
  (go_enter Tryz.func32, Tryz.ntmps32; try dsimp only [List.append])
  go_wp2_with (first | (go_at_call 53; refine (product_Area p op _ (Hp.out.toW (by (repeat' (first | (with_reducible exact Below.refl _ _) | (with_reducible exact Nat.le_refl _) | (with_reducible assumption) | (with_reducible refine below_step ?_ ?_ hr) | (with_reducible refine below_over ?_ ?_ _) | (with_reducible refine Below.alloc ?_ ?_ _) | (with_reducible refine Below.setCell ?_ ?_ _) | (with_reducible refine below_put ?_ ?_ _) | (with_reducible refine Below.drew ?_) | (with_reducible refine below_drewN_ ?_ _) | (with_reducible refine le_drewN ?_ _) | (with_reducible refine over_le _ _ _ ?_) | (with_reducible refine le_alloc ?_ _) | (with_reducible refine le_setCell ?_ _ _) | (with_reducible refine le_put ?_ _ _) | (with_reducible refine le_drew ?_) | dsimp only | omega | ((try simp only [World.size_alloc, World.size_setCell, World.size_drew, size_put]); omega) | (simp; done)))))).mono ?_; rintro e w' ⟨rfl, x, hw⟩; have hz := size_of hw; (try simp only [World.size_alloc, World.size_setCell, World.size_drew] at hz); subst hw) | (go_at_call 54; refine (product_Open p t _ (Hp.out.toW (by (repeat' (first | (with_reducible exact Below.refl _ _) | (with_reducible exact Nat.le_refl _) | (with_reducible assumption) | (with_reducible refine below_step ?_ ?_ hr) | (with_reducible refine below_over ?_ ?_ _) | (with_reducible refine Below.alloc ?_ ?_ _) | (with_reducible refine Below.setCell ?_ ?_ _) | (with_reducible refine below_put ?_ ?_ _) | (with_reducible refine Below.drew ?_) | (with_reducible refine below_drewN_ ?_ _) | (with_reducible refine le_drewN ?_ _) | (with_reducible refine over_le _ _ _ ?_) | (with_reducible refine le_alloc ?_ _) | (with_reducible refine le_setCell ?_ _ _) | (with_reducible refine le_put ?_ _ _) | (with_reducible refine le_drew ?_) | dsimp only | omega | ((try simp only [World.size_alloc, World.size_setCell, World.size_drew, size_put]); omega) | (simp; done)))))).mono ?_; rintro e w' ⟨rfl, x, hw⟩; have hz := size_of hw; (try simp only [World.size_alloc, World.size_setCell, World.size_drew] at hz); subst hw) | (go_at_call 55; refine (valid_used p m t _ Hd.out).mono ?_; rintro e w' ⟨rfl, x, hw⟩; have hz := size_of hw; (try simp only [World.size_alloc, World.size_setCell, World.size_drew] at hz); subst hw))
  all_goals (go_ret; refine gives_of (ret_int ?_) (by go_light; (repeat' (first | (with_reducible exact Below.refl _ _) | (with_reducible exact Nat.le_refl _) | (with_reducible assumption) | (with_reducible refine below_step ?_ ?_ hr) | (with_reducible refine below_over ?_ ?_ _) | (with_reducible refine Below.alloc ?_ ?_ _) | (with_reducible refine Below.setCell ?_ ?_ _) | (with_reducible refine below_put ?_ ?_ _) | (with_reducible refine Below.drew ?_) | (with_reducible refine below_drewN_ ?_ _) | (with_reducible refine le_drewN ?_ _) | (with_reducible refine over_le _ _ _ ?_) | (with_reducible refine le_alloc ?_ _) | (with_reducible refine le_setCell ?_ _ _) | (with_reducible refine le_put ?_ _ _) | (with_reducible refine le_drew ?_) | dsimp only | omega | ((try simp only [World.size_alloc, World.size_setCell, World.size_drew, size_put]); omega) | (simp; done)))); go_light; clear Hd Hp; ((try simp only [whyF]); (repeat' split)) <;> first | rfl | omega | (simp_all; done) | (simp_all; omega))
set_option maxRecDepth 100000 in
set_option maxHeartbeats 1600000 in
theorem ref26_Why (p : PD) (m : MV) (op lift t : Int) (w : World) (hp : p.at_ w) (hd : Def p m) : Calls Tryz.prog 42 #[p.val, m.val, .int .i64 op, .int .i64 lift, .int .i64 t] w (Gives (.int .i64 (whyF p m op lift t)) w) := by
  have h1 := hd.at0; have h2 := hd.at1
  have Hd := Lib.hid hd
  have Hp := Lib.hid hp
  clear hd hp
  (go_enter Tryz.func42, Tryz.ntmps42; try dsimp only [List.append])
  go_wp2_with (first | (go_at_call 64; refine (ref22_Area p op _ (Hp.out.toW (by (repeat' (first | (with_reducible exact Below.refl _ _) | (with_reducible exact Nat.le_refl _) | (with_reducible assumption) | (with_reducible refine below_step ?_ ?_ hr) | (with_reducible refine below_over ?_ ?_ _) | (with_reducible refine Below.alloc ?_ ?_ _) | (with_reducible refine Below.setCell ?_ ?_ _) | (with_reducible refine below_put ?_ ?_ _) | (with_reducible refine Below.drew ?_) | (with_reducible refine below_drewN_ ?_ _) | (with_reducible refine le_drewN ?_ _) | (with_reducible refine over_le _ _ _ ?_) | (with_reducible refine le_alloc ?_ _) | (with_reducible refine le_setCell ?_ _ _) | (with_reducible refine le_put ?_ _ _) | (with_reducible refine le_drew ?_) | dsimp only | omega | ((try simp only [World.size_alloc, World.size_setCell, World.size_drew, size_put]); omega) | (simp; done)))))).mono ?_; rintro e w' ⟨rfl, x, hw⟩; have hz := size_of hw; (try simp only [World.size_alloc, World.size_setCell, World.size_drew] at hz); subst hw) | (go_at_call 65; refine (ref22_Open p t _ (Hp.out.toW (by (repeat' (first | (with_reducible exact Below.refl _ _) | (with_reducible exact Nat.le_refl _) | (with_reducible assumption) | (with_reducible refine below_step ?_ ?_ hr) | (with_reducible refine below_over ?_ ?_ _) | (with_reducible refine Below.alloc ?_ ?_ _) | (with_reducible refine Below.setCell ?_ ?_ _) | (with_reducible refine below_put ?_ ?_ _) | (with_reducible refine Below.drew ?_) | (with_reducible refine below_drewN_ ?_ _) | (with_reducible refine le_drewN ?_ _) | (with_reducible refine over_le _ _ _ ?_) | (with_reducible refine le_alloc ?_ _) | (with_reducible refine le_setCell ?_ _ _) | (with_reducible refine le_put ?_ _ _) | (with_reducible refine le_drew ?_) | dsimp only | omega | ((try simp only [World.size_alloc, World.size_setCell, World.size_drew, size_put]); omega) | (simp; done)))))).mono ?_; rintro e w' ⟨rfl, x, hw⟩; have hz := size_of hw; (try simp only [World.size_alloc, World.size_setCell, World.size_drew] at hz); subst hw) | (go_at_call 66; refine (ref26_used p m t _ Hd.out).mono ?_; rintro e w' ⟨rfl, x, hw⟩; have hz := size_of hw; (try simp only [World.size_alloc, World.size_setCell, World.size_drew] at hz); subst hw))
  all_goals (go_ret; refine gives_of (ret_int ?_) (by go_light; (repeat' (first | (with_reducible exact Below.refl _ _) | (with_reducible exact Nat.le_refl _) | (with_reducible assumption) | (with_reducible refine below_step ?_ ?_ hr) | (with_reducible refine below_over ?_ ?_ _) | (with_reducible refine Below.alloc ?_ ?_ _) | (with_reducible refine Below.setCell ?_ ?_ _) | (with_reducible refine below_put ?_ ?_ _) | (with_reducible refine Below.drew ?_) | (with_reducible refine below_drewN_ ?_ _) | (with_reducible refine le_drewN ?_ _) | (with_reducible refine over_le _ _ _ ?_) | (with_reducible refine le_alloc ?_ _) | (with_reducible refine le_setCell ?_ _ _) | (with_reducible refine le_put ?_ _ _) | (with_reducible refine le_drew ?_) | dsimp only | omega | ((try simp only [World.size_alloc, World.size_setCell, World.size_drew, size_put]); omega) | (simp; done)))); go_light; clear Hd Hp; ((try simp only [whyF]); (repeat' split)) <;> first | rfl | omega | (simp_all; done) | (simp_all; omega))

def zeroM : MV := ⟨0, 0, 0, 0, 0, 0, 0, 0, 0⟩
/-- The medium after a ride, and the error. -/
def useE (p : PD) (m : MV) (op lift t : Int) : Int := if ¬ whyF p m op lift t = 0 then 13 else if 1000000 ≤ m.counter then 12 else if lift < 1 ∨ 9999 < lift then 2 else 0
def useM (p : PD) (m : MV) (lift t : Int) : MV :=
  ⟨m.serial, m.counter + 1, m.product, if m.first = -1 then t else m.first, if p.kind = 2 ∨ (p.kind = 1 ∧ ¬ dayF t = m.today) then m.left - 1 else m.left, dayF t, lift, t, 0⟩
def useF (p : PD) (m : MV) (op lift t : Int) : MV := if useE p m op lift t = 0 then useM p m lift t else zeroM
def useV (p : PD) (m : MV) (op lift t : Int) : Value := .tuple #[(useF p m op lift t).val, .int .i64 (useE p m op lift t)]

theorem useV_bad {p : PD} {m : MV} {op lift t e : Int} (h : useE p m op lift t = e) (he : e ≠ 0) : Value.tuple #[.agg #[.int .i64 0, .int .i64 0, .int .i64 0, .int .i64 0, .int .i64 0, .int .i64 0, .int .i64 0, .int .i64 0, .int .u64 0], .int .i64 e] = useV p m op lift t := by
  have : useF p m op lift t = zeroM := by rw [useF, if_neg (by rw [h]; exact he)]
  simp [useV, this, zeroM, h]

set_option maxRecDepth 100000 in
set_option maxHeartbeats 1600000 in
theorem valid_Use (p : PD) (m : MV) (op lift t : Int) (w : World) (hp : p.at_ w) (hd : Def p m) : Calls Tryz.prog 20 #[p.val, m.val, .int .i64 op, .int .i64 lift, .int .i64 t] w (Gives (useV p m op lift t) w) := by
  have h1 := hd.left0; have h2 := hd.left; have h3 := hd.count0; have h4 := hd.count
  have Hd := Lib.hid hd
  have Hp := Lib.hid hp
  clear hd hp
  (go_enter Tryz.func20, Tryz.ntmps20; try dsimp only [List.append])
  go_wp2_with (first | (go_at_call 32; refine (valid_Why p m op lift t _ (Hp.out.toW (by (repeat' (first | (with_reducible exact Below.refl _ _) | (with_reducible exact Nat.le_refl _) | (with_reducible assumption) | (with_reducible refine below_step ?_ ?_ hr) | (with_reducible refine below_over ?_ ?_ _) | (with_reducible refine Below.alloc ?_ ?_ _) | (with_reducible refine Below.setCell ?_ ?_ _) | (with_reducible refine below_put ?_ ?_ _) | (with_reducible refine Below.drew ?_) | (with_reducible refine below_drewN_ ?_ _) | (with_reducible refine le_drewN ?_ _) | (with_reducible refine over_le _ _ _ ?_) | (with_reducible refine le_alloc ?_ _) | (with_reducible refine le_setCell ?_ _ _) | (with_reducible refine le_put ?_ _ _) | (with_reducible refine le_drew ?_) | dsimp only | omega | ((try simp only [World.size_alloc, World.size_setCell, World.size_drew, size_put]); omega) | (simp; done))))) Hd.out).mono ?_; rintro e w' ⟨rfl, x, hw⟩; have hz := size_of hw; (try simp only [World.size_alloc, World.size_setCell, World.size_drew] at hz); subst hw) | (go_at_call 36; refine (clock_Day _ _).mono ?_; rintro e w' ⟨rfl, rfl⟩))
  all_goals go_returns
  all_goals (refine gives_of (congrArg Ending.returned ?_) (by go_light; (repeat' (first | (with_reducible exact Below.refl _ _) | (with_reducible exact Nat.le_refl _) | (with_reducible assumption) | (with_reducible refine below_step ?_ ?_ hr) | (with_reducible refine below_over ?_ ?_ _) | (with_reducible refine Below.alloc ?_ ?_ _) | (with_reducible refine Below.setCell ?_ ?_ _) | (with_reducible refine below_put ?_ ?_ _) | (with_reducible refine Below.drew ?_) | (with_reducible refine below_drewN_ ?_ _) | (with_reducible refine le_drewN ?_ _) | (with_reducible refine over_le _ _ _ ?_) | (with_reducible refine le_alloc ?_ _) | (with_reducible refine le_setCell ?_ _ _) | (with_reducible refine le_put ?_ _ _) | (with_reducible refine le_drew ?_) | dsimp only | omega | ((try simp only [World.size_alloc, World.size_setCell, World.size_drew, size_put]); omega) | (simp; done)))); go_light; clear Hd Hp)
  all_goals first
    | (have hE : useE p m op lift t = 0 := by ((try simp only [useE]); (repeat' split)) <;> first | rfl | omega | (simp_all; done) | (simp_all; omega)
       simp only [useV, useF, hE, if_true, useM]; simp_all; done)
    | (refine useV_bad ?_ (by decide); ((try simp only [useE]); (repeat' split)) <;> first | rfl | omega | (simp_all; done) | (simp_all; omega))
end Go.Proofs.YtfajjgkhanjcfaaGreat
