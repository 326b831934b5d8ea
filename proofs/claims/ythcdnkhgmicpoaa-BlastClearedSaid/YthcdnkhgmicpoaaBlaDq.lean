/- Missions: one operation of a script that succeeds: the missions lie in new memory. -/
import Derived.Test.YthcdnkhgmicpoaaBlaDo
namespace Go.Proofs.Ythcdnkhgmicpoaa
set_option linter.unusedSimpArgs false
set_option linter.unusedVariables false
open Go.RowKit
def DoOwn (l : List MS) (w : World) (e : Ending) (w' : World) : Prop := ∃ v : Sl, e = .returned (.tuple #[.slice v.a v.n v.c, .bool true]) ∧ Below w.heap.size w w' ∧ OwnM w' w.heap.size v l
set_option maxRecDepth 100000 in
set_option maxHeartbeats 12800000 in
theorem law51_do_ok (s : Sl) (l : List MS) (x : OpB) (w : World) (hs : Rd w MS.enc s l) (hn : s.n ≤ 900) (hok : ∀ m ∈ l, 0 ≤ m.since ∧ m.since ≤ 20000000) (hx : doB x l = true) : Calls Try.prog 30 #[s.val, x.val] w (DoOwn (doL x l) w) := by
  obtain ⟨kind, id, slide, by_, time, fr, till, worked, empty⟩ := x
  have hL : doL ⟨kind, id, slide, by_, time, fr, till, worked, empty⟩ l = doF ⟨kind, id, slide, by_, time, fr, till, worked, empty⟩ l := by unfold doL; rw [if_pos hx]
  rw [hL]
  unfold doB at hx
  clear hL
  rcases kinds6 kind with rfl | rfl | rfl | rfl | rfl | rfl | ⟨h0, h1, h2, h3, h4, h5⟩
  · have hE : doE ⟨0, id, slide, by_, time, fr, till, worked, empty⟩ l = planE l ⟨id, slide, by_, 0, time, fr, till⟩ := rfl
    have hF : doF ⟨0, id, slide, by_, time, fr, till, worked, empty⟩ l = planF l ⟨id, slide, by_, 0, time, fr, till⟩ := rfl
    have Hc := Lib.hid (fun w' (h : Below w.heap.size w w') => bla_Plan s l ⟨id, slide, by_, 0, time, fr, till⟩ w' (hs.toW h) hn)
    rw [← hE, ← hF] at Hc
    clear hE hF
    generalize doE ⟨0, id, slide, by_, time, fr, till, worked, empty⟩ l = E at Hc hx
    generalize doF ⟨0, id, slide, by_, time, fr, till, worked, empty⟩ l = F at Hc ⊢
    obtain ⟨A, n, c⟩ := s
    clear hs hok
    simp only [Sl.val] at Hc ⊢
    have h7 : (E != 0) = false := by simp at hx ⊢; exact hx
    clear hx
    generalize hP : DoOwn _ w = P
    have HP := Lib.hid hP
    clear hP
    (go_enter Try.func30, Try.ntmps30; try dsimp only [List.append])
    go_wp2_with (go_at_call 14; refine (Hc.out _ (by (repeat' (first | (with_reducible exact Below.refl _ _) | (with_reducible exact Nat.le_refl _) | (with_reducible assumption) | (with_reducible refine below_step ?_ ?_ hr) | (with_reducible refine below_over ?_ ?_ _) | (with_reducible refine Below.alloc ?_ ?_ _) | (with_reducible refine Below.setCell ?_ ?_ _) | (with_reducible refine below_put ?_ ?_ _) | (with_reducible refine Below.drew ?_) | (with_reducible refine below_drewN_ ?_ _) | (with_reducible refine le_drewN ?_ _) | (with_reducible refine over_le _ _ _ ?_) | (with_reducible refine le_alloc ?_ _) | (with_reducible refine le_setCell ?_ _ _) | (with_reducible refine le_put ?_ _ _) | (with_reducible refine le_drew ?_) | dsimp only | omega | ((try simp only [World.size_alloc, World.size_setCell, World.size_drew, size_put]); omega) | (simp; done))))).mono ?_; rintro e w2 ⟨v, rfl, hb, hv⟩; have HO := Lib.hid (hv.base (b' := w.heap.size) (by ((try simp only [World.size_alloc, World.size_setCell, World.size_drew, size_put]); omega))); clear hv; have hz := hb.size; (try simp only [World.size_alloc, World.size_setCell, World.size_drew, size_put] at hz); have hB : Below w.heap.size w w2 := below_step (by (repeat' (first | (with_reducible exact Below.refl _ _) | (with_reducible exact Nat.le_refl _) | (with_reducible assumption) | (with_reducible refine below_step ?_ ?_ hr) | (with_reducible refine below_over ?_ ?_ _) | (with_reducible refine Below.alloc ?_ ?_ _) | (with_reducible refine Below.setCell ?_ ?_ _) | (with_reducible refine below_put ?_ ?_ _) | (with_reducible refine Below.drew ?_) | (with_reducible refine below_drewN_ ?_ _) | (with_reducible refine le_drewN ?_ _) | (with_reducible refine over_le _ _ _ ?_) | (with_reducible refine le_alloc ?_ _) | (with_reducible refine le_setCell ?_ _ _) | (with_reducible refine le_put ?_ _ _) | (with_reducible refine le_drew ?_) | dsimp only | omega | ((try simp only [World.size_alloc, World.size_setCell, World.size_drew, size_put]); omega) | (simp; done)))) (by (first | omega | ((try simp only [World.size_alloc, World.size_setCell, World.size_drew, size_put]); omega))) hb; clear hb)
    show P (.returned (.tuple #[.slice v.a v.n v.c, .bool true])) _
    rw [← HP.out]
    exact ⟨v, rfl, by go_light; (repeat' (first | (with_reducible exact Below.refl _ _) | (with_reducible exact Nat.le_refl _) | (with_reducible assumption) | (with_reducible refine below_step ?_ ?_ hr) | (with_reducible refine below_over ?_ ?_ _) | (with_reducible refine Below.alloc ?_ ?_ _) | (with_reducible refine Below.setCell ?_ ?_ _) | (with_reducible refine below_put ?_ ?_ _) | (with_reducible refine Below.drew ?_) | (with_reducible refine below_drewN_ ?_ _) | (with_reducible refine le_drewN ?_ _) | (with_reducible refine over_le _ _ _ ?_) | (with_reducible refine le_alloc ?_ _) | (with_reducible refine le_setCell ?_ _ _) | (with_reducible refine le_put ?_ _ _) | (with_reducible refine le_drew ?_) | dsimp only | omega | ((try simp only [World.size_alloc, World.size_setCell, World.size_drew, size_put]); omega) | (simp; done))), HO.out⟩
  · have hE : doE ⟨1, id, slide, by_, time, fr, till, worked, empty⟩ l = chgE id time (refClear empty time) l := rfl
    have hF : doF ⟨1, id, slide, by_, time, fr, till, worked, empty⟩ l = chgF id time 1 (refClear empty time) l := rfl
    have Hc := Lib.hid (fun w' (h : Below w.heap.size w w') => bla_Clear s l id empty time w' (hs.toW h) hn)
    rw [← hE, ← hF] at Hc
    clear hE hF
    generalize doE ⟨1, id, slide, by_, time, fr, till, worked, empty⟩ l = E at Hc hx
    generalize doF ⟨1, id, slide, by_, time, fr, till, worked, empty⟩ l = F at Hc ⊢
    obtain ⟨A, n, c⟩ := s
    clear hs hok
    simp only [Sl.val] at Hc ⊢
    have h7 : (E != 0) = false := by simp at hx ⊢; exact hx
    clear hx
    generalize hP : DoOwn _ w = P
    have HP := Lib.hid hP
    clear hP
    (go_enter Try.func30, Try.ntmps30; try dsimp only [List.append])
    go_wp2_with (go_at_call 17; refine (Hc.out _ (by (repeat' (first | (with_reducible exact Below.refl _ _) | (with_reducible exact Nat.le_refl _) | (with_reducible assumption) | (with_reducible refine below_step ?_ ?_ hr) | (with_reducible refine below_over ?_ ?_ _) | (with_reducible refine Below.alloc ?_ ?_ _) | (with_reducible refine Below.setCell ?_ ?_ _) | (with_reducible refine below_put ?_ ?_ _) | (with_reducible refine Below.drew ?_) | (with_reducible refine below_drewN_ ?_ _) | (with_reducible refine le_drewN ?_ _) | (with_reducible refine over_le _ _ _ ?_) | (with_reducible refine le_alloc ?_ _) | (with_reducible refine le_setCell ?_ _ _) | (with_reducible refine le_put ?_ _ _) | (with_reducible refine le_drew ?_) | dsimp only | omega | ((try simp only [World.size_alloc, World.size_setCell, World.size_drew, size_put]); omega) | (simp; done))))).mono ?_; rintro e w2 ⟨v, rfl, hb, hv⟩; have HO := Lib.hid (hv.base (b' := w.heap.size) (by ((try simp only [World.size_alloc, World.size_setCell, World.size_drew, size_put]); omega))); clear hv; have hz := hb.size; (try simp only [World.size_alloc, World.size_setCell, World.size_drew, size_put] at hz); have hB : Below w.heap.size w w2 := below_step (by (repeat' (first | (with_reducible exact Below.refl _ _) | (with_reducible exact Nat.le_refl _) | (with_reducible assumption) | (with_reducible refine below_step ?_ ?_ hr) | (with_reducible refine below_over ?_ ?_ _) | (with_reducible refine Below.alloc ?_ ?_ _) | (with_reducible refine Below.setCell ?_ ?_ _) | (with_reducible refine below_put ?_ ?_ _) | (with_reducible refine Below.drew ?_) | (with_reducible refine below_drewN_ ?_ _) | (with_reducible refine le_drewN ?_ _) | (with_reducible refine over_le _ _ _ ?_) | (with_reducible refine le_alloc ?_ _) | (with_reducible refine le_setCell ?_ _ _) | (with_reducible refine le_put ?_ _ _) | (with_reducible refine le_drew ?_) | dsimp only | omega | ((try simp only [World.size_alloc, World.size_setCell, World.size_drew, size_put]); omega) | (simp; done)))) (by (first | omega | ((try simp only [World.size_alloc, World.size_setCell, World.size_drew, size_put]); omega))) hb; clear hb)
    show P (.returned (.tuple #[.slice v.a v.n v.c, .bool true])) _
    rw [← HP.out]
    exact ⟨v, rfl, by go_light; (repeat' (first | (with_reducible exact Below.refl _ _) | (with_reducible exact Nat.le_refl _) | (with_reducible assumption) | (with_reducible refine below_step ?_ ?_ hr) | (with_reducible refine below_over ?_ ?_ _) | (with_reducible refine Below.alloc ?_ ?_ _) | (with_reducible refine Below.setCell ?_ ?_ _) | (with_reducible refine below_put ?_ ?_ _) | (with_reducible refine Below.drew ?_) | (with_reducible refine below_drewN_ ?_ _) | (with_reducible refine le_drewN ?_ _) | (with_reducible refine over_le _ _ _ ?_) | (with_reducible refine le_alloc ?_ _) | (with_reducible refine le_setCell ?_ _ _) | (with_reducible refine le_put ?_ _ _) | (with_reducible refine le_drew ?_) | dsimp only | omega | ((try simp only [World.size_alloc, World.size_setCell, World.size_drew, size_put]); omega) | (simp; done))), HO.out⟩
  · have hE : doE ⟨2, id, slide, by_, time, fr, till, worked, empty⟩ l = chgE id time (refArm by_ time) l := rfl
    have hF : doF ⟨2, id, slide, by_, time, fr, till, worked, empty⟩ l = chgF id time 2 (refArm by_ time) l := rfl
    have Hc := Lib.hid (fun w' (h : Below w.heap.size w w') => bla_Arm s l id by_ time w' (hs.toW h) hn)
    rw [← hE, ← hF] at Hc
    clear hE hF
    generalize doE ⟨2, id, slide, by_, time, fr, till, worked, empty⟩ l = E at Hc hx
    generalize doF ⟨2, id, slide, by_, time, fr, till, worked, empty⟩ l = F at Hc ⊢
    obtain ⟨A, n, c⟩ := s
    clear hs hok
    simp only [Sl.val] at Hc ⊢
    have h7 : (E != 0) = false := by simp at hx ⊢; exact hx
    clear hx
    generalize hP : DoOwn _ w = P
    have HP := Lib.hid hP
    clear hP
    (go_enter Try.func30, Try.ntmps30; try dsimp only [List.append])
    go_wp2_with (go_at_call 19; refine (Hc.out _ (by (repeat' (first | (with_reducible exact Below.refl _ _) | (with_reducible exact Nat.le_refl _) | (with_reducible assumption) | (with_reducible refine below_step ?_ ?_ hr) | (with_reducible refine below_over ?_ ?_ _) | (with_reducible refine Below.alloc ?_ ?_ _) | (with_reducible refine Below.setCell ?_ ?_ _) | (with_reducible refine below_put ?_ ?_ _) | (with_reducible refine Below.drew ?_) | (with_reducible refine below_drewN_ ?_ _) | (with_reducible refine le_drewN ?_ _) | (with_reducible refine over_le _ _ _ ?_) | (with_reducible refine le_alloc ?_ _) | (with_reducible refine le_setCell ?_ _ _) | (with_reducible refine le_put ?_ _ _) | (with_reducible refine le_drew ?_) | dsimp only | omega | ((try simp only [World.size_alloc, World.size_setCell, World.size_drew, size_put]); omega) | (simp; done))))).mono ?_; rintro e w2 ⟨v, rfl, hb, hv⟩; have HO := Lib.hid (hv.base (b' := w.heap.size) (by ((try simp only [World.size_alloc, World.size_setCell, World.size_drew, size_put]); omega))); clear hv; have hz := hb.size; (try simp only [World.size_alloc, World.size_setCell, World.size_drew, size_put] at hz); have hB : Below w.heap.size w w2 := below_step (by (repeat' (first | (with_reducible exact Below.refl _ _) | (with_reducible exact Nat.le_refl _) | (with_reducible assumption) | (with_reducible refine below_step ?_ ?_ hr) | (with_reducible refine below_over ?_ ?_ _) | (with_reducible refine Below.alloc ?_ ?_ _) | (with_reducible refine Below.setCell ?_ ?_ _) | (with_reducible refine below_put ?_ ?_ _) | (with_reducible refine Below.drew ?_) | (with_reducible refine below_drewN_ ?_ _) | (with_reducible refine le_drewN ?_ _) | (with_reducible refine over_le _ _ _ ?_) | (with_reducible refine le_alloc ?_ _) | (with_reducible refine le_setCell ?_ _ _) | (with_reducible refine le_put ?_ _ _) | (with_reducible refine le_drew ?_) | dsimp only | omega | ((try simp only [World.size_alloc, World.size_setCell, World.size_drew, size_put]); omega) | (simp; done)))) (by (first | omega | ((try simp only [World.size_alloc, World.size_setCell, World.size_drew, size_put]); omega))) hb; clear hb)
    show P (.returned (.tuple #[.slice v.a v.n v.c, .bool true])) _
    rw [← HP.out]
    exact ⟨v, rfl, by go_light; (repeat' (first | (with_reducible exact Below.refl _ _) | (with_reducible exact Nat.le_refl _) | (with_reducible assumption) | (with_reducible refine below_step ?_ ?_ hr) | (with_reducible refine below_over ?_ ?_ _) | (with_reducible refine Below.alloc ?_ ?_ _) | (with_reducible refine Below.setCell ?_ ?_ _) | (with_reducible refine below_put ?_ ?_ _) | (with_reducible refine Below.drew ?_) | (with_reducible refine below_drewN_ ?_ _) | (with_reducible refine le_drewN ?_ _) | (with_reducible refine over_le _ _ _ ?_) | (with_reducible refine le_alloc ?_ _) | (with_reducible refine le_setCell ?_ _ _) | (with_reducible refine le_put ?_ _ _) | (with_reducible refine le_drew ?_) | dsimp only | omega | ((try simp only [World.size_alloc, World.size_setCell, World.size_drew, size_put]); omega) | (simp; done))), HO.out⟩
  · have hE : doE ⟨3, id, slide, by_, time, fr, till, worked, empty⟩ l = chgE id time (refFire by_ empty) l := rfl
    have hF : doF ⟨3, id, slide, by_, time, fr, till, worked, empty⟩ l = chgF id time (if worked = true then 3 else 4) (refFire by_ empty) l := rfl
    have Hc := Lib.hid (fun w' (h : Below w.heap.size w w') => bla_Fire s l id by_ worked empty time w' (hs.toW h) hn)
    rw [← hE, ← hF] at Hc
    clear hE hF
    generalize doE ⟨3, id, slide, by_, time, fr, till, worked, empty⟩ l = E at Hc hx
    generalize doF ⟨3, id, slide, by_, time, fr, till, worked, empty⟩ l = F at Hc ⊢
    obtain ⟨A, n, c⟩ := s
    clear hs hok
    simp only [Sl.val] at Hc ⊢
    have h7 : (E != 0) = false := by simp at hx ⊢; exact hx
    clear hx
    generalize hP : DoOwn _ w = P
    have HP := Lib.hid hP
    clear hP
    (go_enter Try.func30, Try.ntmps30; try dsimp only [List.append])
    go_wp2_with (go_at_call 24; refine (Hc.out _ (by (repeat' (first | (with_reducible exact Below.refl _ _) | (with_reducible exact Nat.le_refl _) | (with_reducible assumption) | (with_reducible refine below_step ?_ ?_ hr) | (with_reducible refine below_over ?_ ?_ _) | (with_reducible refine Below.alloc ?_ ?_ _) | (with_reducible refine Below.setCell ?_ ?_ _) | (with_reducible refine below_put ?_ ?_ _) | (with_reducible refine Below.drew ?_) | (with_reducible refine below_drewN_ ?_ _) | (with_reducible refine le_drewN ?_ _) | (with_reducible refine over_le _ _ _ ?_) | (with_reducible refine le_alloc ?_ _) | (with_reducible refine le_setCell ?_ _ _) | (with_reducible refine le_put ?_ _ _) | (with_reducible refine le_drew ?_) | dsimp only | omega | ((try simp only [World.size_alloc, World.size_setCell, World.size_drew, size_put]); omega) | (simp; done))))).mono ?_; rintro e w2 ⟨v, rfl, hb, hv⟩; have HO := Lib.hid (hv.base (b' := w.heap.size) (by ((try simp only [World.size_alloc, World.size_setCell, World.size_drew, size_put]); omega))); clear hv; have hz := hb.size; (try simp only [World.size_alloc, World.size_setCell, World.size_drew, size_put] at hz); have hB : Below w.heap.size w w2 := below_step (by (repeat' (first | (with_reducible exact Below.refl _ _) | (with_reducible exact Nat.le_refl _) | (with_reducible assumption) | (with_reducible refine below_step ?_ ?_ hr) | (with_reducible refine below_over ?_ ?_ _) | (with_reducible refine Below.alloc ?_ ?_ _) | (with_reducible refine Below.setCell ?_ ?_ _) | (with_reducible refine below_put ?_ ?_ _) | (with_reducible refine Below.drew ?_) | (with_reducible refine below_drewN_ ?_ _) | (with_reducible refine le_drewN ?_ _) | (with_reducible refine over_le _ _ _ ?_) | (with_reducible refine le_alloc ?_ _) | (with_reducible refine le_setCell ?_ _ _) | (with_reducible refine le_put ?_ _ _) | (with_reducible refine le_drew ?_) | dsimp only | omega | ((try simp only [World.size_alloc, World.size_setCell, World.size_drew, size_put]); omega) | (simp; done)))) (by (first | omega | ((try simp only [World.size_alloc, World.size_setCell, World.size_drew, size_put]); omega))) hb; clear hb)
    show P (.returned (.tuple #[.slice v.a v.n v.c, .bool true])) _
    rw [← HP.out]
    exact ⟨v, rfl, by go_light; (repeat' (first | (with_reducible exact Below.refl _ _) | (with_reducible exact Nat.le_refl _) | (with_reducible assumption) | (with_reducible refine below_step ?_ ?_ hr) | (with_reducible refine below_over ?_ ?_ _) | (with_reducible refine Below.alloc ?_ ?_ _) | (with_reducible refine Below.setCell ?_ ?_ _) | (with_reducible refine below_put ?_ ?_ _) | (with_reducible refine Below.drew ?_) | (with_reducible refine below_drewN_ ?_ _) | (with_reducible refine le_drewN ?_ _) | (with_reducible refine over_le _ _ _ ?_) | (with_reducible refine le_alloc ?_ _) | (with_reducible refine le_setCell ?_ _ _) | (with_reducible refine le_put ?_ _ _) | (with_reducible refine le_drew ?_) | dsimp only | omega | ((try simp only [World.size_alloc, World.size_setCell, World.size_drew, size_put]); omega) | (simp; done))), HO.out⟩
  · have hE : doE ⟨4, id, slide, by_, time, fr, till, worked, empty⟩ l = chgE id time refEnd l := rfl
    have hF : doF ⟨4, id, slide, by_, time, fr, till, worked, empty⟩ l = chgF id time 5 refEnd l := rfl
    have Hc := Lib.hid (fun w' (h : Below w.heap.size w w') => bla_End s l id time w' (hs.toW h) hn)
    rw [← hE, ← hF] at Hc
    clear hE hF
    generalize doE ⟨4, id, slide, by_, time, fr, till, worked, empty⟩ l = E at Hc hx
    generalize doF ⟨4, id, slide, by_, time, fr, till, worked, empty⟩ l = F at Hc ⊢
    obtain ⟨A, n, c⟩ := s
    clear hs hok
    simp only [Sl.val] at Hc ⊢
    have h7 : (E != 0) = false := by simp at hx ⊢; exact hx
    clear hx
    generalize hP : DoOwn _ w = P
    have HP := Lib.hid hP
    clear hP
    (go_enter Try.func30, Try.ntmps30; try dsimp only [List.append])
    go_wp2_with (go_at_call 26; refine (Hc.out _ (by (repeat' (first | (with_reducible exact Below.refl _ _) | (with_reducible exact Nat.le_refl _) | (with_reducible assumption) | (with_reducible refine below_step ?_ ?_ hr) | (with_reducible refine below_over ?_ ?_ _) | (with_reducible refine Below.alloc ?_ ?_ _) | (with_reducible refine Below.setCell ?_ ?_ _) | (with_reducible refine below_put ?_ ?_ _) | (with_reducible refine Below.drew ?_) | (with_reducible refine below_drewN_ ?_ _) | (with_reducible refine le_drewN ?_ _) | (with_reducible refine over_le _ _ _ ?_) | (with_reducible refine le_alloc ?_ _) | (with_reducible refine le_setCell ?_ _ _) | (with_reducible refine le_put ?_ _ _) | (with_reducible refine le_drew ?_) | dsimp only | omega | ((try simp only [World.size_alloc, World.size_setCell, World.size_drew, size_put]); omega) | (simp; done))))).mono ?_; rintro e w2 ⟨v, rfl, hb, hv⟩; have HO := Lib.hid (hv.base (b' := w.heap.size) (by ((try simp only [World.size_alloc, World.size_setCell, World.size_drew, size_put]); omega))); clear hv; have hz := hb.size; (try simp only [World.size_alloc, World.size_setCell, World.size_drew, size_put] at hz); have hB : Below w.heap.size w w2 := below_step (by (repeat' (first | (with_reducible exact Below.refl _ _) | (with_reducible exact Nat.le_refl _) | (with_reducible assumption) | (with_reducible refine below_step ?_ ?_ hr) | (with_reducible refine below_over ?_ ?_ _) | (with_reducible refine Below.alloc ?_ ?_ _) | (with_reducible refine Below.setCell ?_ ?_ _) | (with_reducible refine below_put ?_ ?_ _) | (with_reducible refine Below.drew ?_) | (with_reducible refine below_drewN_ ?_ _) | (with_reducible refine le_drewN ?_ _) | (with_reducible refine over_le _ _ _ ?_) | (with_reducible refine le_alloc ?_ _) | (with_reducible refine le_setCell ?_ _ _) | (with_reducible refine le_put ?_ _ _) | (with_reducible refine le_drew ?_) | dsimp only | omega | ((try simp only [World.size_alloc, World.size_setCell, World.size_drew, size_put]); omega) | (simp; done)))) (by (first | omega | ((try simp only [World.size_alloc, World.size_setCell, World.size_drew, size_put]); omega))) hb; clear hb)
    show P (.returned (.tuple #[.slice v.a v.n v.c, .bool true])) _
    rw [← HP.out]
    exact ⟨v, rfl, by go_light; (repeat' (first | (with_reducible exact Below.refl _ _) | (with_reducible exact Nat.le_refl _) | (with_reducible assumption) | (with_reducible refine below_step ?_ ?_ hr) | (with_reducible refine below_over ?_ ?_ _) | (with_reducible refine Below.alloc ?_ ?_ _) | (with_reducible refine Below.setCell ?_ ?_ _) | (with_reducible refine below_put ?_ ?_ _) | (with_reducible refine Below.drew ?_) | (with_reducible refine below_drewN_ ?_ _) | (with_reducible refine le_drewN ?_ _) | (with_reducible refine over_le _ _ _ ?_) | (with_reducible refine le_alloc ?_ _) | (with_reducible refine le_setCell ?_ _ _) | (with_reducible refine le_put ?_ _ _) | (with_reducible refine le_drew ?_) | dsimp only | omega | ((try simp only [World.size_alloc, World.size_setCell, World.size_drew, size_put]); omega) | (simp; done))), HO.out⟩
  · have hE : doE ⟨5, id, slide, by_, time, fr, till, worked, empty⟩ l = chgE id time (refAbort time) l := rfl
    have hF : doF ⟨5, id, slide, by_, time, fr, till, worked, empty⟩ l = chgF id time 6 (refAbort time) l := rfl
    have Hc := Lib.hid (fun w' (h : Below w.heap.size w w') => bla_Abort s l id time w' (hs.toW h) hn hok)
    rw [← hE, ← hF] at Hc
    clear hE hF
    generalize doE ⟨5, id, slide, by_, time, fr, till, worked, empty⟩ l = E at Hc hx
    generalize doF ⟨5, id, slide, by_, time, fr, till, worked, empty⟩ l = F at Hc ⊢
    obtain ⟨A, n, c⟩ := s
    clear hs hok
    simp only [Sl.val] at Hc ⊢
    have h7 : (E != 0) = false := by simp at hx ⊢; exact hx
    clear hx
    generalize hP : DoOwn _ w = P
    have HP := Lib.hid hP
    clear hP
    (go_enter Try.func30, Try.ntmps30; try dsimp only [List.append])
    go_wp2_with (go_at_call 28; refine (Hc.out _ (by (repeat' (first | (with_reducible exact Below.refl _ _) | (with_reducible exact Nat.le_refl _) | (with_reducible assumption) | (with_reducible refine below_step ?_ ?_ hr) | (with_reducible refine below_over ?_ ?_ _) | (with_reducible refine Below.alloc ?_ ?_ _) | (with_reducible refine Below.setCell ?_ ?_ _) | (with_reducible refine below_put ?_ ?_ _) | (with_reducible refine Below.drew ?_) | (with_reducible refine below_drewN_ ?_ _) | (with_reducible refine le_drewN ?_ _) | (with_reducible refine over_le _ _ _ ?_) | (with_reducible refine le_alloc ?_ _) | (with_reducible refine le_setCell ?_ _ _) | (with_reducible refine le_put ?_ _ _) | (with_reducible refine le_drew ?_) | dsimp only | omega | ((try simp only [World.size_alloc, World.size_setCell, World.size_drew, size_put]); omega) | (simp; done))))).mono ?_; rintro e w2 ⟨v, rfl, hb, hv⟩; have HO := Lib.hid (hv.base (b' := w.heap.size) (by ((try simp only [World.size_alloc, World.size_setCell, World.size_drew, size_put]); omega))); clear hv; have hz := hb.size; (try simp only [World.size_alloc, World.size_setCell, World.size_drew, size_put] at hz); have hB : Below w.heap.size w w2 := below_step (by (repeat' (first | (with_reducible exact Below.refl _ _) | (with_reducible exact Nat.le_refl _) | (with_reducible assumption) | (with_reducible refine below_step ?_ ?_ hr) | (with_reducible refine below_over ?_ ?_ _) | (with_reducible refine Below.alloc ?_ ?_ _) | (with_reducible refine Below.setCell ?_ ?_ _) | (with_reducible refine below_put ?_ ?_ _) | (with_reducible refine Below.drew ?_) | (with_reducible refine below_drewN_ ?_ _) | (with_reducible refine le_drewN ?_ _) | (with_reducible refine over_le _ _ _ ?_) | (with_reducible refine le_alloc ?_ _) | (with_reducible refine le_setCell ?_ _ _) | (with_reducible refine le_put ?_ _ _) | (with_reducible refine le_drew ?_) | dsimp only | omega | ((try simp only [World.size_alloc, World.size_setCell, World.size_drew, size_put]); omega) | (simp; done)))) (by (first | omega | ((try simp only [World.size_alloc, World.size_setCell, World.size_drew, size_put]); omega))) hb; clear hb)
    show P (.returned (.tuple #[.slice v.a v.n v.c, .bool true])) _
    rw [← HP.out]
    exact ⟨v, rfl, by go_light; (repeat' (first | (with_reducible exact Below.refl _ _) | (with_reducible exact Nat.le_refl _) | (with_reducible assumption) | (with_reducible refine below_step ?_ ?_ hr) | (with_reducible refine below_over ?_ ?_ _) | (with_reducible refine Below.alloc ?_ ?_ _) | (with_reducible refine Below.setCell ?_ ?_ _) | (with_reducible refine below_put ?_ ?_ _) | (with_reducible refine Below.drew ?_) | (with_reducible refine below_drewN_ ?_ _) | (with_reducible refine le_drewN ?_ _) | (with_reducible refine over_le _ _ _ ?_) | (with_reducible refine le_alloc ?_ _) | (with_reducible refine le_setCell ?_ _ _) | (with_reducible refine le_put ?_ _ _) | (with_reducible refine le_drew ?_) | dsimp only | omega | ((try simp only [World.size_alloc, World.size_setCell, World.size_drew, size_put]); omega) | (simp; done))), HO.out⟩
  · simp only [doE, h0, h1, h2, h3, h4, h5] at hx
    exact absurd hx (by simp)
end Go.Proofs.Ythcdnkhgmicpoaa
