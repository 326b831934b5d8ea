/- Missions: how they lie; ranges, open, active, windows. -/
import Derived.Test.YthcdnkhgmicpoaaOwnB
import Derived.Test.YthcdnkhgmicpoaaArgs
import Derived.Test.YthcdnkhgmicpoaaChecked
namespace Go.Proofs.Ythcdnkhgmicpoaa
set_option linter.unusedSimpArgs false
set_option linter.unusedVariables false
open Go.RowKit
structure MS where
  id : Int
  slide : Int
  by_ : Int
  state : Int
  since : Int
  fr : Int
  till : Int
abbrev MS.val (m : MS) : Value := .agg #[.int .i64 m.id, .int .i64 m.slide, .int .i64 m.by_, .int .i64 m.state, .int .i64 m.since, .int .i64 m.fr, .int .i64 m.till]
def MS.enc (m : MS) : List Value := [.int .i64 m.id, .int .i64 m.slide, .int .i64 m.by_, .int .i64 m.state, .int .i64 m.since, .int .i64 m.fr, .int .i64 m.till]
abbrev msB (m : MS) : Obj := .cells #[.int .i64 m.id, .int .i64 m.slide, .int .i64 m.by_, .int .i64 m.state, .int .i64 m.since, .int .i64 m.fr, .int .i64 m.till] 30
abbrev OwnM (w : World) (base : Nat) (s : Sl) (xs : List MS) : Prop := Own w base 30 7 MS.enc s xs
theorem one_ms (h : MS) : ∀ u ∈ h.enc, u.oneCell' = true := by intro u hu; simp [MS.enc] at hu; rcases hu with rfl | rfl | rfl | rfl | rfl | rfl | rfl <;> rfl
theorem info_ms : (Try.prog.info? 30).map (fun i => (i.zero, i.size, i.bytes)) = some (some (MS.val ⟨0, 0, 0, 0, 0, 0, 0⟩), 7, 56) := by kernel_rfl
theorem Rd.ms {w : World} {s : Sl} {xs : List MS} (h : Rd w MS.enc s xs) {k : Nat} (hk : k < s.n) : ∃ b off x, s.a = some ⟨b, off, none⟩ ∧ b < w.heap.size ∧ Hid (xs.drop k = x :: xs.drop (k + 1)) ∧ Hid (xs[k]? = some x) ∧
    w.cell? ⟨b, off + k * 7, none⟩ = some (.int .i64 x.id) ∧ w.cell? ⟨b, off + k * 7 + 1, none⟩ = some (.int .i64 x.slide) ∧ w.cell? ⟨b, off + k * 7 + 2, none⟩ = some (.int .i64 x.by_) ∧ w.cell? ⟨b, off + k * 7 + 3, none⟩ = some (.int .i64 x.state) ∧ w.cell? ⟨b, off + k * 7 + 4, none⟩ = some (.int .i64 x.since) ∧ w.cell? ⟨b, off + k * 7 + 5, none⟩ = some (.int .i64 x.fr) ∧ w.cell? ⟨b, off + k * 7 + 6, none⟩ = some (.int .i64 x.till) := by
  obtain ⟨b, off, x, e, hb, h1, h2, hc⟩ := h.step hk
  have key : ∀ j u, (MS.enc x)[j]? = some u → w.cell? ⟨b, off + k * 7 + j, none⟩ = some u := fun j u hu => by
    have := hc j u hu
    rw [show off + (k * (MS.enc x).length + j) = off + k * 7 + j from by simp [MS.enc]; omega] at this
    exact this
  exact ⟨b, off, x, e, hb, h1, h2, key 0 _ rfl, key 1 _ rfl, key 2 _ rfl, key 3 _ rfl, key 4 _ rfl, key 5 _ rfl, key 6 _ rfl⟩
def inB (x lo hi : Int) : Bool := decide (lo ≤ x) && decide (x ≤ hi)
theorem inB_iff {x lo hi : Int} : inB x lo hi = true ↔ lo ≤ x ∧ x ≤ hi := by simp [inB]
def badM (m : MS) : Bool := !inB m.id 1 9999 || (!inB m.slide 1 9999 || (!inB m.by_ 1 9999 || (!inB m.state 0 6 || (!inB m.since 0 20000000 || (decide (m.fr < 0) || (decide (m.till ≤ m.fr) || decide (20000000 < m.till)))))))
def openM (m : MS) : Bool := inB m.state 0 4
def activeM (m : MS) : Bool := inB m.state 1 4
def winM (m : MS) (t : Int) : Bool := decide (m.fr ≤ t) && decide (t < m.till)
set_option maxRecDepth 100000 in
set_option maxHeartbeats 400000 in
theorem ref51_in (x lo hi : Int) (w : World) : Calls Try.prog 38 #[.int .i64 x, .int .i64 lo, .int .i64 hi] w (Gives (.bool (inB x lo hi)) w) := by
  unfold inB
  cases h1 : decide (lo ≤ x)
  · (go_enter Try.func38, Try.ntmps38; try dsimp only [List.append])
    go_wp2_with fail
    go_ret
    exact gives_of rfl (by go_light; (repeat' (first | (with_reducible exact Below.refl _ _) | (with_reducible exact Nat.le_refl _) | (with_reducible assumption) | (with_reducible refine below_step ?_ ?_ hr) | (with_reducible refine below_over ?_ ?_ _) | (with_reducible refine Below.alloc ?_ ?_ _) | (with_reducible refine Below.setCell ?_ ?_ _) | (with_reducible refine below_put ?_ ?_ _) | (with_reducible refine Below.drew ?_) | (with_reducible refine below_drewN_ ?_ _) | (with_reducible refine le_drewN ?_ _) | (with_reducible refine over_le _ _ _ ?_) | (with_reducible refine le_alloc ?_ _) | (with_reducible refine le_setCell ?_ _ _) | (with_reducible refine le_put ?_ _ _) | (with_reducible refine le_drew ?_) | dsimp only | omega | ((try simp only [World.size_alloc, World.size_setCell, World.size_drew, size_put]); omega) | (simp; done))))
  · cases h2 : decide (x ≤ hi)
    all_goals
      (go_enter Try.func38, Try.ntmps38; try dsimp only [List.append])
      go_wp2_with fail
      go_ret
      exact gives_of rfl (by go_light; (repeat' (first | (with_reducible exact Below.refl _ _) | (with_reducible exact Nat.le_refl _) | (with_reducible assumption) | (with_reducible refine below_step ?_ ?_ hr) | (with_reducible refine below_over ?_ ?_ _) | (with_reducible refine Below.alloc ?_ ?_ _) | (with_reducible refine Below.setCell ?_ ?_ _) | (with_reducible refine below_put ?_ ?_ _) | (with_reducible refine Below.drew ?_) | (with_reducible refine below_drewN_ ?_ _) | (with_reducible refine le_drewN ?_ _) | (with_reducible refine over_le _ _ _ ?_) | (with_reducible refine le_alloc ?_ _) | (with_reducible refine le_setCell ?_ _ _) | (with_reducible refine le_put ?_ _ _) | (with_reducible refine le_drew ?_) | dsimp only | omega | ((try simp only [World.size_alloc, World.size_setCell, World.size_drew, size_put]); omega) | (simp; done))))
set_option maxRecDepth 100000 in
set_option maxHeartbeats 400000 in
theorem ref51_open (m : MS) (w : World) : Calls Try.prog 40 #[m.val] w (Gives (.bool (openM m)) w) := by
  obtain ⟨id, slide, by_, state, since, fr, till⟩ := m
  have Hc := Lib.hid (fun w' => ref51_in state 0 4 w')
  unfold openM
  dsimp only
  generalize inB state 0 4 = V at Hc ⊢
  (go_enter Try.func40, Try.ntmps40; try dsimp only [List.append])
  go_wp2_with (go_at_call 38; refine (Hc.out _).mono ?_; rintro e w1 hg; obtain ⟨rfl, hb⟩ := hg.below; clear hg; have hz := hb.size; (try simp only [World.size_alloc, World.size_setCell, World.size_drew, size_put] at hz); have hB : Below w.heap.size w w1 := below_step (by (repeat' (first | (with_reducible exact Below.refl _ _) | (with_reducible exact Nat.le_refl _) | (with_reducible assumption) | (with_reducible refine below_step ?_ ?_ hr) | (with_reducible refine below_over ?_ ?_ _) | (with_reducible refine Below.alloc ?_ ?_ _) | (with_reducible refine Below.setCell ?_ ?_ _) | (with_reducible refine below_put ?_ ?_ _) | (with_reducible refine Below.drew ?_) | (with_reducible refine below_drewN_ ?_ _) | (with_reducible refine le_drewN ?_ _) | (with_reducible refine over_le _ _ _ ?_) | (with_reducible refine le_alloc ?_ _) | (with_reducible refine le_setCell ?_ _ _) | (with_reducible refine le_put ?_ _ _) | (with_reducible refine le_drew ?_) | dsimp only | omega | ((try simp only [World.size_alloc, World.size_setCell, World.size_drew, size_put]); omega) | (simp; done)))) (by (first | omega | ((try simp only [World.size_alloc, World.size_setCell, World.size_drew, size_put]); omega))) hb; clear hb)
  go_ret
  exact gives_of rfl (by go_light; (repeat' (first | (with_reducible exact Below.refl _ _) | (with_reducible exact Nat.le_refl _) | (with_reducible assumption) | (with_reducible refine below_step ?_ ?_ hr) | (with_reducible refine below_over ?_ ?_ _) | (with_reducible refine Below.alloc ?_ ?_ _) | (with_reducible refine Below.setCell ?_ ?_ _) | (with_reducible refine below_put ?_ ?_ _) | (with_reducible refine Below.drew ?_) | (with_reducible refine below_drewN_ ?_ _) | (with_reducible refine le_drewN ?_ _) | (with_reducible refine over_le _ _ _ ?_) | (with_reducible refine le_alloc ?_ _) | (with_reducible refine le_setCell ?_ _ _) | (with_reducible refine le_put ?_ _ _) | (with_reducible refine le_drew ?_) | dsimp only | omega | ((try simp only [World.size_alloc, World.size_setCell, World.size_drew, size_put]); omega) | (simp; done))))
theorem five (s : Int) : s = 0 ∨ s = 1 ∨ s = 2 ∨ s = 3 ∨ s = 4 ∨ ((s == 0) = false ∧ (s == 1) = false ∧ (s == 2) = false ∧ (s == 3) = false ∧ (s == 4) = false ∧ (s < 0 ∨ 4 < s)) := by
  simp
  omega
set_option maxRecDepth 100000 in
set_option maxHeartbeats 800000 in
theorem bla_active (m : MS) (w : World) : Calls Try.prog 50 #[m.val] w (Gives (.bool (activeM m)) w) := by
  obtain ⟨id, slide, by_, state, since, fr, till⟩ := m
  rcases five state with rfl | rfl | rfl | rfl | rfl | ⟨h0, h1, h2, h3, h4, h5⟩
  · show Calls Try.prog 50 _ w (Gives (.bool false) w)
    (go_enter Try.func50, Try.ntmps50; try dsimp only [List.append])
    go_wp2_with fail
    go_ret
    exact gives_of rfl (by go_light; (repeat' (first | (with_reducible exact Below.refl _ _) | (with_reducible exact Nat.le_refl _) | (with_reducible assumption) | (with_reducible refine below_step ?_ ?_ hr) | (with_reducible refine below_over ?_ ?_ _) | (with_reducible refine Below.alloc ?_ ?_ _) | (with_reducible refine Below.setCell ?_ ?_ _) | (with_reducible refine below_put ?_ ?_ _) | (with_reducible refine Below.drew ?_) | (with_reducible refine below_drewN_ ?_ _) | (with_reducible refine le_drewN ?_ _) | (with_reducible refine over_le _ _ _ ?_) | (with_reducible refine le_alloc ?_ _) | (with_reducible refine le_setCell ?_ _ _) | (with_reducible refine le_put ?_ _ _) | (with_reducible refine le_drew ?_) | dsimp only | omega | ((try simp only [World.size_alloc, World.size_setCell, World.size_drew, size_put]); omega) | (simp; done))))
  rotate_right 1
  · have e : activeM ⟨id, slide, by_, state, since, fr, till⟩ = false := by simp [activeM, inB]; omega
    rw [e]
    clear e h5 h0
    (go_enter Try.func50, Try.ntmps50; try dsimp only [List.append])
    go_wp2_with fail
    go_ret
    exact gives_of rfl (by go_light; (repeat' (first | (with_reducible exact Below.refl _ _) | (with_reducible exact Nat.le_refl _) | (with_reducible assumption) | (with_reducible refine below_step ?_ ?_ hr) | (with_reducible refine below_over ?_ ?_ _) | (with_reducible refine Below.alloc ?_ ?_ _) | (with_reducible refine Below.setCell ?_ ?_ _) | (with_reducible refine below_put ?_ ?_ _) | (with_reducible refine Below.drew ?_) | (with_reducible refine below_drewN_ ?_ _) | (with_reducible refine le_drewN ?_ _) | (with_reducible refine over_le _ _ _ ?_) | (with_reducible refine le_alloc ?_ _) | (with_reducible refine le_setCell ?_ _ _) | (with_reducible refine le_put ?_ _ _) | (with_reducible refine le_drew ?_) | dsimp only | omega | ((try simp only [World.size_alloc, World.size_setCell, World.size_drew, size_put]); omega) | (simp; done))))
  all_goals
    show Calls Try.prog 50 _ w (Gives (.bool true) w)
    (go_enter Try.func50, Try.ntmps50; try dsimp only [List.append])
    go_wp2_with fail
    go_ret
    exact gives_of rfl (by go_light; (repeat' (first | (with_reducible exact Below.refl _ _) | (with_reducible exact Nat.le_refl _) | (with_reducible assumption) | (with_reducible refine below_step ?_ ?_ hr) | (with_reducible refine below_over ?_ ?_ _) | (with_reducible refine Below.alloc ?_ ?_ _) | (with_reducible refine Below.setCell ?_ ?_ _) | (with_reducible refine below_put ?_ ?_ _) | (with_reducible refine Below.drew ?_) | (with_reducible refine below_drewN_ ?_ _) | (with_reducible refine le_drewN ?_ _) | (with_reducible refine over_le _ _ _ ?_) | (with_reducible refine le_alloc ?_ _) | (with_reducible refine le_setCell ?_ _ _) | (with_reducible refine le_put ?_ _ _) | (with_reducible refine le_drew ?_) | dsimp only | omega | ((try simp only [World.size_alloc, World.size_setCell, World.size_drew, size_put]); omega) | (simp; done))))
set_option maxRecDepth 100000 in
set_option maxHeartbeats 800000 in
theorem bla_open (m : MS) (w : World) : Calls Try.prog 37 #[m.val] w (Gives (.bool (openM m)) w) := by
  obtain ⟨id, slide, by_, state, since, fr, till⟩ := m
  cases h : (state == 0)
  · have e : openM ⟨id, slide, by_, state, since, fr, till⟩ = activeM ⟨id, slide, by_, state, since, fr, till⟩ := by
      have h1 : ¬ state = 0 := by simpa using h
      unfold openM activeM inB
      dsimp only
      congr 1
      rw [decide_eq_decide]
      omega
    rw [e]
    have Hc := Lib.hid (fun w' => bla_active ⟨id, slide, by_, state, since, fr, till⟩ w')
    generalize activeM ⟨id, slide, by_, state, since, fr, till⟩ = V at Hc ⊢
    clear e
    (go_enter Try.func37, Try.ntmps37; try dsimp only [List.append])
    go_wp2_with (go_at_call 50; refine (Hc.out _).mono ?_; rintro e w1 hg; obtain ⟨rfl, hb⟩ := hg.below; clear hg; have hz := hb.size; (try simp only [World.size_alloc, World.size_setCell, World.size_drew, size_put] at hz); have hB : Below w.heap.size w w1 := below_step (by (repeat' (first | (with_reducible exact Below.refl _ _) | (with_reducible exact Nat.le_refl _) | (with_reducible assumption) | (with_reducible refine below_step ?_ ?_ hr) | (with_reducible refine below_over ?_ ?_ _) | (with_reducible refine Below.alloc ?_ ?_ _) | (with_reducible refine Below.setCell ?_ ?_ _) | (with_reducible refine below_put ?_ ?_ _) | (with_reducible refine Below.drew ?_) | (with_reducible refine below_drewN_ ?_ _) | (with_reducible refine le_drewN ?_ _) | (with_reducible refine over_le _ _ _ ?_) | (with_reducible refine le_alloc ?_ _) | (with_reducible refine le_setCell ?_ _ _) | (with_reducible refine le_put ?_ _ _) | (with_reducible refine le_drew ?_) | dsimp only | omega | ((try simp only [World.size_alloc, World.size_setCell, World.size_drew, size_put]); omega) | (simp; done)))) (by (first | omega | ((try simp only [World.size_alloc, World.size_setCell, World.size_drew, size_put]); omega))) hb; clear hb)
    go_ret
    exact gives_of rfl (by go_light; (repeat' (first | (with_reducible exact Below.refl _ _) | (with_reducible exact Nat.le_refl _) | (with_reducible assumption) | (with_reducible refine below_step ?_ ?_ hr) | (with_reducible refine below_over ?_ ?_ _) | (with_reducible refine Below.alloc ?_ ?_ _) | (with_reducible refine Below.setCell ?_ ?_ _) | (with_reducible refine below_put ?_ ?_ _) | (with_reducible refine Below.drew ?_) | (with_reducible refine below_drewN_ ?_ _) | (with_reducible refine le_drewN ?_ _) | (with_reducible refine over_le _ _ _ ?_) | (with_reducible refine le_alloc ?_ _) | (with_reducible refine le_setCell ?_ _ _) | (with_reducible refine le_put ?_ _ _) | (with_reducible refine le_drew ?_) | dsimp only | omega | ((try simp only [World.size_alloc, World.size_setCell, World.size_drew, size_put]); omega) | (simp; done))))
  · have e : openM ⟨id, slide, by_, state, since, fr, till⟩ = true := by
      have h1 : state = 0 := by simpa using h
      simp [openM, inB, h1]
    rw [e]
    clear e
    (go_enter Try.func37, Try.ntmps37; try dsimp only [List.append])
    go_wp2_with fail
    go_ret
    exact gives_of rfl (by go_light; (repeat' (first | (with_reducible exact Below.refl _ _) | (with_reducible exact Nat.le_refl _) | (with_reducible assumption) | (with_reducible refine below_step ?_ ?_ hr) | (with_reducible refine below_over ?_ ?_ _) | (with_reducible refine Below.alloc ?_ ?_ _) | (with_reducible refine Below.setCell ?_ ?_ _) | (with_reducible refine below_put ?_ ?_ _) | (with_reducible refine Below.drew ?_) | (with_reducible refine below_drewN_ ?_ _) | (with_reducible refine le_drewN ?_ _) | (with_reducible refine over_le _ _ _ ?_) | (with_reducible refine le_alloc ?_ _) | (with_reducible refine le_setCell ?_ _ _) | (with_reducible refine le_put ?_ _ _) | (with_reducible refine le_drew ?_) | dsimp only | omega | ((try simp only [World.size_alloc, World.size_setCell, World.size_drew, size_put]); omega) | (simp; done))))
set_option maxRecDepth 100000 in
set_option maxHeartbeats 400000 in
theorem bla_inWindow (m : MS) (t : Int) (w : World) : Calls Try.prog 45 #[m.val, .int .i64 t] w (Gives (.bool (winM m t)) w) := by
  obtain ⟨id, slide, by_, state, since, fr, till⟩ := m
  unfold winM
  dsimp only
  cases h1 : decide (fr ≤ t)
  · (go_enter Try.func45, Try.ntmps45; try dsimp only [List.append])
    go_wp2_with fail
    go_ret
    exact gives_of rfl (by go_light; (repeat' (first | (with_reducible exact Below.refl _ _) | (with_reducible exact Nat.le_refl _) | (with_reducible assumption) | (with_reducible refine below_step ?_ ?_ hr) | (with_reducible refine below_over ?_ ?_ _) | (with_reducible refine Below.alloc ?_ ?_ _) | (with_reducible refine Below.setCell ?_ ?_ _) | (with_reducible refine below_put ?_ ?_ _) | (with_reducible refine Below.drew ?_) | (with_reducible refine below_drewN_ ?_ _) | (with_reducible refine le_drewN ?_ _) | (with_reducible refine over_le _ _ _ ?_) | (with_reducible refine le_alloc ?_ _) | (with_reducible refine le_setCell ?_ _ _) | (with_reducible refine le_put ?_ _ _) | (with_reducible refine le_drew ?_) | dsimp only | omega | ((try simp only [World.size_alloc, World.size_setCell, World.size_drew, size_put]); omega) | (simp; done))))
  · cases h2 : decide (t < till)
    all_goals
      (go_enter Try.func45, Try.ntmps45; try dsimp only [List.append])
      go_wp2_with fail
      go_ret
      exact gives_of rfl (by go_light; (repeat' (first | (with_reducible exact Below.refl _ _) | (with_reducible exact Nat.le_refl _) | (with_reducible assumption) | (with_reducible refine below_step ?_ ?_ hr) | (with_reducible refine below_over ?_ ?_ _) | (with_reducible refine Below.alloc ?_ ?_ _) | (with_reducible refine Below.setCell ?_ ?_ _) | (with_reducible refine below_put ?_ ?_ _) | (with_reducible refine Below.drew ?_) | (with_reducible refine below_drewN_ ?_ _) | (with_reducible refine le_drewN ?_ _) | (with_reducible refine over_le _ _ _ ?_) | (with_reducible refine le_alloc ?_ _) | (with_reducible refine le_setCell ?_ _ _) | (with_reducible refine le_put ?_ _ _) | (with_reducible refine le_drew ?_) | dsimp only | omega | ((try simp only [World.size_alloc, World.size_setCell, World.size_drew, size_put]); omega) | (simp; done))))
set_option maxRecDepth 100000 in
set_option maxHeartbeats 400000 in
theorem ref51_within (m : MS) (t : Int) (w : World) : Calls Try.prog 47 #[m.val, .int .i64 t] w (Gives (.bool (winM m t)) w) := by
  obtain ⟨id, slide, by_, state, since, fr, till⟩ := m
  unfold winM
  dsimp only
  cases h1 : decide (fr ≤ t)
  · (go_enter Try.func47, Try.ntmps47; try dsimp only [List.append])
    go_wp2_with fail
    go_ret
    exact gives_of rfl (by go_light; (repeat' (first | (with_reducible exact Below.refl _ _) | (with_reducible exact Nat.le_refl _) | (with_reducible assumption) | (with_reducible refine below_step ?_ ?_ hr) | (with_reducible refine below_over ?_ ?_ _) | (with_reducible refine Below.alloc ?_ ?_ _) | (with_reducible refine Below.setCell ?_ ?_ _) | (with_reducible refine below_put ?_ ?_ _) | (with_reducible refine Below.drew ?_) | (with_reducible refine below_drewN_ ?_ _) | (with_reducible refine le_drewN ?_ _) | (with_reducible refine over_le _ _ _ ?_) | (with_reducible refine le_alloc ?_ _) | (with_reducible refine le_setCell ?_ _ _) | (with_reducible refine le_put ?_ _ _) | (with_reducible refine le_drew ?_) | dsimp only | omega | ((try simp only [World.size_alloc, World.size_setCell, World.size_drew, size_put]); omega) | (simp; done))))
  · cases h2 : decide (t < till)
    all_goals
      (go_enter Try.func47, Try.ntmps47; try dsimp only [List.append])
      go_wp2_with fail
      go_ret
      exact gives_of rfl (by go_light; (repeat' (first | (with_reducible exact Below.refl _ _) | (with_reducible exact Nat.le_refl _) | (with_reducible assumption) | (with_reducible refine below_step ?_ ?_ hr) | (with_reducible refine below_over ?_ ?_ _) | (with_reducible refine Below.alloc ?_ ?_ _) | (with_reducible refine Below.setCell ?_ ?_ _) | (with_reducible refine below_put ?_ ?_ _) | (with_reducible refine Below.drew ?_) | (with_reducible refine below_drewN_ ?_ _) | (with_reducible refine le_drewN ?_ _) | (with_reducible refine over_le _ _ _ ?_) | (with_reducible refine le_alloc ?_ _) | (with_reducible refine le_setCell ?_ _ _) | (with_reducible refine le_put ?_ _ _) | (with_reducible refine le_drew ?_) | dsimp only | omega | ((try simp only [World.size_alloc, World.size_setCell, World.size_drew, size_put]); omega) | (simp; done))))
set_option maxRecDepth 100000 in
set_option maxHeartbeats 3200000 in
theorem bla_inRange (m : MS) (w : World) : Calls Try.prog 35 #[m.val] w (Gives (.bool (!badM m)) w) := by
  obtain ⟨id, slide, by_, state, since, fr, till⟩ := m
  generalize hV : (!badM ⟨id, slide, by_, state, since, fr, till⟩) = V
  have HV := Lib.hid hV
  clear hV
  cases hw1 : (decide (id < 1))
  cases hw2 : (decide (9999 < id))
  cases hw3 : (decide (slide < 1))
  cases hw4 : (decide (9999 < slide))
  cases hw5 : (decide (by_ < 1))
  cases hw6 : (decide (9999 < by_))
  cases hw7 : (decide (state < 0))
  cases hw8 : (decide (6 < state))
  cases hw9 : (decide (since < 0))
  cases hw10 : (decide (20000000 < since))
  cases hw1 : (decide (0 ≤ fr))
  rotate_left
  cases hw2 : (decide (fr < till))
  rotate_left
  cases hw3 : (decide (till ≤ 20000000))
  rotate_left
  all_goals
    (go_enter Try.func35, Try.ntmps35; try dsimp only [List.append])
    go_wp2_with fail
    go_ret
    refine gives_of (ret_bool ?_) (by go_light; (repeat' (first | (with_reducible exact Below.refl _ _) | (with_reducible exact Nat.le_refl _) | (with_reducible assumption) | (with_reducible refine below_step ?_ ?_ hr) | (with_reducible refine below_over ?_ ?_ _) | (with_reducible refine Below.alloc ?_ ?_ _) | (with_reducible refine Below.setCell ?_ ?_ _) | (with_reducible refine below_put ?_ ?_ _) | (with_reducible refine Below.drew ?_) | (with_reducible refine below_drewN_ ?_ _) | (with_reducible refine le_drewN ?_ _) | (with_reducible refine over_le _ _ _ ?_) | (with_reducible refine le_alloc ?_ _) | (with_reducible refine le_setCell ?_ _ _) | (with_reducible refine le_put ?_ _ _) | (with_reducible refine le_drew ?_) | dsimp only | omega | ((try simp only [World.size_alloc, World.size_setCell, World.size_drew, size_put]); omega) | (simp; done))))
    go_light
    have h := HV.out
    rw [← h]
    simp [badM, inB] at *
    (try omega)
end Go.Proofs.Ythcdnkhgmicpoaa
