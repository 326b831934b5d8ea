/- Products: slices.Clone: the same list in memory of its own. -/
import Derived.Test.YtfajjgkhanjcfaaGreatPNum
import Derived.Test.YtfajjgkhanjcfaaGreatMA
import Derived.WalkSpells
namespace Go.Proofs.YtfajjgkhanjcfaaGreat
set_option linter.unusedSimpArgs false
set_option linter.unusedVariables false
open Go.RowKit
theorem info_hours : (Tryz.prog.info? 72).map (fun i => (i.zero, i.size, i.bytes)) = some (some (.agg #[.int .i64 0, .int .i64 0, .int .i64 0]), 3, 24) := by kernel_rfl
theorem one_hrs (h : Hrs) : ∀ u ∈ h.enc, u.oneCell' = true := by intro u hu; simp [Hrs.enc] at hu; rcases hu with rfl | rfl | rfl <;> rfl
abbrev OwnH (w : World) (base : Nat) (s : Sl) (xs : List Hrs) : Prop := Own w base 72 3 Hrs.enc s xs
set_option maxRecDepth 100000 in
set_option maxHeartbeats 1600000 in
theorem clone_ints (s : Sl) (xs : List Int) (w : World) (hr : Rd w encI s xs) (h1000 : s.n ≤ 1000) : Calls Tryz.prog 22 #[s.val] w fun e w' => ∃ v : Sl, e = .returned v.val ∧ Below w.heap.size w w' ∧ OwnI w' w.heap.size v xs := by
  obtain ⟨A, n, c⟩ := s
  have Hr := Lib.hid hr
  have hn : Hid (xs.length = n) := hr.len
  dsimp only at h1000
  clear hr
  simp only [Sl.val]
  have qN : ∀ (w : World) (a : Option Addr) (n c : Nat), (binOp .eql 23 (.slice a n c) (.slice none 0 0)).run Tryz.prog w = .ok (.bool a.isNone) w := fun w a n c => Lib.run_eql_slice_nil w _ _ a n c 0 0 Tryz.underlying23
  cases A with
  | none =>
    have hx : xs = [] := by
      have h0 : n = 0 := by
        rcases Nat.eq_zero_or_pos n with h | h
        · exact h
        · obtain ⟨b, off, e, _⟩ := Hr.out.cells h
          cases e
      exact List.eq_nil_of_length_eq_zero (by rw [hn.out, h0])
    have Hx := Lib.hid hx
    clear hx
    (go_enter Tryz.func22, Tryz.ntmps22; try dsimp only [List.append])
    go_wp2_with fail
    go_ret
    exact ⟨⟨none, 0, 0⟩, rfl, by go_light; (repeat' (first | (with_reducible exact Below.refl _ _) | (with_reducible exact Nat.le_refl _) | (with_reducible assumption) | (with_reducible refine below_step ?_ ?_ hr) | (with_reducible refine below_over ?_ ?_ _) | (with_reducible refine Below.alloc ?_ ?_ _) | (with_reducible refine Below.setCell ?_ ?_ _) | (with_reducible refine below_put ?_ ?_ _) | (with_reducible refine Below.drew ?_) | (with_reducible refine below_drewN_ ?_ _) | (with_reducible refine le_drewN ?_ _) | (with_reducible refine over_le _ _ _ ?_) | (with_reducible refine le_alloc ?_ _) | (with_reducible refine le_setCell ?_ _ _) | (with_reducible refine le_put ?_ _ _) | (with_reducible refine le_drew ?_) | dsimp only | omega | ((try simp only [World.size_alloc, World.size_setCell, World.size_drew, size_put]); omega) | (simp; done))), by go_light; rw [Hx.out]; exact Own.nil_ _ _ _ _ _⟩
  | some a =>
    have qI : (some a : Option Addr).isNone = false := rfl
    (go_enter Tryz.func22, Tryz.ntmps22; try dsimp only [List.append])
    go_wp2_with (first
      | (at_builtin
         obtain ⟨i0, hi, hi0, hi1, hi2⟩ := info_parts info_int
         have h0 : OwnI (w.alloc (.cells #[] 3)) w.heap.size ⟨some ⟨w.heap.size, 0, none⟩, 0, 0⟩ [] := own_empty _ _ _
         go_must (refine wpList_append_rd rfl _ _ _ rfl w.heap.size 3 i0 _ 1 8 Tryz.underlying23 hi hi0 hi1 hi2 rfl (by decide) (fun _ => rfl) one_int (s := ⟨some ⟨w.heap.size, 0, none⟩, 0, 0⟩) (y := ⟨some a, n, c⟩) (xs := []) (ys := xs) rfl rfl h0 (Hr.out.toW (by (repeat' (first | (with_reducible exact Below.refl _ _) | (with_reducible exact Nat.le_refl _) | (with_reducible assumption) | (with_reducible refine below_step ?_ ?_ hr) | (with_reducible refine below_over ?_ ?_ _) | (with_reducible refine Below.alloc ?_ ?_ _) | (with_reducible refine Below.setCell ?_ ?_ _) | (with_reducible refine below_put ?_ ?_ _) | (with_reducible refine Below.drew ?_) | (with_reducible refine below_drewN_ ?_ _) | (with_reducible refine le_drewN ?_ _) | (with_reducible refine over_le _ _ _ ?_) | (with_reducible refine le_alloc ?_ _) | (with_reducible refine le_setCell ?_ _ _) | (with_reducible refine le_put ?_ _ _) | (with_reducible refine le_drew ?_) | dsimp only | omega | ((try simp only [World.size_alloc, World.size_setCell, World.size_drew, size_put]); omega) | (simp; done))))) (by simp only [maxLen]; omega) (by dsimp only; omega) (by simp) ?_)
         clear hi hi0 hi1 hi2 i0 h0
         intro v w2 hv hg hpos
         rw [List.nil_append] at hv
         have Hv := Lib.hid hv
         have hB : Below w.heap.size w w2 := Below.grown (by (repeat' (first | (with_reducible exact Below.refl _ _) | (with_reducible exact Nat.le_refl _) | (with_reducible assumption) | (with_reducible refine below_step ?_ ?_ hr) | (with_reducible refine below_over ?_ ?_ _) | (with_reducible refine Below.alloc ?_ ?_ _) | (with_reducible refine Below.setCell ?_ ?_ _) | (with_reducible refine below_put ?_ ?_ _) | (with_reducible refine Below.drew ?_) | (with_reducible refine below_drewN_ ?_ _) | (with_reducible refine le_drewN ?_ _) | (with_reducible refine over_le _ _ _ ?_) | (with_reducible refine le_alloc ?_ _) | (with_reducible refine le_setCell ?_ _ _) | (with_reducible refine le_put ?_ _ _) | (with_reducible refine le_drew ?_) | dsimp only | omega | ((try simp only [World.size_alloc, World.size_setCell, World.size_drew, size_put]); omega) | (simp; done)))) hg (by simp) (fun g hg2 => by cases hg2; exact Nat.le_refl _)
         clear hv hg hpos))
    go_ret
    exact ⟨v, rfl, by go_light; (repeat' (first | (with_reducible exact Below.refl _ _) | (with_reducible exact Nat.le_refl _) | (with_reducible assumption) | (with_reducible refine below_step ?_ ?_ hr) | (with_reducible refine below_over ?_ ?_ _) | (with_reducible refine Below.alloc ?_ ?_ _) | (with_reducible refine Below.setCell ?_ ?_ _) | (with_reducible refine below_put ?_ ?_ _) | (with_reducible refine Below.drew ?_) | (with_reducible refine below_drewN_ ?_ _) | (with_reducible refine le_drewN ?_ _) | (with_reducible refine over_le _ _ _ ?_) | (with_reducible refine le_alloc ?_ _) | (with_reducible refine le_setCell ?_ _ _) | (with_reducible refine le_put ?_ _ _) | (with_reducible refine le_drew ?_) | dsimp only | omega | ((try simp only [World.size_alloc, World.size_setCell, World.size_drew, size_put]); omega) | (simp; done))), Hv⟩
set_option maxRecDepth 100000 in
set_option maxHeartbeats 1600000 in
theorem clone_hours (s : Sl) (xs : List Hrs) (w : World) (hr : Rd w Hrs.enc s xs) (h1000 : s.n ≤ 1000) : Calls Tryz.prog 35 #[s.val] w fun e w' => ∃ v : Sl, e = .returned v.val ∧ Below w.heap.size w w' ∧ OwnH w' w.heap.size v xs := by
  obtain ⟨A, n, c⟩ := s
  have Hr := Lib.hid hr
  have hn : Hid (xs.length = n) := hr.len
  dsimp only at h1000
  clear hr
  simp only [Sl.val]
  have qN : ∀ (w : World) (a : Option Addr) (n c : Nat), (binOp .eql 52 (.slice a n c) (.slice none 0 0)).run Tryz.prog w = .ok (.bool a.isNone) w := fun w a n c => Lib.run_eql_slice_nil w _ _ a n c 0 0 Tryz.underlying52
  cases A with
  | none =>
    have hx : xs = [] := by
      have h0 : n = 0 := by
        rcases Nat.eq_zero_or_pos n with h | h
        · exact h
        · obtain ⟨b, off, e, _⟩ := Hr.out.cells h
          cases e
      exact List.eq_nil_of_length_eq_zero (by rw [hn.out, h0])
    have Hx := Lib.hid hx
    clear hx
    (go_enter Tryz.func35, Tryz.ntmps35; try dsimp only [List.append])
    go_wp2_with fail
    go_ret
    exact ⟨⟨none, 0, 0⟩, rfl, by go_light; (repeat' (first | (with_reducible exact Below.refl _ _) | (with_reducible exact Nat.le_refl _) | (with_reducible assumption) | (with_reducible refine below_step ?_ ?_ hr) | (with_reducible refine below_over ?_ ?_ _) | (with_reducible refine Below.alloc ?_ ?_ _) | (with_reducible refine Below.setCell ?_ ?_ _) | (with_reducible refine below_put ?_ ?_ _) | (with_reducible refine Below.drew ?_) | (with_reducible refine below_drewN_ ?_ _) | (with_reducible refine le_drewN ?_ _) | (with_reducible refine over_le _ _ _ ?_) | (with_reducible refine le_alloc ?_ _) | (with_reducible refine le_setCell ?_ _ _) | (with_reducible refine le_put ?_ _ _) | (with_reducible refine le_drew ?_) | dsimp only | omega | ((try simp only [World.size_alloc, World.size_setCell, World.size_drew, size_put]); omega) | (simp; done))), by go_light; rw [Hx.out]; exact Own.nil_ _ _ _ _ _⟩
  | some a =>
    have qI : (some a : Option Addr).isNone = false := rfl
    (go_enter Tryz.func35, Tryz.ntmps35; try dsimp only [List.append])
    go_wp2_with (first
      | (at_builtin
         obtain ⟨i0, hi, hi0, hi1, hi2⟩ := info_parts info_hours
         have h0 : OwnH (w.alloc (.cells #[] 72)) w.heap.size ⟨some ⟨w.heap.size, 0, none⟩, 0, 0⟩ [] := own_empty _ _ _
         go_must (refine wpList_append_rd rfl _ _ _ rfl w.heap.size 72 i0 _ 3 24 Tryz.underlying52 hi hi0 hi1 hi2 rfl (by decide) (fun _ => rfl) one_hrs (s := ⟨some ⟨w.heap.size, 0, none⟩, 0, 0⟩) (y := ⟨some a, n, c⟩) (xs := []) (ys := xs) rfl rfl h0 (Hr.out.toW (by (repeat' (first | (with_reducible exact Below.refl _ _) | (with_reducible exact Nat.le_refl _) | (with_reducible assumption) | (with_reducible refine below_step ?_ ?_ hr) | (with_reducible refine below_over ?_ ?_ _) | (with_reducible refine Below.alloc ?_ ?_ _) | (with_reducible refine Below.setCell ?_ ?_ _) | (with_reducible refine below_put ?_ ?_ _) | (with_reducible refine Below.drew ?_) | (with_reducible refine below_drewN_ ?_ _) | (with_reducible refine le_drewN ?_ _) | (with_reducible refine over_le _ _ _ ?_) | (with_reducible refine le_alloc ?_ _) | (with_reducible refine le_setCell ?_ _ _) | (with_reducible refine le_put ?_ _ _) | (with_reducible refine le_drew ?_) | dsimp only | omega | ((try simp only [World.size_alloc, World.size_setCell, World.size_drew, size_put]); omega) | (simp; done))))) (by simp only [maxLen]; omega) (by dsimp only; omega) (by simp) ?_)
         clear hi hi0 hi1 hi2 i0 h0
         intro v w2 hv hg hpos
         rw [List.nil_append] at hv
         have Hv := Lib.hid hv
         have hB : Below w.heap.size w w2 := Below.grown (by (repeat' (first | (with_reducible exact Below.refl _ _) | (with_reducible exact Nat.le_refl _) | (with_reducible assumption) | (with_reducible refine below_step ?_ ?_ hr) | (with_reducible refine below_over ?_ ?_ _) | (with_reducible refine Below.alloc ?_ ?_ _) | (with_reducible refine Below.setCell ?_ ?_ _) | (with_reducible refine below_put ?_ ?_ _) | (with_reducible refine Below.drew ?_) | (with_reducible refine below_drewN_ ?_ _) | (with_reducible refine le_drewN ?_ _) | (with_reducible refine over_le _ _ _ ?_) | (with_reducible refine le_alloc ?_ _) | (with_reducible refine le_setCell ?_ _ _) | (with_reducible refine le_put ?_ _ _) | (with_reducible refine le_drew ?_) | dsimp only | omega | ((try simp only [World.size_alloc, World.size_setCell, World.size_drew, size_put]); omega) | (simp; done)))) hg (by simp) (fun g hg2 => by cases hg2; exact Nat.le_refl _)
         clear hv hg hpos))
    go_ret
    exact ⟨v, rfl, by go_light; (repeat' (first | (with_reducible exact Below.refl _ _) | (with_reducible exact Nat.le_refl _) | (with_reducible assumption) | (with_reducible refine below_step ?_ ?_ hr) | (with_reducible refine below_over ?_ ?_ _) | (with_reducible refine Below.alloc ?_ ?_ _) | (with_reducible refine Below.setCell ?_ ?_ _) | (with_reducible refine below_put ?_ ?_ _) | (with_reducible refine Below.drew ?_) | (with_reducible refine below_drewN_ ?_ _) | (with_reducible refine le_drewN ?_ _) | (with_reducible refine over_le _ _ _ ?_) | (with_reducible refine le_alloc ?_ _) | (with_reducible refine le_setCell ?_ _ _) | (with_reducible refine le_put ?_ _ _) | (with_reducible refine le_drew ?_) | dsimp only | omega | ((try simp only [World.size_alloc, World.size_setCell, World.size_drew, size_put]); omega) | (simp; done))), Hv⟩
end Go.Proofs.YtfajjgkhanjcfaaGreat
