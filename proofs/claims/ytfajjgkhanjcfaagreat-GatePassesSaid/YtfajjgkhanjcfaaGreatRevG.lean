/- The library's Grow of a nil list and Concat of two lists of numbers. -/
import Derived.Test.YtfajjgkhanjcfaaGreatOwnI
import Derived.Lib.AppendZerosOnto
namespace Go.Proofs.YtfajjgkhanjcfaaGreat
set_option linter.unusedSimpArgs false
set_option linter.unusedVariables false
open Go.RowKit
set_option maxRecDepth 100000 in
set_option maxHeartbeats 3200000 in
theorem grow_nil_int (n : Nat) (w : World) (hn : n ≤ 8000) : Calls Tryz.prog 74 #[.slice none 0 0, .int .i64 n] w (OwnIPost [] w) := by
  obtain ⟨i0, hi, hi0, hi1, hi2⟩ := info_parts info_int
  have t22 : Tryz.prog.underlying 23 = some (.slice 3) := Tryz.underlying23
  rcases Nat.eq_zero_or_pos n with h0 | h0
  · subst h0
    clear hi hi0 hi1 hi2
    (go_enter Tryz.func74, Tryz.ntmps74; try dsimp only [List.append])
    go_wp2_with fail
    go_ret
    exact ⟨⟨none, 0, 0⟩, rfl, Below.refl _ _, Own.nil_ _ _ _ _ _⟩
  · have hrz : ∀ ty, (Builtin.append_ #[23, 3] ty #[.slice none 0 0, .int .i64 (n : Int)]).run Tryz.prog w = .ok (.slice (some ⟨w.heap.size, 0, none⟩) n (grownCap w n 0 3)) (w.drew.alloc (.cells (Builtin.zeroCells #[.int .i64 0] n ++ Builtin.zeroCells #[.int .i64 0] (grownCap w n 0 3 - n)) 3)) :=
      fun ty => Lib.run_append_nil_zeros w 23 3 ty 3 i0 (.int .i64 0) .i64 .i64 t22 Tryz.underlying3 hi hi0 n h0 (by omega) (by omega) (by rw [hi2]; omega)
    have hGn : n ≤ grownCap w n 0 3 := grownCap_ge w _ _ _
    have hGm : grownCap w n 0 3 ≤ maxLen := grownCap_le_maxLen w _ _ _ (by unfold maxLen; omega)
    generalize grownCap w n 0 3 = G at hrz hGn hGm
    have hG63 : G ≤ 9223372036854775807 := by unfold maxLen at hGm; omega
    clear hi hi0 hi1 hi2 t22
    (go_enter Tryz.func74, Tryz.ntmps74; try dsimp only [List.append])
    go_wp2_with (at_builtin; refine Lib.wpList_append_run _ rfl _ _ _ _ rfl _ _ rfl rfl _ _ (hrz _) ?_)
    go_ret
    refine ⟨⟨some ⟨w.heap.size, 0, none⟩, 0, G⟩, rfl, by go_light; (repeat' (first | (with_reducible exact Below.refl _ _) | (with_reducible exact Nat.le_refl _) | (with_reducible assumption) | (with_reducible refine below_step ?_ ?_ hr) | (with_reducible refine below_over ?_ ?_ _) | (with_reducible refine Below.alloc ?_ ?_ _) | (with_reducible refine Below.setCell ?_ ?_ _) | (with_reducible refine below_put ?_ ?_ _) | (with_reducible refine Below.drew ?_) | (with_reducible refine below_drewN_ ?_ _) | (with_reducible refine le_drewN ?_ _) | (with_reducible refine over_le _ _ _ ?_) | (with_reducible refine le_alloc ?_ _) | (with_reducible refine le_setCell ?_ _ _) | (with_reducible refine le_put ?_ _ _) | (with_reducible refine le_drew ?_) | dsimp only | omega | ((try simp only [World.size_alloc, World.size_setCell, World.size_drew, size_put]); omega) | (simp; done))), ?_⟩
    go_light
    refine ⟨rfl, by simp, .inr ⟨w.heap.size, G, _, rfl, Nat.le_refl _, by rw [drew_block, alloc_block_if, if_pos rfl], Nat.zero_le _, hGm, ?_, by simp⟩⟩
    simp [Builtin.zeroCells]
    omega
set_option maxRecDepth 100000 in
set_option maxHeartbeats 6400000 in
theorem concat_two (s t : Sl) (xs ys : List Int) (B : Nat) (w : World) (hs : Rd w encI s xs) (ht : Rd w encI t ys) (hn : s.n ≤ 2000) (hm : t.n ≤ 2000) (hB0 : w.heap[B]? = some (.cells #[s.val, t.val] 23)) : Calls Tryz.prog 49 #[.slice (some ⟨B, 0, none⟩) 2 2] w (OwnIPost (xs ++ ys) w) := by
  obtain ⟨A, n, c⟩ := s
  obtain ⟨A2, m, d⟩ := t
  dsimp only at hn hm
  have Hs := Lib.hid hs
  have Ht := Lib.hid ht
  have QB := Lib.hid hB0
  have hlt : B < w.heap.size := (Array.getElem?_eq_some_iff.1 hB0).1
  clear hs ht hB0
  generalize hV : xs ++ ys = V
  have HV := Lib.hid hV
  clear hV
  (go_enter Tryz.func49, Tryz.ntmps49; try dsimp only [List.append])
  go_wp2_with fail
  go_loopw [3, 11] (fun u i wr => ∃ k a : Nat, i = .int .i64 k ∧ u = .int .i64 a ∧ (k = 0 ∧ a = 0 ∨ k = 1 ∧ a = n ∨ k = 2 ∧ a = n + m) ∧ Below w.heap.size w wr) (fun _ i _ => 2 - (intOf i).toNat)
  case atStart => exact ⟨0, 0, rfl, rfl, .inl ⟨rfl, rfl⟩, Below.refl _ _⟩
  case round =>
    obtain ⟨k, a, rfl, rfl, hk, hB⟩ := hrel
    have qB := cell_of_block ((hB.block _ hlt).trans QB.out)
    rcases hk with ⟨rfl, rfl⟩ | ⟨rfl, rfl⟩ | ⟨rfl, rfl⟩
    · go_wp2_with fail
      go_roundw
      case rel => exact ⟨1, n, by go_num, by go_num, .inr (.inl ⟨rfl, rfl⟩), by go_light; (repeat' (first | (with_reducible exact Below.refl _ _) | (with_reducible exact Nat.le_refl _) | (with_reducible assumption) | (with_reducible refine below_step ?_ ?_ hr) | (with_reducible refine below_over ?_ ?_ _) | (with_reducible refine Below.alloc ?_ ?_ _) | (with_reducible refine Below.setCell ?_ ?_ _) | (with_reducible refine below_put ?_ ?_ _) | (with_reducible refine Below.drew ?_) | (with_reducible refine below_drewN_ ?_ _) | (with_reducible refine le_drewN ?_ _) | (with_reducible refine over_le _ _ _ ?_) | (with_reducible refine le_alloc ?_ _) | (with_reducible refine le_setCell ?_ _ _) | (with_reducible refine le_put ?_ _ _) | (with_reducible refine le_drew ?_) | dsimp only | omega | ((try simp only [World.size_alloc, World.size_setCell, World.size_drew, size_put]); omega) | (simp; done)))⟩
      case measure => (simp [intOf] <;> omega)
    · go_wp2_with fail
      go_roundw
      case rel => exact ⟨2, a + m, by go_num, by go_num, .inr (.inr ⟨rfl, rfl⟩), by go_light; (repeat' (first | (with_reducible exact Below.refl _ _) | (with_reducible exact Nat.le_refl _) | (with_reducible assumption) | (with_reducible refine below_step ?_ ?_ hr) | (with_reducible refine below_over ?_ ?_ _) | (with_reducible refine Below.alloc ?_ ?_ _) | (with_reducible refine Below.setCell ?_ ?_ _) | (with_reducible refine below_put ?_ ?_ _) | (with_reducible refine Below.drew ?_) | (with_reducible refine below_drewN_ ?_ _) | (with_reducible refine le_drewN ?_ _) | (with_reducible refine over_le _ _ _ ?_) | (with_reducible refine le_alloc ?_ _) | (with_reducible refine le_setCell ?_ _ _) | (with_reducible refine le_put ?_ _ _) | (with_reducible refine le_drew ?_) | dsimp only | omega | ((try simp only [World.size_alloc, World.size_setCell, World.size_drew, size_put]); omega) | (simp; done)))⟩
      case measure => (simp [intOf] <;> omega)
    · have hz := hB.size
      clear qB
      have hg : ∀ w' : World, Calls Tryz.prog 74 #[.slice none 0 0, .int .i64 ((n : Int) + (m : Int))] w' (OwnIPost [] w') := fun w' => by simpa only [Int.natCast_add] using grow_nil_int (n + m) w' (by omega)
      have Hg := Lib.hid hg
      clear hg
      have hnm : decide ((n : Int) + (m : Int) < 0) = false := by simp; omega
      go_wp2_with (go_at_call 74; refine (Hg.out _).mono ?_; rintro e w1 ⟨v, rfl, hb, hv⟩; have HO := Lib.hid (hv.base hz); have hB1 : Below w.heap.size w w1 := hB.trans (hb.mono hz); clear hv hb)
      go_loopw [6, 27] (fun u i wr => ∃ (k : Nat) (v : Sl) (acc : List Int), i = .int .i64 k ∧ u = v.val ∧ (k = 0 ∧ acc = [] ∨ k = 1 ∧ acc = xs ∨ k = 2 ∧ acc = xs ++ ys) ∧ Hid (OwnI wr w.heap.size v acc) ∧ Below w.heap.size w wr) (fun _ i _ => 2 - (intOf i).toNat)
      case atStart => exact ⟨0, v, [], rfl, rfl, .inl ⟨rfl, rfl⟩, HO, hB1⟩
      case round =>
        obtain ⟨k, v, acc, rfl, rfl, hk, HO, hB⟩ := hrel
        have hzr := hB.size
        have hxl : Hid (xs.length = n) := Hs.out.len
        have hvl : acc.length = v.n := HO.out.len
        have qB := cell_of_block ((hB.block _ hlt).trans QB.out)
        rcases hk with ⟨rfl, rfl⟩ | ⟨rfl, rfl⟩ | ⟨rfl, rfl⟩
        · have hv0 : v.n = 0 := hvl.symm
          go_wp2_with (at_builtin
                       obtain ⟨i0, hi, hi0, hi1, hi2⟩ := info_parts info_int
                       go_must (refine wpList_append_rd rfl _ _ _ rfl w.heap.size 3 i0 _ 1 8 Tryz.underlying23 hi hi0 hi1 hi2 rfl (by decide) (fun _ => rfl) one_int (s := v) (y := ⟨A, n, c⟩) (xs := []) (ys := xs) rfl rfl HO.out (Hs.out.toW (by (repeat' (first | (with_reducible exact Below.refl _ _) | (with_reducible exact Nat.le_refl _) | (with_reducible assumption) | (with_reducible refine below_step ?_ ?_ hr) | (with_reducible refine below_over ?_ ?_ _) | (with_reducible refine Below.alloc ?_ ?_ _) | (with_reducible refine Below.setCell ?_ ?_ _) | (with_reducible refine below_put ?_ ?_ _) | (with_reducible refine Below.drew ?_) | (with_reducible refine below_drewN_ ?_ _) | (with_reducible refine le_drewN ?_ _) | (with_reducible refine over_le _ _ _ ?_) | (with_reducible refine le_alloc ?_ _) | (with_reducible refine le_setCell ?_ _ _) | (with_reducible refine le_put ?_ _ _) | (with_reducible refine le_drew ?_) | dsimp only | omega | ((try simp only [World.size_alloc, World.size_setCell, World.size_drew, size_put]); omega) | (simp; done))))) (by simp only [maxLen]; omega) (by dsimp only; omega) (by omega) ?_)
                       clear hi hi0 hi1 hi2 i0
                       intro v2 w4 hv hg hpos
                       have HO4 := Lib.hid hv
                       have hB4 : Below w.heap.size w w4 := Below.grown (by (repeat' (first | (with_reducible exact Below.refl _ _) | (with_reducible exact Nat.le_refl _) | (with_reducible assumption) | (with_reducible refine below_step ?_ ?_ hr) | (with_reducible refine below_over ?_ ?_ _) | (with_reducible refine Below.alloc ?_ ?_ _) | (with_reducible refine Below.setCell ?_ ?_ _) | (with_reducible refine below_put ?_ ?_ _) | (with_reducible refine Below.drew ?_) | (with_reducible refine below_drewN_ ?_ _) | (with_reducible refine le_drewN ?_ _) | (with_reducible refine over_le _ _ _ ?_) | (with_reducible refine le_alloc ?_ _) | (with_reducible refine le_setCell ?_ _ _) | (with_reducible refine le_put ?_ _ _) | (with_reducible refine le_drew ?_) | dsimp only | omega | ((try simp only [World.size_alloc, World.size_setCell, World.size_drew, size_put]); omega) | (simp; done)))) hg (by omega) (fun g hg2 => (HO.out.block g hg2).1)
                       clear hv hg hpos)
          go_roundw
          case rel => exact ⟨1, v2, xs, by go_num, rfl, .inr (.inl ⟨rfl, rfl⟩), HO4, hB4⟩
          case measure => (simp [intOf] <;> omega)
        · have hv0 : v.n = n := by have := hxl.out; omega
          go_wp2_with (at_builtin
                       obtain ⟨i0, hi, hi0, hi1, hi2⟩ := info_parts info_int
                       go_must (refine wpList_append_rd rfl _ _ _ rfl w.heap.size 3 i0 _ 1 8 Tryz.underlying23 hi hi0 hi1 hi2 rfl (by decide) (fun _ => rfl) one_int (s := v) (y := ⟨A2, m, d⟩) (xs := _) (ys := ys) rfl rfl HO.out (Ht.out.toW (by (repeat' (first | (with_reducible exact Below.refl _ _) | (with_reducible exact Nat.le_refl _) | (with_reducible assumption) | (with_reducible refine below_step ?_ ?_ hr) | (with_reducible refine below_over ?_ ?_ _) | (with_reducible refine Below.alloc ?_ ?_ _) | (with_reducible refine Below.setCell ?_ ?_ _) | (with_reducible refine below_put ?_ ?_ _) | (with_reducible refine Below.drew ?_) | (with_reducible refine below_drewN_ ?_ _) | (with_reducible refine le_drewN ?_ _) | (with_reducible refine over_le _ _ _ ?_) | (with_reducible refine le_alloc ?_ _) | (with_reducible refine le_setCell ?_ _ _) | (with_reducible refine le_put ?_ _ _) | (with_reducible refine le_drew ?_) | dsimp only | omega | ((try simp only [World.size_alloc, World.size_setCell, World.size_drew, size_put]); omega) | (simp; done))))) (by simp only [maxLen]; omega) (by dsimp only; omega) (by omega) ?_)
                       clear hi hi0 hi1 hi2 i0
                       intro v2 w4 hv hg hpos
                       have HO4 := Lib.hid hv
                       have hB4 : Below w.heap.size w w4 := Below.grown (by (repeat' (first | (with_reducible exact Below.refl _ _) | (with_reducible exact Nat.le_refl _) | (with_reducible assumption) | (with_reducible refine below_step ?_ ?_ hr) | (with_reducible refine below_over ?_ ?_ _) | (with_reducible refine Below.alloc ?_ ?_ _) | (with_reducible refine Below.setCell ?_ ?_ _) | (with_reducible refine below_put ?_ ?_ _) | (with_reducible refine Below.drew ?_) | (with_reducible refine below_drewN_ ?_ _) | (with_reducible refine le_drewN ?_ _) | (with_reducible refine over_le _ _ _ ?_) | (with_reducible refine le_alloc ?_ _) | (with_reducible refine le_setCell ?_ _ _) | (with_reducible refine le_put ?_ _ _) | (with_reducible refine le_drew ?_) | dsimp only | omega | ((try simp only [World.size_alloc, World.size_setCell, World.size_drew, size_put]); omega) | (simp; done)))) hg (by omega) (fun g hg2 => (HO.out.block g hg2).1)
                       clear hv hg hpos)
          go_roundw
          case rel => exact ⟨2, v2, _, by go_num, rfl, .inr (.inr ⟨rfl, rfl⟩), HO4, hB4⟩
          case measure => (simp [intOf] <;> omega)
        · go_wp2_with fail
          go_ret
          exact ⟨v, rfl, by go_light; (repeat' (first | (with_reducible exact Below.refl _ _) | (with_reducible exact Nat.le_refl _) | (with_reducible assumption) | (with_reducible refine below_step ?_ ?_ hr) | (with_reducible refine below_over ?_ ?_ _) | (with_reducible refine Below.alloc ?_ ?_ _) | (with_reducible refine Below.setCell ?_ ?_ _) | (with_reducible refine below_put ?_ ?_ _) | (with_reducible refine Below.drew ?_) | (with_reducible refine below_drewN_ ?_ _) | (with_reducible refine le_drewN ?_ _) | (with_reducible refine over_le _ _ _ ?_) | (with_reducible refine le_alloc ?_ _) | (with_reducible refine le_setCell ?_ _ _) | (with_reducible refine le_put ?_ _ _) | (with_reducible refine le_drew ?_) | dsimp only | omega | ((try simp only [World.size_alloc, World.size_setCell, World.size_drew, size_put]); omega) | (simp; done))), by rw [← HV.out]; exact HO.out⟩
end Go.Proofs.YtfajjgkhanjcfaaGreat
