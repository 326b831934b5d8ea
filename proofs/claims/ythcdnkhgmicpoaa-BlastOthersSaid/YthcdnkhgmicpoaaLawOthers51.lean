/-
  BlastOthers: for every list of missions and every script of operations the statement's function returns true. No condition.
-/
import Derived.Test.YthcdnkhgmicpoaaRows
import Derived.Test.YthcdnkhgmicpoaaBlaO2
import Derived.Below
namespace Go.Proofs.Ythcdnkhgmicpoaa.lawOthers51
set_option linter.unusedSimpArgs false
set_option linter.unusedVariables false
open Go.ChangeShapes Go.WideShapes Go.ChangeAt Go.RowKit

set_option maxRecDepth 100000 in
set_option maxHeartbeats 25600000 in
theorem good (s : Sl) (l : List MS) (t : Sl) (ops : List OpB) (w : World) (hs : Rd w MS.enc s l) (ht : Rd w OpB.enc t ops) (hR : right51 l = 0) (h40 : t.n ≤ 40) : Calls Try.prog 10 #[s.val, t.val] w fun e w' => e = .returned (.bool true) ∧ Below w.heap.size w w' := by
  have Hr := Lib.hid (fun w' (h : Below w.heap.size w w') => right_51 s l w' hR (hs.toW h))
  have HR := Lib.hid hR
  have Hs := Lib.hid hs
  have Ht := Lib.hid ht
  obtain ⟨A, n, c⟩ := s
  obtain ⟨A2, m, d⟩ := t
  clear hs ht hR
  dsimp only at h40
  have h40b : decide ((40 : Int) < (m : Int)) = false := by simp; omega
  simp only [Sl.val] at *
  (go_enter Try.func10, Try.ntmps10; try dsimp only [List.append])
  go_upto_region 5 with (first | (go_at_call 11; refine (law51_alive _).mono ?_; rintro e w1 hg; obtain ⟨rfl, hb⟩ := hg.below; clear hg; have hz := hb.size; (try simp only [World.size_alloc, World.size_setCell, World.size_drew, size_put] at hz); have hB : Below w.heap.size w w1 := below_step (by (repeat' (first | (with_reducible exact Below.refl _ _) | (with_reducible exact Nat.le_refl _) | (with_reducible assumption) | (with_reducible refine below_step ?_ ?_ hr) | (with_reducible refine below_over ?_ ?_ _) | (with_reducible refine Below.alloc ?_ ?_ _) | (with_reducible refine Below.setCell ?_ ?_ _) | (with_reducible refine below_put ?_ ?_ _) | (with_reducible refine Below.drew ?_) | (with_reducible refine below_drewN_ ?_ _) | (with_reducible refine le_drewN ?_ _) | (with_reducible refine over_le _ _ _ ?_) | (with_reducible refine le_alloc ?_ _) | (with_reducible refine le_setCell ?_ _ _) | (with_reducible refine le_put ?_ _ _) | (with_reducible refine le_drew ?_) | dsimp only | omega | ((try simp only [World.size_alloc, World.size_setCell, World.size_drew, size_put]); omega) | (simp; done)))) (by (first | omega | ((try simp only [World.size_alloc, World.size_setCell, World.size_drew, size_put]); omega))) hb; clear hb) | (go_at_call 12; refine (Hr.out _ (by (repeat' (first | (with_reducible exact Below.refl _ _) | (with_reducible exact Nat.le_refl _) | (with_reducible assumption) | (with_reducible refine below_step ?_ ?_ hr) | (with_reducible refine below_over ?_ ?_ _) | (with_reducible refine Below.alloc ?_ ?_ _) | (with_reducible refine Below.setCell ?_ ?_ _) | (with_reducible refine below_put ?_ ?_ _) | (with_reducible refine Below.drew ?_) | (with_reducible refine below_drewN_ ?_ _) | (with_reducible refine le_drewN ?_ _) | (with_reducible refine over_le _ _ _ ?_) | (with_reducible refine le_alloc ?_ _) | (with_reducible refine le_setCell ?_ _ _) | (with_reducible refine le_put ?_ _ _) | (with_reducible refine le_drew ?_) | dsimp only | omega | ((try simp only [World.size_alloc, World.size_setCell, World.size_drew, size_put]); omega) | (simp; done))))).mono ?_; rintro e w2 hg; obtain ⟨rfl, hb⟩ := hg.below; clear hg; have hz := hb.size; (try simp only [World.size_alloc, World.size_setCell, World.size_drew, size_put] at hz); have hB : Below w.heap.size w w2 := below_step (by (repeat' (first | (with_reducible exact Below.refl _ _) | (with_reducible exact Nat.le_refl _) | (with_reducible assumption) | (with_reducible refine below_step ?_ ?_ hr) | (with_reducible refine below_over ?_ ?_ _) | (with_reducible refine Below.alloc ?_ ?_ _) | (with_reducible refine Below.setCell ?_ ?_ _) | (with_reducible refine below_put ?_ ?_ _) | (with_reducible refine Below.drew ?_) | (with_reducible refine below_drewN_ ?_ _) | (with_reducible refine le_drewN ?_ _) | (with_reducible refine over_le _ _ _ ?_) | (with_reducible refine le_alloc ?_ _) | (with_reducible refine le_setCell ?_ _ _) | (with_reducible refine le_put ?_ _ _) | (with_reducible refine le_drew ?_) | dsimp only | omega | ((try simp only [World.size_alloc, World.size_setCell, World.size_drew, size_put]); omega) | (simp; done)))) (by (first | omega | ((try simp only [World.size_alloc, World.size_setCell, World.size_drew, size_put]); omega))) hb; clear hb))
  have hB2 := hB
  clear h40b
  go_wp2_with fail
  go_loopw [5, 6] (fun u i wr => ∃ (k : Nat) (now : List MS) (v : Sl), k ≤ m ∧ u = v.val ∧ i = .int .i64 k ∧ Hid (Rd wr MS.enc v now) ∧ Hid (right51 now = 0) ∧ Below w.heap.size w wr) (fun _ i _ => m - (intOf i).toNat)
  case atStart => exact ⟨0, l, ⟨A, n, c⟩, Nat.zero_le _, rfl, rfl, Hs.out.toW hB2, HR, hB2⟩
  case round =>
    obtain ⟨k, now, v, hk, rfl, rfl, HV, HN, hBr⟩ := hrel
    have hzr := hBr.size
    have hvl : now.length = v.n := HV.out.len
    have hv64 : v.n ≤ 64 := by have := (right_all HN.out).1; omega
    by_cases hlt : k < m
    · obtain ⟨b, off, ⟨kind, id, slide, by_, time, fr, till, worked, empty⟩, rfl, hbw, -, hc0, hc1, hc2, hc3, hc4, hc5, hc6, hc7, hc8⟩ := Ht.out.bop hlt
      have e0 := (hBr.cell (p := ⟨b, _, none⟩) hbw).trans hc0
      have e1 := (hBr.cell (p := ⟨b, _, none⟩) hbw).trans hc1
      have e2 := (hBr.cell (p := ⟨b, _, none⟩) hbw).trans hc2
      have e3 := (hBr.cell (p := ⟨b, _, none⟩) hbw).trans hc3
      have e4 := (hBr.cell (p := ⟨b, _, none⟩) hbw).trans hc4
      have e5 := (hBr.cell (p := ⟨b, _, none⟩) hbw).trans hc5
      have e6 := (hBr.cell (p := ⟨b, _, none⟩) hbw).trans hc6
      have e7 := (hBr.cell (p := ⟨b, _, none⟩) hbw).trans hc7
      have e8 := (hBr.cell (p := ⟨b, _, none⟩) hbw).trans hc8
      have Hdo := Lib.hid (fun w' (h : Below wr.heap.size wr w') => law51_do v now ⟨kind, id, slide, by_, time, fr, till, worked, empty⟩ w' (HV.out.toW h) (by omega) (fun y hy => (right_good HN.out y hy).since))
      have Hsame := Lib.hid (do_same (x := ⟨kind, id, slide, by_, time, fr, till, worked, empty⟩) HN.out)
      clear hc2 hc3 hc4 hc5 hc6 hc7 hc8
      cases hb : doB ⟨kind, id, slide, by_, time, fr, till, worked, empty⟩ now
      · rw [hb] at Hdo
        clear hb Hsame
        go_wp2_with (go_at_call 30; refine (Hdo.out _ (Below.refl _ _)).mono ?_; rintro e w3 ⟨v2, rfl, hb, hv⟩; clear hv; have hz := hb.size; (try simp only [World.size_alloc, World.size_setCell, World.size_drew, size_put] at hz); have hB : Below wr.heap.size wr w3 := below_step (by (repeat' (first | (with_reducible exact Below.refl _ _) | (with_reducible exact Nat.le_refl _) | (with_reducible assumption) | (with_reducible refine below_step ?_ ?_ hr) | (with_reducible refine below_over ?_ ?_ _) | (with_reducible refine Below.alloc ?_ ?_ _) | (with_reducible refine Below.setCell ?_ ?_ _) | (with_reducible refine below_put ?_ ?_ _) | (with_reducible refine Below.drew ?_) | (with_reducible refine below_drewN_ ?_ _) | (with_reducible refine le_drewN ?_ _) | (with_reducible refine over_le _ _ _ ?_) | (with_reducible refine le_alloc ?_ _) | (with_reducible refine le_setCell ?_ _ _) | (with_reducible refine le_put ?_ _ _) | (with_reducible refine le_drew ?_) | dsimp only | omega | ((try simp only [World.size_alloc, World.size_setCell, World.size_drew, size_put]); omega) | (simp; done)))) (by (first | omega | ((try simp only [World.size_alloc, World.size_setCell, World.size_drew, size_put]); omega))) hb; have HV := Lib.hid (HV.out.toW (below_step (by (repeat' (first | (with_reducible exact Below.refl _ _) | (with_reducible exact Nat.le_refl _) | (with_reducible assumption) | (with_reducible refine below_step ?_ ?_ hr) | (with_reducible refine below_over ?_ ?_ _) | (with_reducible refine Below.alloc ?_ ?_ _) | (with_reducible refine Below.setCell ?_ ?_ _) | (with_reducible refine below_put ?_ ?_ _) | (with_reducible refine Below.drew ?_) | (with_reducible refine below_drewN_ ?_ _) | (with_reducible refine le_drewN ?_ _) | (with_reducible refine over_le _ _ _ ?_) | (with_reducible refine le_alloc ?_ _) | (with_reducible refine le_setCell ?_ _ _) | (with_reducible refine le_put ?_ _ _) | (with_reducible refine le_drew ?_) | dsimp only | omega | ((try simp only [World.size_alloc, World.size_setCell, World.size_drew, size_put]); omega) | (simp; done)))) (by (first | omega | ((try simp only [World.size_alloc, World.size_setCell, World.size_drew, size_put]); omega))) hb)); clear hb)
        have hBr3 : Below w.heap.size w w3 := hBr.trans (hB.mono hzr)
        go_roundw
        case rel => exact ⟨k + 1, now, v, by omega, rfl, by go_num, HV, HN, by go_light; (repeat' (first | (with_reducible exact Below.refl _ _) | (with_reducible exact Nat.le_refl _) | (with_reducible assumption) | (with_reducible refine below_step ?_ ?_ hr) | (with_reducible refine below_over ?_ ?_ _) | (with_reducible refine Below.alloc ?_ ?_ _) | (with_reducible refine Below.setCell ?_ ?_ _) | (with_reducible refine below_put ?_ ?_ _) | (with_reducible refine Below.drew ?_) | (with_reducible refine below_drewN_ ?_ _) | (with_reducible refine le_drewN ?_ _) | (with_reducible refine over_le _ _ _ ?_) | (with_reducible refine le_alloc ?_ _) | (with_reducible refine le_setCell ?_ _ _) | (with_reducible refine le_put ?_ _ _) | (with_reducible refine le_drew ?_) | dsimp only | omega | ((try simp only [World.size_alloc, World.size_setCell, World.size_drew, size_put]); omega) | (simp; done)))⟩
        case measure => (simp [intOf] <;> omega)
      · have Hsm := Lib.hid (Hsame.out hb)
        rw [hb] at Hdo
        clear hb Hsame
        generalize doL ⟨kind, id, slide, by_, time, fr, till, worked, empty⟩ now = NX at Hdo Hsm
        go_upto_region 11 with (go_at_call 30; refine (Hdo.out _ (Below.refl _ _)).mono ?_; rintro e w3 ⟨v2, rfl, hb, hv⟩; have H2 := Lib.hid hv; clear hv; have hz := hb.size; (try simp only [World.size_alloc, World.size_setCell, World.size_drew, size_put] at hz); have hB : Below wr.heap.size wr w3 := below_step (by (repeat' (first | (with_reducible exact Below.refl _ _) | (with_reducible exact Nat.le_refl _) | (with_reducible assumption) | (with_reducible refine below_step ?_ ?_ hr) | (with_reducible refine below_over ?_ ?_ _) | (with_reducible refine Below.alloc ?_ ?_ _) | (with_reducible refine Below.setCell ?_ ?_ _) | (with_reducible refine below_put ?_ ?_ _) | (with_reducible refine Below.drew ?_) | (with_reducible refine below_drewN_ ?_ _) | (with_reducible refine le_drewN ?_ _) | (with_reducible refine over_le _ _ _ ?_) | (with_reducible refine le_alloc ?_ _) | (with_reducible refine le_setCell ?_ _ _) | (with_reducible refine le_put ?_ _ _) | (with_reducible refine le_drew ?_) | dsimp only | omega | ((try simp only [World.size_alloc, World.size_setCell, World.size_drew, size_put]); omega) | (simp; done)))) (by (first | omega | ((try simp only [World.size_alloc, World.size_setCell, World.size_drew, size_put]); omega))) hb; have HV := Lib.hid (HV.out.toW (below_step (by (repeat' (first | (with_reducible exact Below.refl _ _) | (with_reducible exact Nat.le_refl _) | (with_reducible assumption) | (with_reducible refine below_step ?_ ?_ hr) | (with_reducible refine below_over ?_ ?_ _) | (with_reducible refine Below.alloc ?_ ?_ _) | (with_reducible refine Below.setCell ?_ ?_ _) | (with_reducible refine below_put ?_ ?_ _) | (with_reducible refine Below.drew ?_) | (with_reducible refine below_drewN_ ?_ _) | (with_reducible refine le_drewN ?_ _) | (with_reducible refine over_le _ _ _ ?_) | (with_reducible refine le_alloc ?_ _) | (with_reducible refine le_setCell ?_ _ _) | (with_reducible refine le_put ?_ _ _) | (with_reducible refine le_drew ?_) | dsimp only | omega | ((try simp only [World.size_alloc, World.size_setCell, World.size_drew, size_put]); omega) | (simp; done)))) (by (first | omega | ((try simp only [World.size_alloc, World.size_setCell, World.size_drew, size_put]); omega))) hb)); clear hb)
        have hBr3 : Below w.heap.size w w3 := hBr.trans (hB.mono hzr)
        have hz3 := hBr3.size
        clear e0 e1 e2 e3 e4 e5 e6 e7 e8 Hdo
        have e0 := (hBr3.cell (p := ⟨b, _, none⟩) hbw).trans hc0
        obtain ⟨hnx, hlen, -⟩ := Hsm.out
        have h2l : NX.length = v2.n := H2.out.len
        have q1 : decide (v2.n < v.n) = false := by simp; omega
        have q2 : decide (v.n + 1 < v2.n) = false := by simp; omega
        have q3 : decide (v.n < v2.n) = (kind == 0) := by
          rcases hlen with ⟨g1, g2⟩ | ⟨g1, g2⟩
          · rw [show (kind == 0) = true from g1]; simp; omega
          · rw [show (kind == 0) = false from g1]; simp; omega
        have q1' : decide ((v2.n : Int) < (v.n : Int)) = false := by simp; omega
        have q2' : decide ((v.n : Int) + 1 < (v2.n : Int)) = false := by simp; omega
        have q3' : decide ((v.n : Int) < (v2.n : Int)) = (kind == 0) := by rw [← q3]; simp
        have q4 : ((kind == 0) != (kind == 0)) = false := by simp
        have hvn1 : (v.n : Int) + 1 ≤ 9223372036854775807 := by omega
        have Hnx := Lib.hid hnx
        clear hnx hlen
        go_upto_region 13 with ((go_at_call 12; refine (right_51 v2 NX _ Hnx.out H2.out).mono ?_; rintro e w4 hg; obtain ⟨rfl, hb⟩ := hg.below; clear hg; have hz := hb.size; (try simp only [World.size_alloc, World.size_setCell, World.size_drew, size_put] at hz); have hB : Below w3.heap.size w3 w4 := below_step (by (repeat' (first | (with_reducible exact Below.refl _ _) | (with_reducible exact Nat.le_refl _) | (with_reducible assumption) | (with_reducible refine below_step ?_ ?_ hr) | (with_reducible refine below_over ?_ ?_ _) | (with_reducible refine Below.alloc ?_ ?_ _) | (with_reducible refine Below.setCell ?_ ?_ _) | (with_reducible refine below_put ?_ ?_ _) | (with_reducible refine Below.drew ?_) | (with_reducible refine below_drewN_ ?_ _) | (with_reducible refine le_drewN ?_ _) | (with_reducible refine over_le _ _ _ ?_) | (with_reducible refine le_alloc ?_ _) | (with_reducible refine le_setCell ?_ _ _) | (with_reducible refine le_put ?_ _ _) | (with_reducible refine le_drew ?_) | dsimp only | omega | ((try simp only [World.size_alloc, World.size_setCell, World.size_drew, size_put]); omega) | (simp; done)))) (by (first | omega | ((try simp only [World.size_alloc, World.size_setCell, World.size_drew, size_put]); omega))) hb; have HV := Lib.hid (HV.out.toW (below_step (by (repeat' (first | (with_reducible exact Below.refl _ _) | (with_reducible exact Nat.le_refl _) | (with_reducible assumption) | (with_reducible refine below_step ?_ ?_ hr) | (with_reducible refine below_over ?_ ?_ _) | (with_reducible refine Below.alloc ?_ ?_ _) | (with_reducible refine Below.setCell ?_ ?_ _) | (with_reducible refine below_put ?_ ?_ _) | (with_reducible refine Below.drew ?_) | (with_reducible refine below_drewN_ ?_ _) | (with_reducible refine le_drewN ?_ _) | (with_reducible refine over_le _ _ _ ?_) | (with_reducible refine le_alloc ?_ _) | (with_reducible refine le_setCell ?_ _ _) | (with_reducible refine le_put ?_ _ _) | (with_reducible refine le_drew ?_) | dsimp only | omega | ((try simp only [World.size_alloc, World.size_setCell, World.size_drew, size_put]); omega) | (simp; done)))) (by (first | omega | ((try simp only [World.size_alloc, World.size_setCell, World.size_drew, size_put]); omega))) hb)); have H2 := Lib.hid (H2.out.toW (below_step (by (repeat' (first | (with_reducible exact Below.refl _ _) | (with_reducible exact Nat.le_refl _) | (with_reducible assumption) | (with_reducible refine below_step ?_ ?_ hr) | (with_reducible refine below_over ?_ ?_ _) | (with_reducible refine Below.alloc ?_ ?_ _) | (with_reducible refine Below.setCell ?_ ?_ _) | (with_reducible refine below_put ?_ ?_ _) | (with_reducible refine Below.drew ?_) | (with_reducible refine below_drewN_ ?_ _) | (with_reducible refine le_drewN ?_ _) | (with_reducible refine over_le _ _ _ ?_) | (with_reducible refine le_alloc ?_ _) | (with_reducible refine le_setCell ?_ _ _) | (with_reducible refine le_put ?_ _ _) | (with_reducible refine le_drew ?_) | dsimp only | omega | ((try simp only [World.size_alloc, World.size_setCell, World.size_drew, size_put]); omega) | (simp; done)))) (by (first | omega | ((try simp only [World.size_alloc, World.size_setCell, World.size_drew, size_put]); omega))) hb)); clear hb); have hBr4 : Below w.heap.size w w4 := (hBr3.trans (hB.mono hz3)); have e0 := (hBr4.cell (p := ⟨b, _, none⟩) hbw).trans hc0)
        obtain ⟨V, p, vc⟩ := v
        obtain ⟨V2, p2, vc2⟩ := v2
        dsimp only [Sl.val] at *
        have hp2 : p ≤ p2 := by have := q1; simp at this; omega
        clear q1 q2 q3 q1' q2' q3' q4
        have hz4 := hBr4.size
        have Hc1 := (hBr4.cell (p := ⟨b, _, none⟩) hbw).trans hc1
        go_wp2_with fail
        go_loopw [9] (fun i ws => ∃ (j : Nat), j ≤ p ∧ i = .int .i64 j ∧ Below w4.heap.size w4 ws) (fun i _ => p - (intOf i).toNat)
        case atStart => exact ⟨0, Nat.zero_le _, rfl, Below.refl _ _⟩
        case round =>
          obtain ⟨j, hj, rfl, hBs⟩ := hrel
          have hzs := hBs.size
          by_cases hlj : j < p
          · obtain ⟨b1, o1, a, rfl, hw1, -, hg1, g0, g1, g2, g3, g4, g5, g6⟩ := HV.out.ms hlj
            obtain ⟨b2, o2, a2, rfl, hw2, -, hg2, f0, f1, f2, f3, f4, f5, f6⟩ := H2.out.ms (show j < p2 by omega)
            obtain ⟨st, t, hN, hst⟩ := Hsm.out.2.2 j a hg1.out
            obtain rfl : a2 = ⟨a.id, a.slide, a.by_, st, t, a.fr, a.till⟩ := Option.some.inj (hg2.out.symm.trans hN)
            have Hst := Lib.hid hst
            obtain ⟨ai, asl, ab, ast, asi, afr, atl⟩ := a
            clear hst hN hg1 hg2
            dsimp only at g0 g1 g2 g3 g4 g5 g6 f0 f1 f2 f3 f4 f5 f6 Hst
            have g0 := (hBs.cell (p := ⟨b1, _, none⟩) hw1).trans g0
            have g1 := (hBs.cell (p := ⟨b1, _, none⟩) hw1).trans g1
            have g2 := (hBs.cell (p := ⟨b1, _, none⟩) hw1).trans g2
            have g3 := (hBs.cell (p := ⟨b1, _, none⟩) hw1).trans g3
            have g4 := (hBs.cell (p := ⟨b1, _, none⟩) hw1).trans g4
            have g5 := (hBs.cell (p := ⟨b1, _, none⟩) hw1).trans g5
            have g6 := (hBs.cell (p := ⟨b1, _, none⟩) hw1).trans g6
            have f0 := (hBs.cell (p := ⟨b2, _, none⟩) hw2).trans f0
            have f1 := (hBs.cell (p := ⟨b2, _, none⟩) hw2).trans f1
            have f2 := (hBs.cell (p := ⟨b2, _, none⟩) hw2).trans f2
            have f3 := (hBs.cell (p := ⟨b2, _, none⟩) hw2).trans f3
            have f4 := (hBs.cell (p := ⟨b2, _, none⟩) hw2).trans f4
            have f5 := (hBs.cell (p := ⟨b2, _, none⟩) hw2).trans f5
            have f6 := (hBs.cell (p := ⟨b2, _, none⟩) hw2).trans f6
            have hj2 : j < p2 := by omega
            clear e0
            go_upto_region 16 with fail
            go_cut [10, 11] (fun c10 c11 wx => ∃ B1 B2, c10 = .pointer (some ⟨B1, 0, none⟩) ∧ c11 = .pointer (some ⟨B2, 0, none⟩) ∧ Below wr.heap.size wr wx ∧ Hid (wx.heap[B1]? = some (msB ⟨ai, asl, ab, ast, asi, afr, atl⟩)) ∧ Hid (wx.heap[B2]? = some (msB ⟨ai, asl, ab, st, t, afr, atl⟩)))
            case first =>
              refine wp_region_ord (by kernel_rfl) (fun wx hr => ?_)
              simp only [List.length_cons, List.length_nil, Nat.reduceAdd]
              have hzx := hr.size
              have g0 := (hr.cell (p := ⟨b1, _, none⟩) (Nat.lt_of_lt_of_le hw1 hzs)).trans g0
              have g1 := (hr.cell (p := ⟨b1, _, none⟩) (Nat.lt_of_lt_of_le hw1 hzs)).trans g1
              have g2 := (hr.cell (p := ⟨b1, _, none⟩) (Nat.lt_of_lt_of_le hw1 hzs)).trans g2
              have g3 := (hr.cell (p := ⟨b1, _, none⟩) (Nat.lt_of_lt_of_le hw1 hzs)).trans g3
              have g4 := (hr.cell (p := ⟨b1, _, none⟩) (Nat.lt_of_lt_of_le hw1 hzs)).trans g4
              have g5 := (hr.cell (p := ⟨b1, _, none⟩) (Nat.lt_of_lt_of_le hw1 hzs)).trans g5
              have g6 := (hr.cell (p := ⟨b1, _, none⟩) (Nat.lt_of_lt_of_le hw1 hzs)).trans g6
              have f0 := (hr.cell (p := ⟨b2, _, none⟩) (Nat.lt_of_lt_of_le hw2 hzs)).trans f0
              have f1 := (hr.cell (p := ⟨b2, _, none⟩) (Nat.lt_of_lt_of_le hw2 hzs)).trans f1
              have f2 := (hr.cell (p := ⟨b2, _, none⟩) (Nat.lt_of_lt_of_le hw2 hzs)).trans f2
              have f3 := (hr.cell (p := ⟨b2, _, none⟩) (Nat.lt_of_lt_of_le hw2 hzs)).trans f3
              have f4 := (hr.cell (p := ⟨b2, _, none⟩) (Nat.lt_of_lt_of_le hw2 hzs)).trans f4
              have f5 := (hr.cell (p := ⟨b2, _, none⟩) (Nat.lt_of_lt_of_le hw2 hzs)).trans f5
              have f6 := (hr.cell (p := ⟨b2, _, none⟩) (Nat.lt_of_lt_of_le hw2 hzs)).trans f6
              refine wpAnyH_one 0 rfl rfl (by kernel_rfl) (by kernel_rfl) (fun _ _ _ _ _ h => h) (over_ex (by go_light; (repeat' (first | (with_reducible exact Below.refl _ _) | (with_reducible exact Nat.le_refl _) | (with_reducible assumption) | (with_reducible refine below_step ?_ ?_ hr) | (with_reducible refine below_over ?_ ?_ _) | (with_reducible refine Below.alloc ?_ ?_ _) | (with_reducible refine Below.setCell ?_ ?_ _) | (with_reducible refine below_put ?_ ?_ _) | (with_reducible refine Below.drew ?_) | (with_reducible refine below_drewN_ ?_ _) | (with_reducible refine le_drewN ?_ _) | (with_reducible refine over_le _ _ _ ?_) | (with_reducible refine le_alloc ?_ _) | (with_reducible refine le_setCell ?_ _ _) | (with_reducible refine le_put ?_ _ _) | (with_reducible refine le_drew ?_) | dsimp only | omega | ((try simp only [World.size_alloc, World.size_setCell, World.size_drew, size_put]); omega) | (simp; done))))) ?_
              (first | go_big_quiet_step (fail) | quiet_step (fail))
              refine wpQuiet_nil ?_
              refine wpAnyH_one 1 rfl rfl (by kernel_rfl) (by kernel_rfl) (fun _ _ _ _ _ h => h) (over_ex (by go_light; (repeat' (first | (with_reducible exact Below.refl _ _) | (with_reducible exact Nat.le_refl _) | (with_reducible assumption) | (with_reducible refine below_step ?_ ?_ hr) | (with_reducible refine below_over ?_ ?_ _) | (with_reducible refine Below.alloc ?_ ?_ _) | (with_reducible refine Below.setCell ?_ ?_ _) | (with_reducible refine below_put ?_ ?_ _) | (with_reducible refine Below.drew ?_) | (with_reducible refine below_drewN_ ?_ _) | (with_reducible refine le_drewN ?_ _) | (with_reducible refine over_le _ _ _ ?_) | (with_reducible refine le_alloc ?_ _) | (with_reducible refine le_setCell ?_ _ _) | (with_reducible refine le_put ?_ _ _) | (with_reducible refine le_drew ?_) | dsimp only | omega | ((try simp only [World.size_alloc, World.size_setCell, World.size_drew, size_put]); omega) | (simp; done))))) ?_
              (first | go_big_quiet_step (fail) | quiet_step (fail))
              refine wpQuiet_nil ?_
              refine wpAnyH_one 2 rfl rfl (by kernel_rfl) (by kernel_rfl) (fun _ _ _ _ _ h => h) (over_ex (by go_light; (repeat' (first | (with_reducible exact Below.refl _ _) | (with_reducible exact Nat.le_refl _) | (with_reducible assumption) | (with_reducible refine below_step ?_ ?_ hr) | (with_reducible refine below_over ?_ ?_ _) | (with_reducible refine Below.alloc ?_ ?_ _) | (with_reducible refine Below.setCell ?_ ?_ _) | (with_reducible refine below_put ?_ ?_ _) | (with_reducible refine Below.drew ?_) | (with_reducible refine below_drewN_ ?_ _) | (with_reducible refine le_drewN ?_ _) | (with_reducible refine over_le _ _ _ ?_) | (with_reducible refine le_alloc ?_ _) | (with_reducible refine le_setCell ?_ _ _) | (with_reducible refine le_put ?_ _ _) | (with_reducible refine le_drew ?_) | dsimp only | omega | ((try simp only [World.size_alloc, World.size_setCell, World.size_drew, size_put]); omega) | (simp; done))))) ?_
              (first | go_big_quiet_step (fail) | quiet_step (fail))
              refine wpQuiet_nil ?_
              refine wpAnyH_one 3 rfl rfl (by kernel_rfl) (by kernel_rfl) (fun _ _ _ _ _ h => h) (over_ex (by go_light; (repeat' (first | (with_reducible exact Below.refl _ _) | (with_reducible exact Nat.le_refl _) | (with_reducible assumption) | (with_reducible refine below_step ?_ ?_ hr) | (with_reducible refine below_over ?_ ?_ _) | (with_reducible refine Below.alloc ?_ ?_ _) | (with_reducible refine Below.setCell ?_ ?_ _) | (with_reducible refine below_put ?_ ?_ _) | (with_reducible refine Below.drew ?_) | (with_reducible refine below_drewN_ ?_ _) | (with_reducible refine le_drewN ?_ _) | (with_reducible refine over_le _ _ _ ?_) | (with_reducible refine le_alloc ?_ _) | (with_reducible refine le_setCell ?_ _ _) | (with_reducible refine le_put ?_ _ _) | (with_reducible refine le_drew ?_) | dsimp only | omega | ((try simp only [World.size_alloc, World.size_setCell, World.size_drew, size_put]); omega) | (simp; done))))) ?_
              (first | go_big_quiet_step (fail) | quiet_step (fail))
              refine wpQuiet_nil ?_
              refine wpAnyH_one 4 rfl rfl (by kernel_rfl) (by kernel_rfl) (fun _ _ _ _ _ h => h) (over_ex (by go_light; (repeat' (first | (with_reducible exact Below.refl _ _) | (with_reducible exact Nat.le_refl _) | (with_reducible assumption) | (with_reducible refine below_step ?_ ?_ hr) | (with_reducible refine below_over ?_ ?_ _) | (with_reducible refine Below.alloc ?_ ?_ _) | (with_reducible refine Below.setCell ?_ ?_ _) | (with_reducible refine below_put ?_ ?_ _) | (with_reducible refine Below.drew ?_) | (with_reducible refine below_drewN_ ?_ _) | (with_reducible refine le_drewN ?_ _) | (with_reducible refine over_le _ _ _ ?_) | (with_reducible refine le_alloc ?_ _) | (with_reducible refine le_setCell ?_ _ _) | (with_reducible refine le_put ?_ _ _) | (with_reducible refine le_drew ?_) | dsimp only | omega | ((try simp only [World.size_alloc, World.size_setCell, World.size_drew, size_put]); omega) | (simp; done))))) ?_
              (first | go_big_quiet_step (fail) | quiet_step (fail))
              refine wpQuiet_nil ?_
              refine wpAnyH_one 5 rfl rfl (by kernel_rfl) (by kernel_rfl) (fun _ _ _ _ _ h => h) (over_ex (by go_light; (repeat' (first | (with_reducible exact Below.refl _ _) | (with_reducible exact Nat.le_refl _) | (with_reducible assumption) | (with_reducible refine below_step ?_ ?_ hr) | (with_reducible refine below_over ?_ ?_ _) | (with_reducible refine Below.alloc ?_ ?_ _) | (with_reducible refine Below.setCell ?_ ?_ _) | (with_reducible refine below_put ?_ ?_ _) | (with_reducible refine Below.drew ?_) | (with_reducible refine below_drewN_ ?_ _) | (with_reducible refine le_drewN ?_ _) | (with_reducible refine over_le _ _ _ ?_) | (with_reducible refine le_alloc ?_ _) | (with_reducible refine le_setCell ?_ _ _) | (with_reducible refine le_put ?_ _ _) | (with_reducible refine le_drew ?_) | dsimp only | omega | ((try simp only [World.size_alloc, World.size_setCell, World.size_drew, size_put]); omega) | (simp; done))))) ?_
              (first | go_big_quiet_step (fail) | quiet_step (fail))
              refine wpQuiet_nil ?_
              refine wpAnyH_one 6 rfl rfl (by kernel_rfl) (by kernel_rfl) (fun _ _ _ _ _ h => h) (over_ex (by go_light; (repeat' (first | (with_reducible exact Below.refl _ _) | (with_reducible exact Nat.le_refl _) | (with_reducible assumption) | (with_reducible refine below_step ?_ ?_ hr) | (with_reducible refine below_over ?_ ?_ _) | (with_reducible refine Below.alloc ?_ ?_ _) | (with_reducible refine Below.setCell ?_ ?_ _) | (with_reducible refine below_put ?_ ?_ _) | (with_reducible refine Below.drew ?_) | (with_reducible refine below_drewN_ ?_ _) | (with_reducible refine le_drewN ?_ _) | (with_reducible refine over_le _ _ _ ?_) | (with_reducible refine le_alloc ?_ _) | (with_reducible refine le_setCell ?_ _ _) | (with_reducible refine le_put ?_ _ _) | (with_reducible refine le_drew ?_) | dsimp only | omega | ((try simp only [World.size_alloc, World.size_setCell, World.size_drew, size_put]); omega) | (simp; done))))) ?_
              (first | go_big_quiet_step (fail) | quiet_step (fail))
              refine wpQuiet_nil ?_
              refine wpAnyH_one 7 rfl rfl (by kernel_rfl) (by kernel_rfl) (fun _ _ _ _ _ h => h) (over_ex (by go_light; (repeat' (first | (with_reducible exact Below.refl _ _) | (with_reducible exact Nat.le_refl _) | (with_reducible assumption) | (with_reducible refine below_step ?_ ?_ hr) | (with_reducible refine below_over ?_ ?_ _) | (with_reducible refine Below.alloc ?_ ?_ _) | (with_reducible refine Below.setCell ?_ ?_ _) | (with_reducible refine below_put ?_ ?_ _) | (with_reducible refine Below.drew ?_) | (with_reducible refine below_drewN_ ?_ _) | (with_reducible refine le_drewN ?_ _) | (with_reducible refine over_le _ _ _ ?_) | (with_reducible refine le_alloc ?_ _) | (with_reducible refine le_setCell ?_ _ _) | (with_reducible refine le_put ?_ _ _) | (with_reducible refine le_drew ?_) | dsimp only | omega | ((try simp only [World.size_alloc, World.size_setCell, World.size_drew, size_put]); omega) | (simp; done))))) ?_
              (first | go_big_quiet_step (fail) | quiet_step (fail))
              refine wpQuiet_nil ?_
              clear g0 g1 g2 g3 g4 g5 g6 f0 f1 f2 f3 f4 f5 f6
              refine wpAnyH_two 8 9 (by kernel_rfl) ?_ ?_
              · refine wpOp_at (k := 8) rfl (fun K hK => ?_)
                go_simp
                refine hK _ _ (over_ex (by go_light; (repeat' (first | (with_reducible exact Below.refl _ _) | (with_reducible exact Nat.le_refl _) | (with_reducible assumption) | (with_reducible refine below_step ?_ ?_ hr) | (with_reducible refine below_over ?_ ?_ _) | (with_reducible refine Below.alloc ?_ ?_ _) | (with_reducible refine Below.setCell ?_ ?_ _) | (with_reducible refine below_put ?_ ?_ _) | (with_reducible refine Below.drew ?_) | (with_reducible refine below_drewN_ ?_ _) | (with_reducible refine le_drewN ?_ _) | (with_reducible refine over_le _ _ _ ?_) | (with_reducible refine le_alloc ?_ _) | (with_reducible refine le_setCell ?_ _ _) | (with_reducible refine le_put ?_ _ _) | (with_reducible refine le_drew ?_) | dsimp only | omega | ((try simp only [World.size_alloc, World.size_setCell, World.size_drew, size_put]); omega) | (simp; done))))) ?_
                clear hK K
                refine any_letter (fun x1 hb => ?_)
                have QA := (hb.block wx.heap.size (by (first | omega | ((try simp only [World.size_alloc, World.size_setCell, World.size_drew, size_put]); omega)))).trans ((alloc_block_if _ _ _).trans (if_pos rfl))
                have hb2 : Below wx.heap.size wx x1 := below_step (Below.alloc (Below.refl _ _) (Nat.le_refl _) _) (by simp only [World.size_alloc]; omega) hb
                have hs_x1 := hb.size
                simp only [World.size_alloc] at hs_x1
                have hr := hr.trans (hb2.mono hr.size)
                clear hb hb2
                refine wpAnyH_sole 9 rfl (by kernel_rfl) (fun K hK => ?_)
                go_simp
                refine hK _ _ (over_ex (by go_light; (repeat' (first | (with_reducible exact Below.refl _ _) | (with_reducible exact Nat.le_refl _) | (with_reducible assumption) | (with_reducible refine below_step ?_ ?_ hr) | (with_reducible refine below_over ?_ ?_ _) | (with_reducible refine Below.alloc ?_ ?_ _) | (with_reducible refine Below.setCell ?_ ?_ _) | (with_reducible refine below_put ?_ ?_ _) | (with_reducible refine Below.drew ?_) | (with_reducible refine below_drewN_ ?_ _) | (with_reducible refine le_drewN ?_ _) | (with_reducible refine over_le _ _ _ ?_) | (with_reducible refine le_alloc ?_ _) | (with_reducible refine le_setCell ?_ _ _) | (with_reducible refine le_put ?_ _ _) | (with_reducible refine le_drew ?_) | dsimp only | omega | ((try simp only [World.size_alloc, World.size_setCell, World.size_drew, size_put]); omega) | (simp; done))))) ?_
                clear hK K
                refine any_letter (fun x2 hb => ?_)
                have QB := (hb.block x1.heap.size (by (first | omega | ((try simp only [World.size_alloc, World.size_setCell, World.size_drew, size_put]); omega)))).trans ((alloc_block_if _ _ _).trans (if_pos rfl))
                have hb2 : Below x1.heap.size x1 x2 := below_step (Below.alloc (Below.refl _ _) (Nat.le_refl _) _) (by simp only [World.size_alloc]; omega) hb
                have QA := (hb2.block _ (by omega)).trans QA
                have hs_x2 := hb.size
                simp only [World.size_alloc] at hs_x2
                have hr := hr.trans (hb2.mono hr.size)
                clear hb hb2
                have LA : wx.heap.size < x2.heap.size := by omega
                have LB : x1.heap.size < x2.heap.size := by omega
                have hne : ¬ wx.heap.size = x1.heap.size := by omega
                have hne2 : ¬ x1.heap.size = wx.heap.size := by omega
                have QA' := fun (o : Obj) => (put_block_if x2 (x1.heap.size) (wx.heap.size) o LB).trans ((if_neg hne).trans QA)
                rw [← put_self QB, ← put_self (QA' _)]
                refine wpAnyH_sole 10 rfl (by kernel_rfl) (fun K hK => ?_)
                go_simp
                refine hK _ _ (over_ex (below_put (below_put hr (by omega) _) (by omega) _)) ?_
                clear hK K
                refine wpAnyH_sole 11 rfl (by kernel_rfl) (fun K hK => ?_)
                go_simp
                refine hK _ _ (over_ex (below_put (below_put hr (by omega) _) (by omega) _)) ?_
                clear hK K
                refine wpAnyH_done (by kernel_rfl) ?_ _
                go_wp2_with fail
                go_meet
                case rel => exact ⟨_, _, rfl, rfl, by go_light; exact below_put (below_put hr (by omega) _) (by omega) _, (put_block_if _ _ _ _ (by rw [size_put]; exact LA)).trans (if_pos rfl), (put_block_if _ _ _ _ (by rw [size_put]; exact LA)).trans ((if_neg hne2).trans ((put_block_if _ _ _ _ LB).trans (if_pos rfl)))⟩
              · refine wpOp_at (k := 9) rfl (fun K hK => ?_)
                go_simp
                refine hK _ _ (over_ex (by go_light; (repeat' (first | (with_reducible exact Below.refl _ _) | (with_reducible exact Nat.le_refl _) | (with_reducible assumption) | (with_reducible refine below_step ?_ ?_ hr) | (with_reducible refine below_over ?_ ?_ _) | (with_reducible refine Below.alloc ?_ ?_ _) | (with_reducible refine Below.setCell ?_ ?_ _) | (with_reducible refine below_put ?_ ?_ _) | (with_reducible refine Below.drew ?_) | (with_reducible refine below_drewN_ ?_ _) | (with_reducible refine le_drewN ?_ _) | (with_reducible refine over_le _ _ _ ?_) | (with_reducible refine le_alloc ?_ _) | (with_reducible refine le_setCell ?_ _ _) | (with_reducible refine le_put ?_ _ _) | (with_reducible refine le_drew ?_) | dsimp only | omega | ((try simp only [World.size_alloc, World.size_setCell, World.size_drew, size_put]); omega) | (simp; done))))) ?_
                clear hK K
                refine any_letter (fun x3 hb => ?_)
                have QB := (hb.block wx.heap.size (by (first | omega | ((try simp only [World.size_alloc, World.size_setCell, World.size_drew, size_put]); omega)))).trans ((alloc_block_if _ _ _).trans (if_pos rfl))
                have hb2 : Below wx.heap.size wx x3 := below_step (Below.alloc (Below.refl _ _) (Nat.le_refl _) _) (by simp only [World.size_alloc]; omega) hb
                have hs_x3 := hb.size
                simp only [World.size_alloc] at hs_x3
                have hr := hr.trans (hb2.mono hr.size)
                clear hb hb2
                refine wpAnyH_sole 8 rfl (by kernel_rfl) (fun K hK => ?_)
                go_simp
                refine hK _ _ (over_ex (by go_light; (repeat' (first | (with_reducible exact Below.refl _ _) | (with_reducible exact Nat.le_refl _) | (with_reducible assumption) | (with_reducible refine below_step ?_ ?_ hr) | (with_reducible refine below_over ?_ ?_ _) | (with_reducible refine Below.alloc ?_ ?_ _) | (with_reducible refine Below.setCell ?_ ?_ _) | (with_reducible refine below_put ?_ ?_ _) | (with_reducible refine Below.drew ?_) | (with_reducible refine below_drewN_ ?_ _) | (with_reducible refine le_drewN ?_ _) | (with_reducible refine over_le _ _ _ ?_) | (with_reducible refine le_alloc ?_ _) | (with_reducible refine le_setCell ?_ _ _) | (with_reducible refine le_put ?_ _ _) | (with_reducible refine le_drew ?_) | dsimp only | omega | ((try simp only [World.size_alloc, World.size_setCell, World.size_drew, size_put]); omega) | (simp; done))))) ?_
                clear hK K
                refine any_letter (fun x4 hb => ?_)
                have QA := (hb.block x3.heap.size (by (first | omega | ((try simp only [World.size_alloc, World.size_setCell, World.size_drew, size_put]); omega)))).trans ((alloc_block_if _ _ _).trans (if_pos rfl))
                have hb2 : Below x3.heap.size x3 x4 := below_step (Below.alloc (Below.refl _ _) (Nat.le_refl _) _) (by simp only [World.size_alloc]; omega) hb
                have QB := (hb2.block _ (by omega)).trans QB
                have hs_x4 := hb.size
                simp only [World.size_alloc] at hs_x4
                have hr := hr.trans (hb2.mono hr.size)
                clear hb hb2
                have LA : x3.heap.size < x4.heap.size := by omega
                have LB : wx.heap.size < x4.heap.size := by omega
                have hne : ¬ x3.heap.size = wx.heap.size := by omega
                have hne2 : ¬ wx.heap.size = x3.heap.size := by omega
                have QA' := fun (o : Obj) => (put_block_if x4 (wx.heap.size) (x3.heap.size) o LB).trans ((if_neg hne).trans QA)
                rw [← put_self QB, ← put_self (QA' _)]
                refine wpAnyH_sole 10 rfl (by kernel_rfl) (fun K hK => ?_)
                go_simp
                refine hK _ _ (over_ex (below_put (below_put hr (by omega) _) (by omega) _)) ?_
                clear hK K
                refine wpAnyH_sole 11 rfl (by kernel_rfl) (fun K hK => ?_)
                go_simp
                refine hK _ _ (over_ex (below_put (below_put hr (by omega) _) (by omega) _)) ?_
                clear hK K
                refine wpAnyH_done (by kernel_rfl) ?_ _
                go_wp2_with fail
                go_meet
                case rel => exact ⟨_, _, rfl, rfl, by go_light; exact below_put (below_put hr (by omega) _) (by omega) _, (put_block_if _ _ _ _ (by rw [size_put]; exact LA)).trans (if_pos rfl), (put_block_if _ _ _ _ (by rw [size_put]; exact LA)).trans ((if_neg hne2).trans ((put_block_if _ _ _ _ LB).trans (if_pos rfl)))⟩
            case rest =>
              obtain ⟨B1, B2, rfl, rfl, hBx, hA1, hA2⟩ := hcut
              have hzc := hBx.size
              have hBc4 : Below w4.heap.size w4 wc := hBs.trans (hBx.mono hzs)
              have Ec := (hBc4.cell (p := ⟨b, _, none⟩) (Nat.lt_of_lt_of_le hbw hz4)).trans Hc1
              have qa := hA1.out
              dsimp only [msB] at qa
              have LB1 := (Array.getElem?_eq_some_iff.1 qa).1
              have q1 := cell_of_block qa
              have qb := hA2.out
              dsimp only [msB] at qb
              have LB2 := (Array.getElem?_eq_some_iff.1 qb).1
              have q2 := cell_of_block qb
              have Lb : b < wc.heap.size := by omega
              clear g0 g1 g2 g3 g4 g5 g6 f0 f1 f2 f3 f4 f5 f6 hA1 hA2 qa qb
              have y1 : (ai != ai) = false := by simp
              have y2 : (asl != asl) = false := by simp
              have y3 : (ab != ab) = false := by simp
              cases hid : (ai != id)
              · clear Hst
                go_upto_region 17 with fail
                all_goals refine wp_region_over (by kernel_rfl) (by kernel_rfl) ?_
                repeat (any_goals (first | go_big_quiet_step ((fail)) | (refine wpQuiet_step (fun K hK => ?_); go_simp; split <;> (refine hK _ ?_; clear hK K)) | quiet_step ((fail))))
                all_goals (refine wpQuiet_nil ?_; intro w9 hw'; have hb := below_of_ex hw'; clear hw'; have hz := hb.size; (try simp only [World.size_alloc, World.size_setCell, World.size_drew, size_put] at hz); have hB : Below wc.heap.size wc w9 := below_step (by (repeat' (first | (with_reducible exact Below.refl _ _) | (with_reducible exact Nat.le_refl _) | (with_reducible assumption) | (with_reducible refine below_step ?_ ?_ hr) | (with_reducible refine below_over ?_ ?_ _) | (with_reducible refine Below.alloc ?_ ?_ _) | (with_reducible refine Below.setCell ?_ ?_ _) | (with_reducible refine below_put ?_ ?_ _) | (with_reducible refine Below.drew ?_) | (with_reducible refine below_drewN_ ?_ _) | (with_reducible refine le_drewN ?_ _) | (with_reducible refine over_le _ _ _ ?_) | (with_reducible refine le_alloc ?_ _) | (with_reducible refine le_setCell ?_ _ _) | (with_reducible refine le_put ?_ _ _) | (with_reducible refine le_drew ?_) | dsimp only | omega | ((try simp only [World.size_alloc, World.size_setCell, World.size_drew, size_put]); omega) | (simp; done)))) (by (first | omega | ((try simp only [World.size_alloc, World.size_setCell, World.size_drew, size_put]); omega))) hb; clear hb)
                have hBf : Below w4.heap.size w4 w9 := hBc4.trans (hB.mono (by omega))
                go_wp2_with fail
                go_roundw
                case rel => exact ⟨j + 1, by omega, by go_num, by go_light; exact hBf⟩
                case measure => (simp [intOf] <;> omega)
              · obtain ⟨rfl, rfl⟩ := Hst.out hid
                clear Hst
                go_upto_region 17 with fail
                all_goals refine wp_region_over (by kernel_rfl) (by kernel_rfl) ?_
                repeat (any_goals (first | go_big_quiet_step ((fail)) | (refine wpQuiet_step (fun K hK => ?_); go_simp; split <;> (refine hK _ ?_; clear hK K)) | quiet_step ((fail))))
                all_goals (refine wpQuiet_nil ?_; intro w9 hw'; have hb := below_of_ex hw'; clear hw'; have hz := hb.size; (try simp only [World.size_alloc, World.size_setCell, World.size_drew, size_put] at hz); have hB : Below wc.heap.size wc w9 := below_step (by (repeat' (first | (with_reducible exact Below.refl _ _) | (with_reducible exact Nat.le_refl _) | (with_reducible assumption) | (with_reducible refine below_step ?_ ?_ hr) | (with_reducible refine below_over ?_ ?_ _) | (with_reducible refine Below.alloc ?_ ?_ _) | (with_reducible refine Below.setCell ?_ ?_ _) | (with_reducible refine below_put ?_ ?_ _) | (with_reducible refine Below.drew ?_) | (with_reducible refine below_drewN_ ?_ _) | (with_reducible refine le_drewN ?_ _) | (with_reducible refine over_le _ _ _ ?_) | (with_reducible refine le_alloc ?_ _) | (with_reducible refine le_setCell ?_ _ _) | (with_reducible refine le_put ?_ _ _) | (with_reducible refine le_drew ?_) | dsimp only | omega | ((try simp only [World.size_alloc, World.size_setCell, World.size_drew, size_put]); omega) | (simp; done)))) (by (first | omega | ((try simp only [World.size_alloc, World.size_setCell, World.size_drew, size_put]); omega))) hb; clear hb)
                have hBf : Below w4.heap.size w4 w9 := hBc4.trans (hB.mono (by omega))
                go_wp2_with fail
                go_roundw
                case rel => exact ⟨j + 1, by omega, by go_num, by go_light; exact hBf⟩
                case measure => (simp [intOf] <;> omega)
          · go_wp2_with fail
            go_roundw
            case rel => exact ⟨k + 1, NX, ⟨V2, p2, vc2⟩, by omega, rfl, by go_num, by go_light; exact Lib.hid (H2.out.toW hBs), Hnx, by go_light; exact hBr4.trans (hBs.mono (by omega))⟩
            case measure => (simp [intOf] <;> omega)
    · go_wp2_with fail
      go_ret
      exact ⟨rfl, by go_light; (repeat' (first | (with_reducible exact Below.refl _ _) | (with_reducible exact Nat.le_refl _) | (with_reducible assumption) | (with_reducible refine below_step ?_ ?_ hr) | (with_reducible refine below_over ?_ ?_ _) | (with_reducible refine Below.alloc ?_ ?_ _) | (with_reducible refine Below.setCell ?_ ?_ _) | (with_reducible refine below_put ?_ ?_ _) | (with_reducible refine Below.drew ?_) | (with_reducible refine below_drewN_ ?_ _) | (with_reducible refine le_drewN ?_ _) | (with_reducible refine over_le _ _ _ ?_) | (with_reducible refine le_alloc ?_ _) | (with_reducible refine le_setCell ?_ _ _) | (with_reducible refine le_put ?_ _ _) | (with_reducible refine le_drew ?_) | dsimp only | omega | ((try simp only [World.size_alloc, World.size_setCell, World.size_drew, size_put]); omega) | (simp; done)))⟩
set_option maxRecDepth 100000 in
set_option maxHeartbeats 1600000 in
theorem bad (s : Sl) (l : List MS) (t : Sl) (w : World) (hs : Rd w MS.enc s l) (hR : (right51 l != 0) = true) : Calls Try.prog 10 #[s.val, t.val] w fun e w' => e = .returned (.bool true) ∧ Below w.heap.size w w' := by
  have Hr := Lib.hid (fun w' (h : Below w.heap.size w w') => right_51 s l w' rfl (hs.toW h))
  generalize right51 l = T at Hr hR
  obtain ⟨A, n, c⟩ := s
  obtain ⟨A2, m, d⟩ := t
  clear hs
  simp only [Sl.val] at *
  (go_enter Try.func10, Try.ntmps10; try dsimp only [List.append])
  go_wp2_with (first | (go_at_call 11; refine (law51_alive _).mono ?_; rintro e w1 hg; obtain ⟨rfl, hb⟩ := hg.below; clear hg; have hz := hb.size; (try simp only [World.size_alloc, World.size_setCell, World.size_drew, size_put] at hz); have hB : Below w.heap.size w w1 := below_step (by (repeat' (first | (with_reducible exact Below.refl _ _) | (with_reducible exact Nat.le_refl _) | (with_reducible assumption) | (with_reducible refine below_step ?_ ?_ hr) | (with_reducible refine below_over ?_ ?_ _) | (with_reducible refine Below.alloc ?_ ?_ _) | (with_reducible refine Below.setCell ?_ ?_ _) | (with_reducible refine below_put ?_ ?_ _) | (with_reducible refine Below.drew ?_) | (with_reducible refine below_drewN_ ?_ _) | (with_reducible refine le_drewN ?_ _) | (with_reducible refine over_le _ _ _ ?_) | (with_reducible refine le_alloc ?_ _) | (with_reducible refine le_setCell ?_ _ _) | (with_reducible refine le_put ?_ _ _) | (with_reducible refine le_drew ?_) | dsimp only | omega | ((try simp only [World.size_alloc, World.size_setCell, World.size_drew, size_put]); omega) | (simp; done)))) (by (first | omega | ((try simp only [World.size_alloc, World.size_setCell, World.size_drew, size_put]); omega))) hb; clear hb) | (go_at_call 12; refine (Hr.out _ (by (repeat' (first | (with_reducible exact Below.refl _ _) | (with_reducible exact Nat.le_refl _) | (with_reducible assumption) | (with_reducible refine below_step ?_ ?_ hr) | (with_reducible refine below_over ?_ ?_ _) | (with_reducible refine Below.alloc ?_ ?_ _) | (with_reducible refine Below.setCell ?_ ?_ _) | (with_reducible refine below_put ?_ ?_ _) | (with_reducible refine Below.drew ?_) | (with_reducible refine below_drewN_ ?_ _) | (with_reducible refine le_drewN ?_ _) | (with_reducible refine over_le _ _ _ ?_) | (with_reducible refine le_alloc ?_ _) | (with_reducible refine le_setCell ?_ _ _) | (with_reducible refine le_put ?_ _ _) | (with_reducible refine le_drew ?_) | dsimp only | omega | ((try simp only [World.size_alloc, World.size_setCell, World.size_drew, size_put]); omega) | (simp; done))))).mono ?_; rintro e w2 hg; obtain ⟨rfl, hb⟩ := hg.below; clear hg; have hz := hb.size; (try simp only [World.size_alloc, World.size_setCell, World.size_drew, size_put] at hz); have hB : Below w.heap.size w w2 := below_step (by (repeat' (first | (with_reducible exact Below.refl _ _) | (with_reducible exact Nat.le_refl _) | (with_reducible assumption) | (with_reducible refine below_step ?_ ?_ hr) | (with_reducible refine below_over ?_ ?_ _) | (with_reducible refine Below.alloc ?_ ?_ _) | (with_reducible refine Below.setCell ?_ ?_ _) | (with_reducible refine below_put ?_ ?_ _) | (with_reducible refine Below.drew ?_) | (with_reducible refine below_drewN_ ?_ _) | (with_reducible refine le_drewN ?_ _) | (with_reducible refine over_le _ _ _ ?_) | (with_reducible refine le_alloc ?_ _) | (with_reducible refine le_setCell ?_ _ _) | (with_reducible refine le_put ?_ _ _) | (with_reducible refine le_drew ?_) | dsimp only | omega | ((try simp only [World.size_alloc, World.size_setCell, World.size_drew, size_put]); omega) | (simp; done)))) (by (first | omega | ((try simp only [World.size_alloc, World.size_setCell, World.size_drew, size_put]); omega))) hb; clear hb))
  go_ret
  exact ⟨rfl, by go_light; (repeat' (first | (with_reducible exact Below.refl _ _) | (with_reducible exact Nat.le_refl _) | (with_reducible assumption) | (with_reducible refine below_step ?_ ?_ hr) | (with_reducible refine below_over ?_ ?_ _) | (with_reducible refine Below.alloc ?_ ?_ _) | (with_reducible refine Below.setCell ?_ ?_ _) | (with_reducible refine below_put ?_ ?_ _) | (with_reducible refine Below.drew ?_) | (with_reducible refine below_drewN_ ?_ _) | (with_reducible refine le_drewN ?_ _) | (with_reducible refine over_le _ _ _ ?_) | (with_reducible refine le_alloc ?_ _) | (with_reducible refine le_setCell ?_ _ _) | (with_reducible refine le_put ?_ _ _) | (with_reducible refine le_drew ?_) | dsimp only | omega | ((try simp only [World.size_alloc, World.size_setCell, World.size_drew, size_put]); omega) | (simp; done)))⟩
set_option maxRecDepth 100000 in
set_option maxHeartbeats 1600000 in
theorem long (s : Sl) (l : List MS) (t : Sl) (w : World) (hs : Rd w MS.enc s l) (hR : right51 l = 0) (h40 : 40 < t.n) : Calls Try.prog 10 #[s.val, t.val] w fun e w' => e = .returned (.bool true) ∧ Below w.heap.size w w' := by
  have Hr := Lib.hid (fun w' (h : Below w.heap.size w w') => right_51 s l w' hR (hs.toW h))
  obtain ⟨A, n, c⟩ := s
  obtain ⟨A2, m, d⟩ := t
  clear hs hR
  dsimp only at h40
  have h40b : decide ((40 : Int) < (m : Int)) = true := by simp; omega
  simp only [Sl.val] at *
  (go_enter Try.func10, Try.ntmps10; try dsimp only [List.append])
  go_wp2_with (first | (go_at_call 11; refine (law51_alive _).mono ?_; rintro e w1 hg; obtain ⟨rfl, hb⟩ := hg.below; clear hg; have hz := hb.size; (try simp only [World.size_alloc, World.size_setCell, World.size_drew, size_put] at hz); have hB : Below w.heap.size w w1 := below_step (by (repeat' (first | (with_reducible exact Below.refl _ _) | (with_reducible exact Nat.le_refl _) | (with_reducible assumption) | (with_reducible refine below_step ?_ ?_ hr) | (with_reducible refine below_over ?_ ?_ _) | (with_reducible refine Below.alloc ?_ ?_ _) | (with_reducible refine Below.setCell ?_ ?_ _) | (with_reducible refine below_put ?_ ?_ _) | (with_reducible refine Below.drew ?_) | (with_reducible refine below_drewN_ ?_ _) | (with_reducible refine le_drewN ?_ _) | (with_reducible refine over_le _ _ _ ?_) | (with_reducible refine le_alloc ?_ _) | (with_reducible refine le_setCell ?_ _ _) | (with_reducible refine le_put ?_ _ _) | (with_reducible refine le_drew ?_) | dsimp only | omega | ((try simp only [World.size_alloc, World.size_setCell, World.size_drew, size_put]); omega) | (simp; done)))) (by (first | omega | ((try simp only [World.size_alloc, World.size_setCell, World.size_drew, size_put]); omega))) hb; clear hb) | (go_at_call 12; refine (Hr.out _ (by (repeat' (first | (with_reducible exact Below.refl _ _) | (with_reducible exact Nat.le_refl _) | (with_reducible assumption) | (with_reducible refine below_step ?_ ?_ hr) | (with_reducible refine below_over ?_ ?_ _) | (with_reducible refine Below.alloc ?_ ?_ _) | (with_reducible refine Below.setCell ?_ ?_ _) | (with_reducible refine below_put ?_ ?_ _) | (with_reducible refine Below.drew ?_) | (with_reducible refine below_drewN_ ?_ _) | (with_reducible refine le_drewN ?_ _) | (with_reducible refine over_le _ _ _ ?_) | (with_reducible refine le_alloc ?_ _) | (with_reducible refine le_setCell ?_ _ _) | (with_reducible refine le_put ?_ _ _) | (with_reducible refine le_drew ?_) | dsimp only | omega | ((try simp only [World.size_alloc, World.size_setCell, World.size_drew, size_put]); omega) | (simp; done))))).mono ?_; rintro e w2 hg; obtain ⟨rfl, hb⟩ := hg.below; clear hg; have hz := hb.size; (try simp only [World.size_alloc, World.size_setCell, World.size_drew, size_put] at hz); have hB : Below w.heap.size w w2 := below_step (by (repeat' (first | (with_reducible exact Below.refl _ _) | (with_reducible exact Nat.le_refl _) | (with_reducible assumption) | (with_reducible refine below_step ?_ ?_ hr) | (with_reducible refine below_over ?_ ?_ _) | (with_reducible refine Below.alloc ?_ ?_ _) | (with_reducible refine Below.setCell ?_ ?_ _) | (with_reducible refine below_put ?_ ?_ _) | (with_reducible refine Below.drew ?_) | (with_reducible refine below_drewN_ ?_ _) | (with_reducible refine le_drewN ?_ _) | (with_reducible refine over_le _ _ _ ?_) | (with_reducible refine le_alloc ?_ _) | (with_reducible refine le_setCell ?_ _ _) | (with_reducible refine le_put ?_ _ _) | (with_reducible refine le_drew ?_) | dsimp only | omega | ((try simp only [World.size_alloc, World.size_setCell, World.size_drew, size_put]); omega) | (simp; done)))) (by (first | omega | ((try simp only [World.size_alloc, World.size_setCell, World.size_drew, size_put]); omega))) hb; clear hb))
  go_ret
  exact ⟨rfl, by go_light; (repeat' (first | (with_reducible exact Below.refl _ _) | (with_reducible exact Nat.le_refl _) | (with_reducible assumption) | (with_reducible refine below_step ?_ ?_ hr) | (with_reducible refine below_over ?_ ?_ _) | (with_reducible refine Below.alloc ?_ ?_ _) | (with_reducible refine Below.setCell ?_ ?_ _) | (with_reducible refine below_put ?_ ?_ _) | (with_reducible refine Below.drew ?_) | (with_reducible refine below_drewN_ ?_ _) | (with_reducible refine le_drewN ?_ _) | (with_reducible refine over_le _ _ _ ?_) | (with_reducible refine le_alloc ?_ _) | (with_reducible refine le_setCell ?_ _ _) | (with_reducible refine le_put ?_ _ _) | (with_reducible refine le_drew ?_) | dsimp only | omega | ((try simp only [World.size_alloc, World.size_setCell, World.size_drew, size_put]); omega) | (simp; done)))⟩
theorem walk (s : Sl) (l : List MS) (t : Sl) (ops : List OpB) (w : World) (hs : Rd w MS.enc s l) (ht : Rd w OpB.enc t ops) : Calls Try.prog 10 #[s.val, t.val] w fun e w' => e = .returned (.bool true) ∧ Below w.heap.size w w' := by
  by_cases h : right51 l = 0
  · by_cases h2 : t.n ≤ 40
    · exact good s l t ops w hs ht h h2
    · exact long s l t w hs h (by omega)
  · exact bad s l t w hs (by simp [h])
theorem own : ownKnob Try.prog.godebug = none := by kernel_rfl
theorem laidOut : laidOutB Try.prog = true := by kernel_rfl
set_option maxRecDepth 100000 in
theorem lifted (os : Os) (started : os.Started) (H : Type) (enc : TypeId × Value → H) :
    ReturnsInHanded {} Try.checked os 10 .any (Rows.blastOthersSpec.pre6 enc Try.prog Try.f10 Rows.blastOthersRow.domain false) (Rows.blastOthersSpec.post enc Try.prog Try.f10 false true false false) := by
  refine returnsInHanded_of_change (C := Try.checked) own started (by kernel_rfl) Try.func10
    (ChangeSpec.witness6 (enc := enc) (C := Try.checked) false ⟨#[], #[.slice none 0 0, .slice none 0 0], []⟩ 8 (by kernel_rfl) (by kernel_rfl) (by kernel_rfl) (by kernel_rfl)) ?_
  intro W base args ds gs before hval0 hW hcnd _
  have hval : ∀ (j : Nat) t v, Try.f10.params[j]? = some t → args[j]? = some v → Value.okWide Try.prog W .any base t v := hval0
  have hW' := hW
  obtain ⟨p, q, hA0, hV, rfl, hfz, hnd⟩ := hW
  have hA : DataW.TrodAll enc Try.prog W 0 (fun _ => true) true Try.f10.params.toList args.toList ds p := hA0
  rw [Try.params10] at hA hval
  obtain ⟨v0, vs0, d0, ds0, p0, q0, hargs, rfl, rfl, h0, r0⟩ := trodAll_cons hA
  obtain ⟨v1, vs1, d1, ds1, p1, q1, rfl, rfl, rfl, h1, r1⟩ := trodAll_cons r0
  obtain ⟨rfl, rfl, rfl⟩ := trodAll_nil r1
  obtain rfl : args = #[v0, v1] := by cases args; simp_all
  obtain ⟨rfl, rfl⟩ := trodVars_none hV
  have k0 := h0
  have lt0 : ∀ x ∈ p0, x.block < W.heap.size := by obtain ⟨m, hm⟩ := k0; exact DataW.trod_lt m _ _ _ hm
  obtain ⟨a0, e0, w0⟩ := opens_arg o_missions h0
  obtain rfl : v0 = a0.1.val := slice_value Try.underlying22 (hval 0 22 v0 rfl rfl) e0
  have k1 := h1
  have lt1 : ∀ x ∈ p1, x.block < W.heap.size := by obtain ⟨m, hm⟩ := k1; exact DataW.trod_lt m _ _ _ hm
  obtain ⟨a1, e1, w1⟩ := opens_arg o_bops h1
  obtain rfl : v1 = a1.1.val := slice_value Try.underlying44 (hval 1 44 v1 rfl rfl) e1
  clear hA0 hval0
  refine (walk a0.1 a0.2 a1.1 a1.2 W w0.1 w1.1).mono fun e W' ⟨he, bel⟩ => ?_
  subst he
  exact ⟨_, rfl, _, _, _, [], _, [], hW', trodAll_mk1 (shut_bool Try.underlying4 _), (trodAll_cons_mk (Below.trod laidOut (by kernel_rfl) (of_decide_eq_true (by kernel_rfl)) k0 bel lt0) (trodAll_cons_mk (Below.trod laidOut (by kernel_rfl) (of_decide_eq_true (by kernel_rfl)) k1 bel lt1) trodAll_mk0)), rfl, bel.frame _, fun h => by cases h⟩
theorem over : Rows.blastOthersRow.holds Try.pinned (OpenSpec.ofChange Rows.blastOthersSpec) :=
  OpenClaim.holds_of_wide 10 Try.f10 rfl rfl rfl rfl rfl rfl rfl ⟨rfl, rfl, rfl, rfl, rfl⟩ rfl rfl rfl rfl rfl (by kernel_rfl) Try.func10 (by kernel_rfl)
    (of_decide_eq_true (by kernel_rfl)) (by unfold Func.isWrapper; first | (rw [if_pos (by decide +kernel)]; kernel_rfl) | (rw [if_neg (by decide +kernel)]; exact ⟨rfl, rfl⟩))
    (fun os started H enc _ => lifted os started H enc)
theorem proved : Rows.BlastOthersSaid := over
end Go.Proofs.Ythcdnkhgmicpoaa.lawOthers51
