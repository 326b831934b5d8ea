/- Missions, the reference: the common errors; a list with one element turned. -/
import Derived.Test.YthcdnkhgmicpoaaBlaG
namespace Go.Proofs.Ythcdnkhgmicpoaa
set_option linter.unusedSimpArgs false
set_option linter.unusedVariables false
open Go.RowKit
theorem idx_is {I : Int} (s : Sl) (l : List MS) (id : Int) (w : World) (h : idxM id 0 l = I) (hs : Rd w MS.enc s l) : Calls Try.prog 39 #[s.val, .int .i64 id] w (Gives (.int .i64 I) w) := h ▸ ref51_index s l id w hs
set_option maxRecDepth 100000 in
set_option maxHeartbeats 1600000 in
theorem com_none (s : Sl) (l : List MS) (id t : Int) (w : World) (hs : Rd w MS.enc s l) (hi : decide (idxM id 0 l < 0) = true) : Calls Try.prog 46 #[s.val, .int .i64 id, .int .i64 t] w (Gives (.tuple #[.int .i64 0, .int .i64 8]) w) := by
  have Hc := Lib.hid (fun w' (h : Below w.heap.size w w') => ref51_index s l id w' (hs.toW h))
  generalize idxM id 0 l = I at Hc hi
  obtain ⟨A, n, c⟩ := s
  clear hs
  simp only [Sl.val] at Hc ⊢
  (go_enter Try.func46, Try.ntmps46; try dsimp only [List.append])
  go_wp2_with (go_at_call 39; refine (Hc.out _ (by (repeat' (first | (with_reducible exact Below.refl _ _) | (with_reducible exact Nat.le_refl _) | (with_reducible assumption) | (with_reducible refine below_step ?_ ?_ hr) | (with_reducible refine below_over ?_ ?_ _) | (with_reducible refine Below.alloc ?_ ?_ _) | (with_reducible refine Below.setCell ?_ ?_ _) | (with_reducible refine below_put ?_ ?_ _) | (with_reducible refine Below.drew ?_) | (with_reducible refine below_drewN_ ?_ _) | (with_reducible refine le_drewN ?_ _) | (with_reducible refine over_le _ _ _ ?_) | (with_reducible refine le_alloc ?_ _) | (with_reducible refine le_setCell ?_ _ _) | (with_reducible refine le_put ?_ _ _) | (with_reducible refine le_drew ?_) | dsimp only | omega | ((try simp only [World.size_alloc, World.size_setCell, World.size_drew, size_put]); omega) | (simp; done))))).mono ?_; rintro e w1 hg; obtain ⟨rfl, hb⟩ := hg.below; clear hg; have hz := hb.size; (try simp only [World.size_alloc, World.size_setCell, World.size_drew, size_put] at hz); have hB : Below w.heap.size w w1 := below_step (by (repeat' (first | (with_reducible exact Below.refl _ _) | (with_reducible exact Nat.le_refl _) | (with_reducible assumption) | (with_reducible refine below_step ?_ ?_ hr) | (with_reducible refine below_over ?_ ?_ _) | (with_reducible refine Below.alloc ?_ ?_ _) | (with_reducible refine Below.setCell ?_ ?_ _) | (with_reducible refine below_put ?_ ?_ _) | (with_reducible refine Below.drew ?_) | (with_reducible refine below_drewN_ ?_ _) | (with_reducible refine le_drewN ?_ _) | (with_reducible refine over_le _ _ _ ?_) | (with_reducible refine le_alloc ?_ _) | (with_reducible refine le_setCell ?_ _ _) | (with_reducible refine le_put ?_ _ _) | (with_reducible refine le_drew ?_) | dsimp only | omega | ((try simp only [World.size_alloc, World.size_setCell, World.size_drew, size_put]); omega) | (simp; done)))) (by (first | omega | ((try simp only [World.size_alloc, World.size_setCell, World.size_drew, size_put]); omega))) hb; clear hb)
  refine bodyPost_ret (v := .tuple #[.int .i64 0, .int .i64 8]) (by simp [results, Try.results46, go_sem]) rfl ?_
  exact gives_of rfl (by go_light; (repeat' (first | (with_reducible exact Below.refl _ _) | (with_reducible exact Nat.le_refl _) | (with_reducible assumption) | (with_reducible refine below_step ?_ ?_ hr) | (with_reducible refine below_over ?_ ?_ _) | (with_reducible refine Below.alloc ?_ ?_ _) | (with_reducible refine Below.setCell ?_ ?_ _) | (with_reducible refine below_put ?_ ?_ _) | (with_reducible refine Below.drew ?_) | (with_reducible refine below_drewN_ ?_ _) | (with_reducible refine le_drewN ?_ _) | (with_reducible refine over_le _ _ _ ?_) | (with_reducible refine le_alloc ?_ _) | (with_reducible refine le_setCell ?_ _ _) | (with_reducible refine le_put ?_ _ _) | (with_reducible refine le_drew ?_) | dsimp only | omega | ((try simp only [World.size_alloc, World.size_setCell, World.size_drew, size_put]); omega) | (simp; done))))
set_option maxRecDepth 100000 in
set_option maxHeartbeats 1600000 in
theorem com_some (s : Sl) (l : List MS) (id t : Int) (w : World) (hs : Rd w MS.enc s l) {k : Nat} {x : MS} (hi : idxM id 0 l = (k : Int)) (hx : l[k]? = some x) : Calls Try.prog 46 #[s.val, .int .i64 id, .int .i64 t] w (Gives (if (decide (t < x.since) || decide (20000000 < t)) = true then .tuple #[.int .i64 0, .int .i64 11] else .tuple #[.int .i64 k, .int .i64 0]) w) := by
  have Hc := Lib.hid (fun w' (h : Below w.heap.size w w') => idx_is s l id w' hi (hs.toW h))
  obtain ⟨A, n, c⟩ := s
  have hmax : n ≤ 9223372036854775807 := hs.bound
  have hn : l.length = n := hs.len
  have hkn : k < n := by rw [← hn]; exact (List.getElem?_eq_some_iff.1 hx).1
  obtain ⟨b, off, y, he, hbw, -, Hy, -, -, -, -, hc4, -⟩ := hs.ms hkn
  dsimp only at he
  subst he
  obtain rfl : x = y := by have h1 := Hy.out; rw [hx] at h1; exact Option.some.inj h1
  clear hs hn Hy hx hi
  simp only [Sl.val] at Hc ⊢
  have hk1 : (k : Int) < (n : Int) := by omega
  have hk2 : (0 : Int) ≤ (k : Int) := by omega
  have hk3 : decide ((k : Int) < 0) = false := by simp
  cases g1 : decide (t < x.since)
  · cases g2 : decide (20000000 < t)
    · rw [if_neg (by simp)]
      (go_enter Try.func46, Try.ntmps46; try dsimp only [List.append])
      go_wp2_with ((go_at_call 39; refine (Hc.out _ (by (repeat' (first | (with_reducible exact Below.refl _ _) | (with_reducible exact Nat.le_refl _) | (with_reducible assumption) | (with_reducible refine below_step ?_ ?_ hr) | (with_reducible refine below_over ?_ ?_ _) | (with_reducible refine Below.alloc ?_ ?_ _) | (with_reducible refine Below.setCell ?_ ?_ _) | (with_reducible refine below_put ?_ ?_ _) | (with_reducible refine Below.drew ?_) | (with_reducible refine below_drewN_ ?_ _) | (with_reducible refine le_drewN ?_ _) | (with_reducible refine over_le _ _ _ ?_) | (with_reducible refine le_alloc ?_ _) | (with_reducible refine le_setCell ?_ _ _) | (with_reducible refine le_put ?_ _ _) | (with_reducible refine le_drew ?_) | dsimp only | omega | ((try simp only [World.size_alloc, World.size_setCell, World.size_drew, size_put]); omega) | (simp; done))))).mono ?_; rintro e w1 hg; obtain ⟨rfl, hb⟩ := hg.below; clear hg; have hz := hb.size; (try simp only [World.size_alloc, World.size_setCell, World.size_drew, size_put] at hz); have hB : Below w.heap.size w w1 := below_step (by (repeat' (first | (with_reducible exact Below.refl _ _) | (with_reducible exact Nat.le_refl _) | (with_reducible assumption) | (with_reducible refine below_step ?_ ?_ hr) | (with_reducible refine below_over ?_ ?_ _) | (with_reducible refine Below.alloc ?_ ?_ _) | (with_reducible refine Below.setCell ?_ ?_ _) | (with_reducible refine below_put ?_ ?_ _) | (with_reducible refine Below.drew ?_) | (with_reducible refine below_drewN_ ?_ _) | (with_reducible refine le_drewN ?_ _) | (with_reducible refine over_le _ _ _ ?_) | (with_reducible refine le_alloc ?_ _) | (with_reducible refine le_setCell ?_ _ _) | (with_reducible refine le_put ?_ _ _) | (with_reducible refine le_drew ?_) | dsimp only | omega | ((try simp only [World.size_alloc, World.size_setCell, World.size_drew, size_put]); omega) | (simp; done)))) (by (first | omega | ((try simp only [World.size_alloc, World.size_setCell, World.size_drew, size_put]); omega))) hb; clear hb); have e4 := (hB.cell (p := ⟨b, _, none⟩) hbw).trans hc4)
      refine bodyPost_ret (v := .tuple #[.int .i64 k, .int .i64 0]) (by simp [results, Try.results46, go_sem]) rfl ?_
      exact gives_of rfl (by go_light; (repeat' (first | (with_reducible exact Below.refl _ _) | (with_reducible exact Nat.le_refl _) | (with_reducible assumption) | (with_reducible refine below_step ?_ ?_ hr) | (with_reducible refine below_over ?_ ?_ _) | (with_reducible refine Below.alloc ?_ ?_ _) | (with_reducible refine Below.setCell ?_ ?_ _) | (with_reducible refine below_put ?_ ?_ _) | (with_reducible refine Below.drew ?_) | (with_reducible refine below_drewN_ ?_ _) | (with_reducible refine le_drewN ?_ _) | (with_reducible refine over_le _ _ _ ?_) | (with_reducible refine le_alloc ?_ _) | (with_reducible refine le_setCell ?_ _ _) | (with_reducible refine le_put ?_ _ _) | (with_reducible refine le_drew ?_) | dsimp only | omega | ((try simp only [World.size_alloc, World.size_setCell, World.size_drew, size_put]); omega) | (simp; done))))
    · rw [if_pos (by simp)]
      (go_enter Try.func46, Try.ntmps46; try dsimp only [List.append])
      go_wp2_with ((go_at_call 39; refine (Hc.out _ (by (repeat' (first | (with_reducible exact Below.refl _ _) | (with_reducible exact Nat.le_refl _) | (with_reducible assumption) | (with_reducible refine below_step ?_ ?_ hr) | (with_reducible refine below_over ?_ ?_ _) | (with_reducible refine Below.alloc ?_ ?_ _) | (with_reducible refine Below.setCell ?_ ?_ _) | (with_reducible refine below_put ?_ ?_ _) | (with_reducible refine Below.drew ?_) | (with_reducible refine below_drewN_ ?_ _) | (with_reducible refine le_drewN ?_ _) | (with_reducible refine over_le _ _ _ ?_) | (with_reducible refine le_alloc ?_ _) | (with_reducible refine le_setCell ?_ _ _) | (with_reducible refine le_put ?_ _ _) | (with_reducible refine le_drew ?_) | dsimp only | omega | ((try simp only [World.size_alloc, World.size_setCell, World.size_drew, size_put]); omega) | (simp; done))))).mono ?_; rintro e w1 hg; obtain ⟨rfl, hb⟩ := hg.below; clear hg; have hz := hb.size; (try simp only [World.size_alloc, World.size_setCell, World.size_drew, size_put] at hz); have hB : Below w.heap.size w w1 := below_step (by (repeat' (first | (with_reducible exact Below.refl _ _) | (with_reducible exact Nat.le_refl _) | (with_reducible assumption) | (with_reducible refine below_step ?_ ?_ hr) | (with_reducible refine below_over ?_ ?_ _) | (with_reducible refine Below.alloc ?_ ?_ _) | (with_reducible refine Below.setCell ?_ ?_ _) | (with_reducible refine below_put ?_ ?_ _) | (with_reducible refine Below.drew ?_) | (with_reducible refine below_drewN_ ?_ _) | (with_reducible refine le_drewN ?_ _) | (with_reducible refine over_le _ _ _ ?_) | (with_reducible refine le_alloc ?_ _) | (with_reducible refine le_setCell ?_ _ _) | (with_reducible refine le_put ?_ _ _) | (with_reducible refine le_drew ?_) | dsimp only | omega | ((try simp only [World.size_alloc, World.size_setCell, World.size_drew, size_put]); omega) | (simp; done)))) (by (first | omega | ((try simp only [World.size_alloc, World.size_setCell, World.size_drew, size_put]); omega))) hb; clear hb); have e4 := (hB.cell (p := ⟨b, _, none⟩) hbw).trans hc4)
      refine bodyPost_ret (v := .tuple #[.int .i64 0, .int .i64 11]) (by simp [results, Try.results46, go_sem]) rfl ?_
      exact gives_of rfl (by go_light; (repeat' (first | (with_reducible exact Below.refl _ _) | (with_reducible exact Nat.le_refl _) | (with_reducible assumption) | (with_reducible refine below_step ?_ ?_ hr) | (with_reducible refine below_over ?_ ?_ _) | (with_reducible refine Below.alloc ?_ ?_ _) | (with_reducible refine Below.setCell ?_ ?_ _) | (with_reducible refine below_put ?_ ?_ _) | (with_reducible refine Below.drew ?_) | (with_reducible refine below_drewN_ ?_ _) | (with_reducible refine le_drewN ?_ _) | (with_reducible refine over_le _ _ _ ?_) | (with_reducible refine le_alloc ?_ _) | (with_reducible refine le_setCell ?_ _ _) | (with_reducible refine le_put ?_ _ _) | (with_reducible refine le_drew ?_) | dsimp only | omega | ((try simp only [World.size_alloc, World.size_setCell, World.size_drew, size_put]); omega) | (simp; done))))
  · rw [if_pos (by simp)]
    (go_enter Try.func46, Try.ntmps46; try dsimp only [List.append])
    go_wp2_with ((go_at_call 39; refine (Hc.out _ (by (repeat' (first | (with_reducible exact Below.refl _ _) | (with_reducible exact Nat.le_refl _) | (with_reducible assumption) | (with_reducible refine below_step ?_ ?_ hr) | (with_reducible refine below_over ?_ ?_ _) | (with_reducible refine Below.alloc ?_ ?_ _) | (with_reducible refine Below.setCell ?_ ?_ _) | (with_reducible refine below_put ?_ ?_ _) | (with_reducible refine Below.drew ?_) | (with_reducible refine below_drewN_ ?_ _) | (with_reducible refine le_drewN ?_ _) | (with_reducible refine over_le _ _ _ ?_) | (with_reducible refine le_alloc ?_ _) | (with_reducible refine le_setCell ?_ _ _) | (with_reducible refine le_put ?_ _ _) | (with_reducible refine le_drew ?_) | dsimp only | omega | ((try simp only [World.size_alloc, World.size_setCell, World.size_drew, size_put]); omega) | (simp; done))))).mono ?_; rintro e w1 hg; obtain ⟨rfl, hb⟩ := hg.below; clear hg; have hz := hb.size; (try simp only [World.size_alloc, World.size_setCell, World.size_drew, size_put] at hz); have hB : Below w.heap.size w w1 := below_step (by (repeat' (first | (with_reducible exact Below.refl _ _) | (with_reducible exact Nat.le_refl _) | (with_reducible assumption) | (with_reducible refine below_step ?_ ?_ hr) | (with_reducible refine below_over ?_ ?_ _) | (with_reducible refine Below.alloc ?_ ?_ _) | (with_reducible refine Below.setCell ?_ ?_ _) | (with_reducible refine below_put ?_ ?_ _) | (with_reducible refine Below.drew ?_) | (with_reducible refine below_drewN_ ?_ _) | (with_reducible refine le_drewN ?_ _) | (with_reducible refine over_le _ _ _ ?_) | (with_reducible refine le_alloc ?_ _) | (with_reducible refine le_setCell ?_ _ _) | (with_reducible refine le_put ?_ _ _) | (with_reducible refine le_drew ?_) | dsimp only | omega | ((try simp only [World.size_alloc, World.size_setCell, World.size_drew, size_put]); omega) | (simp; done)))) (by (first | omega | ((try simp only [World.size_alloc, World.size_setCell, World.size_drew, size_put]); omega))) hb; clear hb); have e4 := (hB.cell (p := ⟨b, _, none⟩) hbw).trans hc4)
    refine bodyPost_ret (v := .tuple #[.int .i64 0, .int .i64 11]) (by simp [results, Try.results46, go_sem]) rfl ?_
    exact gives_of rfl (by go_light; (repeat' (first | (with_reducible exact Below.refl _ _) | (with_reducible exact Nat.le_refl _) | (with_reducible assumption) | (with_reducible refine below_step ?_ ?_ hr) | (with_reducible refine below_over ?_ ?_ _) | (with_reducible refine Below.alloc ?_ ?_ _) | (with_reducible refine Below.setCell ?_ ?_ _) | (with_reducible refine below_put ?_ ?_ _) | (with_reducible refine Below.drew ?_) | (with_reducible refine below_drewN_ ?_ _) | (with_reducible refine le_drewN ?_ _) | (with_reducible refine over_le _ _ _ ?_) | (with_reducible refine le_alloc ?_ _) | (with_reducible refine le_setCell ?_ _ _) | (with_reducible refine le_put ?_ _ _) | (with_reducible refine le_drew ?_) | dsimp only | omega | ((try simp only [World.size_alloc, World.size_setCell, World.size_drew, size_put]); omega) | (simp; done))))
set_option maxRecDepth 100000 in
set_option maxHeartbeats 6400000 in
theorem ref51_turned (s : Sl) (l : List MS) (st t : Int) (w : World) (hs : Rd w MS.enc s l) (hn900 : s.n ≤ 900) {k : Nat} {x : MS} (hx : l[k]? = some x) : Calls Try.prog 48 #[s.val, .int .i64 k, .int .i64 st, .int .i64 t] w (OwnMPost (l.set k (updM x st t)) w) := by
  obtain ⟨A, n, c⟩ := s
  dsimp only at hn900
  have Hs := Lib.hid hs
  have Hn : Hid (l.length = n) := hs.len
  have Hx := Lib.hid hx
  have hkn : k < n := by have h := Hn.out; rw [← h]; exact (List.getElem?_eq_some_iff.1 hx).1
  clear hs hx
  obtain ⟨L, hL⟩ : ∃ L, L = l.set k (updM x st t) := ⟨_, rfl⟩
  have HL := Lib.hid hL
  have HLn : Hid (L.length = n) := by show _ = _; rw [hL, List.length_set]; exact Hn.out
  rw [← hL]
  clear hL
  simp only [Sl.val]
  (go_enter Try.func48, Try.ntmps48; try dsimp only [List.append])
  go_wp2_with fail
  go_loopw [9, 10] (fun u i wr => ∃ (j : Nat) (o : Sl), j ≤ n ∧ u = o.val ∧ i = .int .i64 j ∧ Hid (OwnM wr w.heap.size o (L.take j)) ∧ Below w.heap.size w wr) (fun _ i _ => n - (intOf i).toNat)
  case atStart => exact ⟨0, ⟨none, 0, 0⟩, Nat.zero_le _, rfl, rfl, Own.nil_ _ _ _ _ _, Below.refl _ _⟩
  case round =>
    obtain ⟨j, o, hj, rfl, rfl, HO, hBr⟩ := hrel
    have hzr := hBr.size
    have hon : o.n ≤ j := by have h1 := HO.out.len; have h4 := List.length_take_le j L; omega
    by_cases hlt : j < n
    · obtain ⟨b, off, ⟨id, slide, by_, state, since, fr, till⟩, rfl, hbw, -, Hy, hc0, hc1, hc2, hc3, hc4, hc5, hc6⟩ := Hs.out.ms hlt
      have e0 := (hBr.cell (p := ⟨b, _, none⟩) hbw).trans hc0
      have e1 := (hBr.cell (p := ⟨b, _, none⟩) hbw).trans hc1
      have e2 := (hBr.cell (p := ⟨b, _, none⟩) hbw).trans hc2
      have e3 := (hBr.cell (p := ⟨b, _, none⟩) hbw).trans hc3
      have e4 := (hBr.cell (p := ⟨b, _, none⟩) hbw).trans hc4
      have e5 := (hBr.cell (p := ⟨b, _, none⟩) hbw).trans hc5
      have e6 := (hBr.cell (p := ⟨b, _, none⟩) hbw).trans hc6
      clear hc0 hc1 hc2 hc3 hc4 hc5 hc6
      go_upto_region 6 with fail
      clear e0 e1 e2 e3 e4 e5 e6
      by_cases hjk : j = k
      · have hjb : ((j : Int) == (k : Int)) = true := by simp; omega
        have hjb2 : (j == k) = true := by simpa using hjk
        have HT : Hid (L.take (j + 1) = L.take j ++ [⟨id, slide, by_, st, t, fr, till⟩]) := by
          show _ = _
          have h1 : x = ⟨id, slide, by_, state, since, fr, till⟩ := by have h2 := Hy.out; rw [hjk, Hx.out] at h2; exact Option.some.inj h2
          have h3 : L[j]? = some ⟨id, slide, by_, st, t, fr, till⟩ := by rw [HL.out, hjk, List.getElem?_set_self (by have := Hn.out; omega), h1]; rfl
          rw [List.take_add_one, h3]
          rfl
        have HO0 := Lib.hid (HO.out.alloc' (.cells #[.int .i64 id, .int .i64 slide, .int .i64 by_, .int .i64 state, .int .i64 since, .int .i64 fr, .int .i64 till] 30))
        refine wp_letter (fun w2 hb => ?_)
        have hz := hb.size
        (try simp only [World.size_alloc, World.size_setCell, World.size_drew, size_put] at hz)
        have hB : Below wr.heap.size wr w2 := below_step (by (repeat' (first | (with_reducible exact Below.refl _ _) | (with_reducible exact Nat.le_refl _) | (with_reducible assumption) | (with_reducible refine below_step ?_ ?_ hr) | (with_reducible refine below_over ?_ ?_ _) | (with_reducible refine Below.alloc ?_ ?_ _) | (with_reducible refine Below.setCell ?_ ?_ _) | (with_reducible refine below_put ?_ ?_ _) | (with_reducible refine Below.drew ?_) | (with_reducible refine below_drewN_ ?_ _) | (with_reducible refine le_drewN ?_ _) | (with_reducible refine over_le _ _ _ ?_) | (with_reducible refine le_alloc ?_ _) | (with_reducible refine le_setCell ?_ _ _) | (with_reducible refine le_put ?_ _ _) | (with_reducible refine le_drew ?_) | dsimp only | omega | ((try simp only [World.size_alloc, World.size_setCell, World.size_drew, size_put]); omega) | (simp; done)))) (by (first | omega | ((try simp only [World.size_alloc, World.size_setCell, World.size_drew, size_put]); omega))) hb
        have HO0 := Lib.hid (HO0.out.toW (below_step (by (repeat' (first | (with_reducible exact Below.refl _ _) | (with_reducible exact Nat.le_refl _) | (with_reducible assumption) | (with_reducible refine below_step ?_ ?_ hr) | (with_reducible refine below_over ?_ ?_ _) | (with_reducible refine Below.alloc ?_ ?_ _) | (with_reducible refine Below.setCell ?_ ?_ _) | (with_reducible refine below_put ?_ ?_ _) | (with_reducible refine Below.drew ?_) | (with_reducible refine below_drewN_ ?_ _) | (with_reducible refine le_drewN ?_ _) | (with_reducible refine over_le _ _ _ ?_) | (with_reducible refine le_alloc ?_ _) | (with_reducible refine le_setCell ?_ _ _) | (with_reducible refine le_put ?_ _ _) | (with_reducible refine le_drew ?_) | dsimp only | omega | ((try simp only [World.size_alloc, World.size_setCell, World.size_drew, size_put]); omega) | (simp; done)))) (by (first | omega | ((try simp only [World.size_alloc, World.size_setCell, World.size_drew, size_put]); omega))) hb))
        have Q' : w2.heap[wr.heap.size]? = _ := hb.block (wr.heap.size) (by (first | omega | ((try simp only [World.size_alloc, World.size_setCell, World.size_drew, size_put]); omega)))
        simp only [alloc_block_if, put_block_if, over_block_if, set_block_if, setObj_cells, drew_block, drewN_block, Option.map_some, List.setIfInBounds_toArray, List.set_cons_zero, List.set_cons_succ, World.size_alloc, World.size_setCell, size_put, World.size_drew, if_true, if_false, ↓IntWalk.iteOmega] at Q'
        have Qwr_0 := Q'
        clear Q'
        have Lwr_0 : wr.heap.size < w2.heap.size := (by (first | omega | ((try simp only [World.size_alloc, World.size_setCell, World.size_drew, size_put]); omega)))
        clear hb
        rw [← put_self Qwr_0]
        have hBw2 : Below w.heap.size w w2 := hBr.trans (hB.mono hzr)
        have hol : Hid (∀ g, o.val.ownBlock = some g → g < wr.heap.size) := fun g hg => (HO.out.block g hg).2
        go_upto_region 9 with fail
        refine wp_letter (fun w3 hb => ?_)
        have HO3 := Lib.hid ((HO0.out.put Lwr_0 (fun g hg => by have := hol.out g hg; omega)).toW hb)
        have hz := hb.size
        (try simp only [World.size_alloc, World.size_setCell, World.size_drew, size_put] at hz)
        have hB : Below w.heap.size w w3 := below_step (by (repeat' (first | (with_reducible exact Below.refl _ _) | (with_reducible exact Nat.le_refl _) | (with_reducible assumption) | (with_reducible refine below_step ?_ ?_ hr) | (with_reducible refine below_over ?_ ?_ _) | (with_reducible refine Below.alloc ?_ ?_ _) | (with_reducible refine Below.setCell ?_ ?_ _) | (with_reducible refine below_put ?_ ?_ _) | (with_reducible refine Below.drew ?_) | (with_reducible refine below_drewN_ ?_ _) | (with_reducible refine le_drewN ?_ _) | (with_reducible refine over_le _ _ _ ?_) | (with_reducible refine le_alloc ?_ _) | (with_reducible refine le_setCell ?_ _ _) | (with_reducible refine le_put ?_ _ _) | (with_reducible refine le_drew ?_) | dsimp only | omega | ((try simp only [World.size_alloc, World.size_setCell, World.size_drew, size_put]); omega) | (simp; done)))) (by (first | omega | ((try simp only [World.size_alloc, World.size_setCell, World.size_drew, size_put]); omega))) hb
        have Q' : w3.heap[wr.heap.size]? = _ := hb.block (wr.heap.size) (by (first | omega | ((try simp only [World.size_alloc, World.size_setCell, World.size_drew, size_put]); omega)))
        simp only [alloc_block_if, put_block_if, over_block_if, set_block_if, setObj_cells, drew_block, drewN_block, Option.map_some, List.setIfInBounds_toArray, List.set_cons_zero, List.set_cons_succ, World.size_alloc, World.size_setCell, size_put, World.size_drew, if_true, if_false, ↓IntWalk.iteOmega, Lwr_0, Qwr_0] at Q'
        clear Qwr_0
        have Qwr_0 := Q'
        clear Q'
        have qwr_0 := cell_of_block Qwr_0
        clear hb
        have hzw3 : wr.heap.size < w3.heap.size := by omega
        clear HO HO0
        go_wp2_with (at_builtin
                     obtain ⟨i0, hi, hi0, hi1, hi2⟩ := info_parts info_ms
                     go_must (refine wpList_append_rd rfl _ _ _ rfl w.heap.size 30 i0 _ 7 56 Try.underlying22 hi hi0 hi1 hi2 rfl (by decide) (fun _ => rfl) one_ms (s := o) (y := ⟨some ⟨w3.heap.size, 0, none⟩, 1, 1⟩) (xs := L.take j) (ys := [⟨id, slide, by_, st, t, fr, till⟩]) rfl rfl (HO3.out.alloc' _) (rd_new 7 (fun _ => rfl) [_] rfl rfl rfl (by simp [maxLen])) (by simp only [maxLen]; omega) (by dsimp only; omega) (by simp; omega) ?_)
                     clear hi hi0 hi1 hi2 i0
                     intro o2 w4 hv hg hpos
                     have HO4 := Lib.hid hv
                     have hB4 : Below w.heap.size w w4 := Below.grown (by (repeat' (first | (with_reducible exact Below.refl _ _) | (with_reducible exact Nat.le_refl _) | (with_reducible assumption) | (with_reducible refine below_step ?_ ?_ hr) | (with_reducible refine below_over ?_ ?_ _) | (with_reducible refine Below.alloc ?_ ?_ _) | (with_reducible refine Below.setCell ?_ ?_ _) | (with_reducible refine below_put ?_ ?_ _) | (with_reducible refine Below.drew ?_) | (with_reducible refine below_drewN_ ?_ _) | (with_reducible refine le_drewN ?_ _) | (with_reducible refine over_le _ _ _ ?_) | (with_reducible refine le_alloc ?_ _) | (with_reducible refine le_setCell ?_ _ _) | (with_reducible refine le_put ?_ _ _) | (with_reducible refine le_drew ?_) | dsimp only | omega | ((try simp only [World.size_alloc, World.size_setCell, World.size_drew, size_put]); omega) | (simp; done)))) hg (by simp; omega) (fun g hg2 => by have := (HO3.out.block g hg2).1; omega)
                     clear hv hg hpos)
        go_roundw
        case rel => exact ⟨j + 1, o2, by omega, rfl, by go_num, Lib.hid (by rw [HT.out]; exact HO4.out), hB4⟩
        case measure => (simp [intOf] <;> omega)
      · have hjb : ((j : Int) == (k : Int)) = false := by simp; omega
        have hjb2 : (j == k) = false := by simpa using hjk
        have HT : Hid (L.take (j + 1) = L.take j ++ [⟨id, slide, by_, state, since, fr, till⟩]) := by
          show _ = _
          have h3 : L[j]? = some ⟨id, slide, by_, state, since, fr, till⟩ := by rw [HL.out, List.getElem?_set_ne (by omega)]; exact Hy.out
          rw [List.take_add_one, h3]
          rfl
        have HO0 := Lib.hid (HO.out.alloc' (.cells #[.int .i64 id, .int .i64 slide, .int .i64 by_, .int .i64 state, .int .i64 since, .int .i64 fr, .int .i64 till] 30))
        refine wp_letter (fun w3 hb => ?_)
        have hz := hb.size
        (try simp only [World.size_alloc, World.size_setCell, World.size_drew, size_put] at hz)
        have hB : Below wr.heap.size wr w3 := below_step (by (repeat' (first | (with_reducible exact Below.refl _ _) | (with_reducible exact Nat.le_refl _) | (with_reducible assumption) | (with_reducible refine below_step ?_ ?_ hr) | (with_reducible refine below_over ?_ ?_ _) | (with_reducible refine Below.alloc ?_ ?_ _) | (with_reducible refine Below.setCell ?_ ?_ _) | (with_reducible refine below_put ?_ ?_ _) | (with_reducible refine Below.drew ?_) | (with_reducible refine below_drewN_ ?_ _) | (with_reducible refine le_drewN ?_ _) | (with_reducible refine over_le _ _ _ ?_) | (with_reducible refine le_alloc ?_ _) | (with_reducible refine le_setCell ?_ _ _) | (with_reducible refine le_put ?_ _ _) | (with_reducible refine le_drew ?_) | dsimp only | omega | ((try simp only [World.size_alloc, World.size_setCell, World.size_drew, size_put]); omega) | (simp; done)))) (by (first | omega | ((try simp only [World.size_alloc, World.size_setCell, World.size_drew, size_put]); omega))) hb
        have HO0 := Lib.hid (HO0.out.toW (below_step (by (repeat' (first | (with_reducible exact Below.refl _ _) | (with_reducible exact Nat.le_refl _) | (with_reducible assumption) | (with_reducible refine below_step ?_ ?_ hr) | (with_reducible refine below_over ?_ ?_ _) | (with_reducible refine Below.alloc ?_ ?_ _) | (with_reducible refine Below.setCell ?_ ?_ _) | (with_reducible refine below_put ?_ ?_ _) | (with_reducible refine Below.drew ?_) | (with_reducible refine below_drewN_ ?_ _) | (with_reducible refine le_drewN ?_ _) | (with_reducible refine over_le _ _ _ ?_) | (with_reducible refine le_alloc ?_ _) | (with_reducible refine le_setCell ?_ _ _) | (with_reducible refine le_put ?_ _ _) | (with_reducible refine le_drew ?_) | dsimp only | omega | ((try simp only [World.size_alloc, World.size_setCell, World.size_drew, size_put]); omega) | (simp; done)))) (by (first | omega | ((try simp only [World.size_alloc, World.size_setCell, World.size_drew, size_put]); omega))) hb))
        have Q' : w3.heap[wr.heap.size]? = _ := hb.block (wr.heap.size) (by (first | omega | ((try simp only [World.size_alloc, World.size_setCell, World.size_drew, size_put]); omega)))
        simp only [alloc_block_if, put_block_if, over_block_if, set_block_if, setObj_cells, drew_block, drewN_block, Option.map_some, List.setIfInBounds_toArray, List.set_cons_zero, List.set_cons_succ, World.size_alloc, World.size_setCell, size_put, World.size_drew, if_true, if_false, ↓IntWalk.iteOmega] at Q'
        have Qwr_0 := Q'
        clear Q'
        have qwr_0 := cell_of_block Qwr_0
        clear hb
        have hBw3 : Below w.heap.size w w3 := hBr.trans (hB.mono hzr)
        have hzw3 : wr.heap.size < w3.heap.size := by omega
        clear HO
        go_wp2_with (at_builtin
                     obtain ⟨i0, hi, hi0, hi1, hi2⟩ := info_parts info_ms
                     go_must (refine wpList_append_rd rfl _ _ _ rfl w.heap.size 30 i0 _ 7 56 Try.underlying22 hi hi0 hi1 hi2 rfl (by decide) (fun _ => rfl) one_ms (s := o) (y := ⟨some ⟨w3.heap.size, 0, none⟩, 1, 1⟩) (xs := L.take j) (ys := [⟨id, slide, by_, state, since, fr, till⟩]) rfl rfl (HO0.out.alloc' _) (rd_new 7 (fun _ => rfl) [_] rfl rfl rfl (by simp [maxLen])) (by simp only [maxLen]; omega) (by dsimp only; omega) (by simp; omega) ?_)
                     clear hi hi0 hi1 hi2 i0
                     intro o2 w4 hv hg hpos
                     have HO4 := Lib.hid hv
                     have hB4 : Below w.heap.size w w4 := Below.grown (by (repeat' (first | (with_reducible exact Below.refl _ _) | (with_reducible exact Nat.le_refl _) | (with_reducible assumption) | (with_reducible refine below_step ?_ ?_ hr) | (with_reducible refine below_over ?_ ?_ _) | (with_reducible refine Below.alloc ?_ ?_ _) | (with_reducible refine Below.setCell ?_ ?_ _) | (with_reducible refine below_put ?_ ?_ _) | (with_reducible refine Below.drew ?_) | (with_reducible refine below_drewN_ ?_ _) | (with_reducible refine le_drewN ?_ _) | (with_reducible refine over_le _ _ _ ?_) | (with_reducible refine le_alloc ?_ _) | (with_reducible refine le_setCell ?_ _ _) | (with_reducible refine le_put ?_ _ _) | (with_reducible refine le_drew ?_) | dsimp only | omega | ((try simp only [World.size_alloc, World.size_setCell, World.size_drew, size_put]); omega) | (simp; done)))) hg (by simp; omega) (fun g hg2 => by have := (HO0.out.block g hg2).1; omega)
                     clear hv hg hpos)
        go_roundw
        case rel => exact ⟨j + 1, o2, by omega, rfl, by go_num, Lib.hid (by rw [HT.out]; exact HO4.out), hB4⟩
        case measure => (simp [intOf] <;> omega)
    · have HE : Hid (L.take j = L) := List.take_of_length_le (by rw [HLn.out]; omega)
      rw [HE.out] at HO
      go_wp2_with fail
      go_ret
      exact ⟨o, rfl, by go_light; (repeat' (first | (with_reducible exact Below.refl _ _) | (with_reducible exact Nat.le_refl _) | (with_reducible assumption) | (with_reducible refine below_step ?_ ?_ hr) | (with_reducible refine below_over ?_ ?_ _) | (with_reducible refine Below.alloc ?_ ?_ _) | (with_reducible refine Below.setCell ?_ ?_ _) | (with_reducible refine below_put ?_ ?_ _) | (with_reducible refine Below.drew ?_) | (with_reducible refine below_drewN_ ?_ _) | (with_reducible refine le_drewN ?_ _) | (with_reducible refine over_le _ _ _ ?_) | (with_reducible refine le_alloc ?_ _) | (with_reducible refine le_setCell ?_ _ _) | (with_reducible refine le_put ?_ _ _) | (with_reducible refine le_drew ?_) | dsimp only | omega | ((try simp only [World.size_alloc, World.size_setCell, World.size_drew, size_put]); omega) | (simp; done))), by go_light; exact HO.out⟩
end Go.Proofs.Ythcdnkhgmicpoaa
