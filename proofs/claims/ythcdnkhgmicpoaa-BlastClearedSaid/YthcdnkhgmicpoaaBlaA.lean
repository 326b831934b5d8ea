/- Missions: Active of the program. -/
import Derived.Test.YthcdnkhgmicpoaaBlaE
import Derived.Test.YthcdnkhgmicpoaaOwnI
namespace Go.Proofs.Ythcdnkhgmicpoaa
set_option linter.unusedSimpArgs false
set_option linter.unusedVariables false
open Go.RowKit
def slidesM (l : List MS) : List Int := (l.filter activeM).map MS.slide
theorem slides_hit {l : List MS} {k : Nat} {x : MS} (hx : l[k]? = some x) (h : activeM x = true) : slidesM (l.take (k + 1)) = slidesM (l.take k) ++ [x.slide] := by
  rw [List.take_add_one, hx, slidesM, List.filter_append]
  simp [slidesM, h]
theorem slides_not {l : List MS} {k : Nat} {x : MS} (hx : l[k]? = some x) (h : activeM x = false) : slidesM (l.take (k + 1)) = slidesM (l.take k) := by
  rw [List.take_add_one, hx, slidesM, List.filter_append]
  simp [slidesM, h]
theorem slides_len (l : List MS) : (slidesM l).length ≤ l.length := by unfold slidesM; rw [List.length_map]; exact List.length_filter_le _ _
theorem active_is {b : Bool} (m : MS) (w : World) (h : activeM m = b) : Calls Try.prog 50 #[m.val] w (Gives (.bool b) w) := h ▸ bla_active m w
set_option maxRecDepth 100000 in
set_option maxHeartbeats 3200000 in
theorem bla_Active (s : Sl) (l : List MS) (w : World) (hs : Rd w MS.enc s l) (hn : s.n ≤ 900) : Calls Try.prog 22 #[s.val] w (OwnIPost (sortI (slidesM l)) w) := by
  obtain ⟨A, n, c⟩ := s
  dsimp only at hn
  have Hs := Lib.hid hs
  have Hn : Hid (l.length = n) := hs.len
  clear hs
  simp only [Sl.val]
  (go_enter Try.func22, Try.ntmps22; try dsimp only [List.append])
  go_wp2_with fail
  go_loopw [3, 8] (fun u i wr => ∃ (k : Nat) (o : Sl), k ≤ n ∧ u = o.val ∧ i = .int .i64 k ∧ Hid (OwnI wr w.heap.size o (slidesM (l.take k))) ∧ Below w.heap.size w wr) (fun _ i _ => n - (intOf i).toNat)
  case atStart => exact ⟨0, ⟨none, 0, 0⟩, Nat.zero_le _, rfl, rfl, Own.nil_ _ _ _ _ _, Below.refl _ _⟩
  case round =>
    obtain ⟨k, o, hk, rfl, rfl, HO, hBr⟩ := hrel
    have hzr := hBr.size
    have hon : o.n ≤ k := by have h1 := HO.out.len; have h2 := slides_len (l.take k); have h4 := List.length_take_le k l; omega
    by_cases hlt : k < n
    · obtain ⟨b, off, ⟨id, slide, by_, state, since, fr, till⟩, rfl, hbw, -, Hy, hc0, hc1, hc2, hc3, hc4, hc5, hc6⟩ := Hs.out.ms hlt
      have e0 := (hBr.cell (p := ⟨b, _, none⟩) hbw).trans hc0
      have e1 := (hBr.cell (p := ⟨b, _, none⟩) hbw).trans hc1
      have e2 := (hBr.cell (p := ⟨b, _, none⟩) hbw).trans hc2
      have e3 := (hBr.cell (p := ⟨b, _, none⟩) hbw).trans hc3
      have e4 := (hBr.cell (p := ⟨b, _, none⟩) hbw).trans hc4
      have e5 := (hBr.cell (p := ⟨b, _, none⟩) hbw).trans hc5
      have e6 := (hBr.cell (p := ⟨b, _, none⟩) hbw).trans hc6
      clear hc0 hc1 hc2 hc3 hc4 hc5 hc6
      go_upto_region 5 with fail
      clear e0 e1 e2 e3 e4 e5 e6
      have HO0 := Lib.hid (HO.out.alloc' (.cells #[.int .i64 id, .int .i64 slide, .int .i64 by_, .int .i64 state, .int .i64 since, .int .i64 fr, .int .i64 till] 30))
      refine wp_letter (fun w2 hb => ?_)
      have hz := hb.size
      (try simp only [World.size_alloc, World.size_setCell, World.size_drew, size_put] at hz)
      have hB : Below wr.heap.size wr w2 := below_step (by (repeat' (first | (with_reducible exact Below.refl _ _) | (with_reducible exact Nat.le_refl _) | (with_reducible assumption) | (with_reducible refine below_step ?_ ?_ hr) | (with_reducible refine below_over ?_ ?_ _) | (with_reducible refine Below.alloc ?_ ?_ _) | (with_reducible refine Below.setCell ?_ ?_ _) | (with_reducible refine below_put ?_ ?_ _) | (with_reducible refine Below.drew ?_) | (with_reducible refine below_drewN_ ?_ _) | (with_reducible refine le_drewN ?_ _) | (with_reducible refine over_le _ _ _ ?_) | (with_reducible refine le_alloc ?_ _) | (with_reducible refine le_setCell ?_ _ _) | (with_reducible refine le_put ?_ _ _) | (with_reducible refine le_drew ?_) | dsimp only | omega | ((try simp only [World.size_alloc, World.size_setCell, World.size_drew, size_put]); omega) | (simp; done)))) (by (first | omega | ((try simp only [World.size_alloc, World.size_setCell, World.size_drew, size_put]); omega))) hb
      have HO0 := Lib.hid (HO0.out.toW (below_step (by (repeat' (first | (with_reducible exact Below.refl _ _) | (with_reducible exact Nat.le_refl _) | (with_reducible assumption) | (with_reducible refine below_step ?_ ?_ hr) | (with_reducible refine below_over ?_ ?_ _) | (with_reducible refine Below.alloc ?_ ?_ _) | (with_reducible refine Below.setCell ?_ ?_ _) | (with_reducible refine below_put ?_ ?_ _) | (with_reducible refine Below.drew ?_) | (with_reducible refine below_drewN_ ?_ _) | (with_reducible refine le_drewN ?_ _) | (with_reducible refine over_le _ _ _ ?_) | (with_reducible refine le_alloc ?_ _) | (with_reducible refine le_setCell ?_ _ _) | (with_reducible refine le_put ?_ _ _) | (with_reducible refine le_drew ?_) | dsimp only | omega | ((try simp only [World.size_alloc, World.size_setCell, World.size_drew, size_put]); omega) | (simp; done)))) (by (first | omega | ((try simp only [World.size_alloc, World.size_setCell, World.size_drew, size_put]); omega))) hb))
      have Q' : w2.heap[wr.heap.size]? = _ := hb.block (wr.heap.size) (by (first | omega | ((try simp only [World.size_alloc, World.size_setCell, World.size_drew, size_put]); omega)))
      simp only [alloc_block_if, put_block_if, over_block_if, set_block_if, setObj_cells, drew_block, drewN_block, Option.map_some, List.setIfInBounds_toArray, List.set_cons_zero, List.set_cons_succ, World.size_alloc, World.size_setCell, size_put, World.size_drew, if_true, if_false, ↓IntWalk.iteOmega] at Q'
      have Qwr_0 := Q'
      clear Q'
      have qwr_0 := cell_of_block Qwr_0
      clear hb
      have hBw2 : Below w.heap.size w w2 := hBr.trans (hB.mono hzr)
      have hlw2 : wr.heap.size < w2.heap.size := by omega
      clear HO
      cases ha : activeM ⟨id, slide, by_, state, since, fr, till⟩
      · have HE := Lib.hid (slides_not Hy.out ha)
        go_wp2_with (go_at_call 50; refine (active_is ⟨id, slide, by_, state, since, fr, till⟩ _ ha).mono ?_; rintro e w3 hg; obtain ⟨rfl, hb⟩ := hg.below; clear hg; have hz := hb.size; (try simp only [World.size_alloc, World.size_setCell, World.size_drew, size_put] at hz); have hB : Below w2.heap.size w2 w3 := below_step (by (repeat' (first | (with_reducible exact Below.refl _ _) | (with_reducible exact Nat.le_refl _) | (with_reducible assumption) | (with_reducible refine below_step ?_ ?_ hr) | (with_reducible refine below_over ?_ ?_ _) | (with_reducible refine Below.alloc ?_ ?_ _) | (with_reducible refine Below.setCell ?_ ?_ _) | (with_reducible refine below_put ?_ ?_ _) | (with_reducible refine Below.drew ?_) | (with_reducible refine below_drewN_ ?_ _) | (with_reducible refine le_drewN ?_ _) | (with_reducible refine over_le _ _ _ ?_) | (with_reducible refine le_alloc ?_ _) | (with_reducible refine le_setCell ?_ _ _) | (with_reducible refine le_put ?_ _ _) | (with_reducible refine le_drew ?_) | dsimp only | omega | ((try simp only [World.size_alloc, World.size_setCell, World.size_drew, size_put]); omega) | (simp; done)))) (by (first | omega | ((try simp only [World.size_alloc, World.size_setCell, World.size_drew, size_put]); omega))) hb; have HO0 := Lib.hid (HO0.out.toW (below_step (by (repeat' (first | (with_reducible exact Below.refl _ _) | (with_reducible exact Nat.le_refl _) | (with_reducible assumption) | (with_reducible refine below_step ?_ ?_ hr) | (with_reducible refine below_over ?_ ?_ _) | (with_reducible refine Below.alloc ?_ ?_ _) | (with_reducible refine Below.setCell ?_ ?_ _) | (with_reducible refine below_put ?_ ?_ _) | (with_reducible refine Below.drew ?_) | (with_reducible refine below_drewN_ ?_ _) | (with_reducible refine le_drewN ?_ _) | (with_reducible refine over_le _ _ _ ?_) | (with_reducible refine le_alloc ?_ _) | (with_reducible refine le_setCell ?_ _ _) | (with_reducible refine le_put ?_ _ _) | (with_reducible refine le_drew ?_) | dsimp only | omega | ((try simp only [World.size_alloc, World.size_setCell, World.size_drew, size_put]); omega) | (simp; done)))) (by (first | omega | ((try simp only [World.size_alloc, World.size_setCell, World.size_drew, size_put]); omega))) hb)); have Q' : w3.heap[wr.heap.size]? = _ := hb.block (wr.heap.size) (by (first | omega | ((try simp only [World.size_alloc, World.size_setCell, World.size_drew, size_put]); omega))); simp only [alloc_block_if, put_block_if, over_block_if, set_block_if, setObj_cells, drew_block, drewN_block, Option.map_some, List.setIfInBounds_toArray, List.set_cons_zero, List.set_cons_succ, World.size_alloc, World.size_setCell, size_put, World.size_drew, if_true, if_false, ↓IntWalk.iteOmega, Qwr_0] at Q'; clear Qwr_0; have Qwr_0 := Q'; clear Q'; have qwr_0 := cell_of_block Qwr_0; clear hb)
        have hBw3 : Below w.heap.size w w3 := hBw2.trans (hB.mono (by omega))
        go_roundw
        case rel => exact ⟨k + 1, o, by omega, rfl, by go_num, Lib.hid (by rw [HE.out]; exact HO0.out), by go_light; (repeat' (first | (with_reducible exact Below.refl _ _) | (with_reducible exact Nat.le_refl _) | (with_reducible assumption) | (with_reducible refine below_step ?_ ?_ hr) | (with_reducible refine below_over ?_ ?_ _) | (with_reducible refine Below.alloc ?_ ?_ _) | (with_reducible refine Below.setCell ?_ ?_ _) | (with_reducible refine below_put ?_ ?_ _) | (with_reducible refine Below.drew ?_) | (with_reducible refine below_drewN_ ?_ _) | (with_reducible refine le_drewN ?_ _) | (with_reducible refine over_le _ _ _ ?_) | (with_reducible refine le_alloc ?_ _) | (with_reducible refine le_setCell ?_ _ _) | (with_reducible refine le_put ?_ _ _) | (with_reducible refine le_drew ?_) | dsimp only | omega | ((try simp only [World.size_alloc, World.size_setCell, World.size_drew, size_put]); omega) | (simp; done)))⟩
        case measure => (simp [intOf] <;> omega)
      · have HE := Lib.hid (slides_hit Hy.out ha)
        dsimp only at HE
        go_upto_region 6 with (go_at_call 50; refine (active_is ⟨id, slide, by_, state, since, fr, till⟩ _ ha).mono ?_; rintro e w3 hg; obtain ⟨rfl, hb⟩ := hg.below; clear hg; have hz := hb.size; (try simp only [World.size_alloc, World.size_setCell, World.size_drew, size_put] at hz); have hB : Below w2.heap.size w2 w3 := below_step (by (repeat' (first | (with_reducible exact Below.refl _ _) | (with_reducible exact Nat.le_refl _) | (with_reducible assumption) | (with_reducible refine below_step ?_ ?_ hr) | (with_reducible refine below_over ?_ ?_ _) | (with_reducible refine Below.alloc ?_ ?_ _) | (with_reducible refine Below.setCell ?_ ?_ _) | (with_reducible refine below_put ?_ ?_ _) | (with_reducible refine Below.drew ?_) | (with_reducible refine below_drewN_ ?_ _) | (with_reducible refine le_drewN ?_ _) | (with_reducible refine over_le _ _ _ ?_) | (with_reducible refine le_alloc ?_ _) | (with_reducible refine le_setCell ?_ _ _) | (with_reducible refine le_put ?_ _ _) | (with_reducible refine le_drew ?_) | dsimp only | omega | ((try simp only [World.size_alloc, World.size_setCell, World.size_drew, size_put]); omega) | (simp; done)))) (by (first | omega | ((try simp only [World.size_alloc, World.size_setCell, World.size_drew, size_put]); omega))) hb; have HO0 := Lib.hid (HO0.out.toW (below_step (by (repeat' (first | (with_reducible exact Below.refl _ _) | (with_reducible exact Nat.le_refl _) | (with_reducible assumption) | (with_reducible refine below_step ?_ ?_ hr) | (with_reducible refine below_over ?_ ?_ _) | (with_reducible refine Below.alloc ?_ ?_ _) | (with_reducible refine Below.setCell ?_ ?_ _) | (with_reducible refine below_put ?_ ?_ _) | (with_reducible refine Below.drew ?_) | (with_reducible refine below_drewN_ ?_ _) | (with_reducible refine le_drewN ?_ _) | (with_reducible refine over_le _ _ _ ?_) | (with_reducible refine le_alloc ?_ _) | (with_reducible refine le_setCell ?_ _ _) | (with_reducible refine le_put ?_ _ _) | (with_reducible refine le_drew ?_) | dsimp only | omega | ((try simp only [World.size_alloc, World.size_setCell, World.size_drew, size_put]); omega) | (simp; done)))) (by (first | omega | ((try simp only [World.size_alloc, World.size_setCell, World.size_drew, size_put]); omega))) hb)); have Q' : w3.heap[wr.heap.size]? = _ := hb.block (wr.heap.size) (by (first | omega | ((try simp only [World.size_alloc, World.size_setCell, World.size_drew, size_put]); omega))); simp only [alloc_block_if, put_block_if, over_block_if, set_block_if, setObj_cells, drew_block, drewN_block, Option.map_some, List.setIfInBounds_toArray, List.set_cons_zero, List.set_cons_succ, World.size_alloc, World.size_setCell, size_put, World.size_drew, if_true, if_false, ↓IntWalk.iteOmega, Qwr_0] at Q'; clear Qwr_0; have Qwr_0 := Q'; clear Q'; have qwr_0 := cell_of_block Qwr_0; clear hb)
        have hBw3 : Below w.heap.size w w3 := hBw2.trans (hB.mono (by omega))
        have hlw3 : wr.heap.size < w3.heap.size := by omega
        go_wp2_with (at_builtin
                     obtain ⟨i0, hi, hi0, hi1, hi2⟩ := info_parts info_int
                     go_must (refine wpList_append_rd rfl _ _ _ rfl w.heap.size 3 i0 _ 1 8 Try.underlying39 hi hi0 hi1 hi2 rfl (by decide) (fun _ => rfl) one_int (s := o) (y := ⟨some ⟨w3.heap.size, 0, none⟩, 1, 1⟩) (xs := slidesM (l.take k)) (ys := [slide]) rfl rfl (HO0.out.alloc' _) (rd_new 1 (fun _ => rfl) [_] rfl rfl rfl (by simp [maxLen])) (by simp only [maxLen]; omega) (by dsimp only; omega) (by simp; omega) ?_)
                     clear hi hi0 hi1 hi2 i0
                     intro o2 w4 hv hg hpos
                     have HO4 := Lib.hid hv
                     have hB4 : Below w.heap.size w w4 := Below.grown (by (repeat' (first | (with_reducible exact Below.refl _ _) | (with_reducible exact Nat.le_refl _) | (with_reducible assumption) | (with_reducible refine below_step ?_ ?_ hr) | (with_reducible refine below_over ?_ ?_ _) | (with_reducible refine Below.alloc ?_ ?_ _) | (with_reducible refine Below.setCell ?_ ?_ _) | (with_reducible refine below_put ?_ ?_ _) | (with_reducible refine Below.drew ?_) | (with_reducible refine below_drewN_ ?_ _) | (with_reducible refine le_drewN ?_ _) | (with_reducible refine over_le _ _ _ ?_) | (with_reducible refine le_alloc ?_ _) | (with_reducible refine le_setCell ?_ _ _) | (with_reducible refine le_put ?_ _ _) | (with_reducible refine le_drew ?_) | dsimp only | omega | ((try simp only [World.size_alloc, World.size_setCell, World.size_drew, size_put]); omega) | (simp; done)))) hg (by simp; omega) (fun g hg2 => by have := (HO0.out.block g hg2).1; omega)
                     clear hv hg hpos)
        go_roundw
        case rel => exact ⟨k + 1, o2, by omega, rfl, by go_num, Lib.hid (by rw [HE.out]; exact HO4.out), hB4⟩
        case measure => (simp [intOf] <;> omega)
    · have HE : Hid (l.take k = l) := List.take_of_length_le (by rw [Hn.out]; omega)
      rw [HE.out] at HO
      go_wp2_with (go_at_call 51; refine (sort_own _ _ o _ HO.out (by omega) (by omega)).mono ?_; rintro e w5 ⟨rfl, hb5, hv5⟩; have HV5 := Lib.hid hv5; have hB5 : Below w.heap.size w w5 := hBr.trans (hb5.mono (by omega)); clear hv5 hb5)
      go_ret
      exact ⟨o, rfl, by go_light; (repeat' (first | (with_reducible exact Below.refl _ _) | (with_reducible exact Nat.le_refl _) | (with_reducible assumption) | (with_reducible refine below_step ?_ ?_ hr) | (with_reducible refine below_over ?_ ?_ _) | (with_reducible refine Below.alloc ?_ ?_ _) | (with_reducible refine Below.setCell ?_ ?_ _) | (with_reducible refine below_put ?_ ?_ _) | (with_reducible refine Below.drew ?_) | (with_reducible refine below_drewN_ ?_ _) | (with_reducible refine le_drewN ?_ _) | (with_reducible refine over_le _ _ _ ?_) | (with_reducible refine le_alloc ?_ _) | (with_reducible refine le_setCell ?_ _ _) | (with_reducible refine le_put ?_ _ _) | (with_reducible refine le_drew ?_) | dsimp only | omega | ((try simp only [World.size_alloc, World.size_setCell, World.size_drew, size_put]); omega) | (simp; done))), by go_light; exact HV5.out⟩
end Go.Proofs.Ythcdnkhgmicpoaa
