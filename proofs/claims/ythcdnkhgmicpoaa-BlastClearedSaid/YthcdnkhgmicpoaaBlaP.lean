/- Missions: Plan, of the program and of the reference. -/
import Derived.Test.YthcdnkhgmicpoaaBlaQ
import Derived.Test.YthcdnkhgmicpoaaOrdApp
namespace Go.Proofs.Ythcdnkhgmicpoaa
set_option linter.unusedSimpArgs false
set_option linter.unusedVariables false
open Go.RowKit
theorem any_letter {P : Program} {ops : Array Oper} {Q : Exit → Act → World → Prop} {S : World → Prop} {fuel : Nat} {listed : Array Bool} {a : Act} {W : World} (h : ∀ w0, Below W.heap.size W w0 → wpAnyH P .any ops Q S fuel listed a w0) : wpAnyH P .any ops Q S fuel listed a W := h W (Below.refl _ _)
/-- A list of missions in memory of the call's own, and an error. -/
def MGives (e0 : Int) (xs : List MS) (w : World) (e : Ending) (w' : World) : Prop := ∃ v : Sl, e = .returned (.tuple #[.slice v.a v.n v.c, .int .i64 e0]) ∧ Below w.heap.size w w' ∧ OwnM w' w.heap.size v xs
theorem mg_none {w w' : World} {e0 : Int} (hb : Below w.heap.size w w') : MGives e0 [] w (.returned (.tuple #[.slice none 0 0, .int .i64 e0])) w' := ⟨⟨none, 0, 0⟩, rfl, hb, Own.nil_ _ _ _ _ _⟩
def planE (l : List MS) (m : MS) : Int := if (m.state != 0) = true then 10 else right51 (l ++ [m])
def planF (l : List MS) (m : MS) : List MS := if planE l m = 0 then l ++ [m] else []
set_option maxRecDepth 100000 in
set_option maxHeartbeats 6400000 in
theorem bla_Plan (s : Sl) (l : List MS) (m : MS) (w : World) (hs : Rd w MS.enc s l) (hn : s.n ≤ 900) : Calls Try.prog 14 #[s.val, m.val] w (MGives (planE l m) (planF l m) w) := by
  obtain ⟨A, n, c⟩ := s
  obtain ⟨id, slide, by_, state, since, fr, till⟩ := m
  dsimp only at hn
  have Hs := Lib.hid hs
  have Hn : Hid (l.length = n) := hs.len
  clear hs
  simp only [Sl.val]
  cases hst : (state != 0)
  rotate_left
  · have e1 : planE l ⟨id, slide, by_, state, since, fr, till⟩ = 10 := by unfold planE; rw [if_pos hst]
    have e2 : planF l ⟨id, slide, by_, state, since, fr, till⟩ = [] := by unfold planF; rw [e1]; rfl
    rw [e1, e2]
    clear e1 e2
    (go_enter Try.func14, Try.ntmps14; try dsimp only [List.append])
    go_wp2_with fail
    refine bodyPost_ret (v := .tuple #[.slice none 0 0, .int .i64 10]) (by simp [results, Try.results14, go_sem]) rfl ?_
    exact mg_none (by go_light; (repeat' (first | (with_reducible exact Below.refl _ _) | (with_reducible exact Nat.le_refl _) | (with_reducible assumption) | (with_reducible refine below_step ?_ ?_ hr) | (with_reducible refine below_over ?_ ?_ _) | (with_reducible refine Below.alloc ?_ ?_ _) | (with_reducible refine Below.setCell ?_ ?_ _) | (with_reducible refine below_put ?_ ?_ _) | (with_reducible refine Below.drew ?_) | (with_reducible refine below_drewN_ ?_ _) | (with_reducible refine le_drewN ?_ _) | (with_reducible refine over_le _ _ _ ?_) | (with_reducible refine le_alloc ?_ _) | (with_reducible refine le_setCell ?_ _ _) | (with_reducible refine le_put ?_ _ _) | (with_reducible refine le_drew ?_) | dsimp only | omega | ((try simp only [World.size_alloc, World.size_setCell, World.size_drew, size_put]); omega) | (simp; done))))
  obtain ⟨R, hR⟩ : ∃ R, R = right51 (l ++ [(⟨id, slide, by_, state, since, fr, till⟩ : MS)]) := ⟨_, rfl⟩
  have e1 : planE l ⟨id, slide, by_, state, since, fr, till⟩ = R := by unfold planE; rw [if_neg (by rw [hst]; simp), hR]
  have e2 : planF l ⟨id, slide, by_, state, since, fr, till⟩ = if R = 0 then l ++ [⟨id, slide, by_, state, since, fr, till⟩] else [] := by unfold planF; rw [e1]
  rw [e1, e2]
  have HR := Lib.hid hR
  clear e1 e2 hR
  generalize hV : MGives R (if R = 0 then l ++ [⟨id, slide, by_, state, since, fr, till⟩] else []) w = P
  have HP := Lib.hid hV
  clear hV
  (go_enter Try.func14, Try.ntmps14; try dsimp only [List.append])
  go_upto_region 3 with fail
  clear hst
  refine wp_letter (fun w1 hb => ?_)
  have hz := hb.size
  (try simp only [World.size_alloc, World.size_setCell, World.size_drew, size_put] at hz)
  have hB : Below w.heap.size w w1 := below_step (by (repeat' (first | (with_reducible exact Below.refl _ _) | (with_reducible exact Nat.le_refl _) | (with_reducible assumption) | (with_reducible refine below_step ?_ ?_ hr) | (with_reducible refine below_over ?_ ?_ _) | (with_reducible refine Below.alloc ?_ ?_ _) | (with_reducible refine Below.setCell ?_ ?_ _) | (with_reducible refine below_put ?_ ?_ _) | (with_reducible refine Below.drew ?_) | (with_reducible refine below_drewN_ ?_ _) | (with_reducible refine le_drewN ?_ _) | (with_reducible refine over_le _ _ _ ?_) | (with_reducible refine le_alloc ?_ _) | (with_reducible refine le_setCell ?_ _ _) | (with_reducible refine le_put ?_ _ _) | (with_reducible refine le_drew ?_) | dsimp only | omega | ((try simp only [World.size_alloc, World.size_setCell, World.size_drew, size_put]); omega) | (simp; done)))) (by (first | omega | ((try simp only [World.size_alloc, World.size_setCell, World.size_drew, size_put]); omega))) hb
  have Q' : w1.heap[w.heap.size]? = _ := hb.block (w.heap.size) (by (first | omega | ((try simp only [World.size_alloc, World.size_setCell, World.size_drew, size_put]); omega)))
  simp only [alloc_block_if, put_block_if, over_block_if, set_block_if, setObj_cells, drew_block, drewN_block, Option.map_some, List.setIfInBounds_toArray, List.set_cons_zero, List.set_cons_succ, World.size_alloc, World.size_setCell, size_put, World.size_drew, if_true, if_false, ↓IntWalk.iteOmega] at Q'
  have Q_0 := Q'
  clear Q'
  have q_0 := cell_of_block Q_0
  clear hb
  have hB1 := hB
  have hz1 : w.heap.size + 1 ≤ w1.heap.size := hz
  have l0 : w.heap.size < w1.heap.size := by omega
  go_cut [6] (fun c6 wx => ∃ v : Sl, c6 = v.val ∧ Below w1.heap.size w1 wx ∧ Hid (OwnM wx w1.heap.size v (l ++ [⟨id, slide, by_, state, since, fr, till⟩])))
  case first =>
    refine wp_region_ord (by kernel_rfl) (fun wx hr => ?_)
    simp only [List.length_cons, List.length_nil, Nat.reduceAdd]
    have hzx := hr.size
    have hBwx : Below w.heap.size w wx := hB1.trans (hr.mono (by omega))
    refine wpAnyH_one 0 rfl rfl (by kernel_rfl) (by kernel_rfl) (fun _ _ _ _ _ h => h) (over_ex (by go_light; (repeat' (first | (with_reducible exact Below.refl _ _) | (with_reducible exact Nat.le_refl _) | (with_reducible assumption) | (with_reducible refine below_step ?_ ?_ hr) | (with_reducible refine below_over ?_ ?_ _) | (with_reducible refine Below.alloc ?_ ?_ _) | (with_reducible refine Below.setCell ?_ ?_ _) | (with_reducible refine below_put ?_ ?_ _) | (with_reducible refine Below.drew ?_) | (with_reducible refine below_drewN_ ?_ _) | (with_reducible refine le_drewN ?_ _) | (with_reducible refine over_le _ _ _ ?_) | (with_reducible refine le_alloc ?_ _) | (with_reducible refine le_setCell ?_ _ _) | (with_reducible refine le_put ?_ _ _) | (with_reducible refine le_drew ?_) | dsimp only | omega | ((try simp only [World.size_alloc, World.size_setCell, World.size_drew, size_put]); omega) | (simp; done))))) ?_
    (first | go_big_quiet_step (fail) | quiet_step (fail))
    refine wpQuiet_nil ?_
    refine wpAnyH_one 2 rfl rfl (by kernel_rfl) (by kernel_rfl) (fun _ _ _ _ _ h => h) (over_ex (by go_light; (repeat' (first | (with_reducible exact Below.refl _ _) | (with_reducible exact Nat.le_refl _) | (with_reducible assumption) | (with_reducible refine below_step ?_ ?_ hr) | (with_reducible refine below_over ?_ ?_ _) | (with_reducible refine Below.alloc ?_ ?_ _) | (with_reducible refine Below.setCell ?_ ?_ _) | (with_reducible refine below_put ?_ ?_ _) | (with_reducible refine Below.drew ?_) | (with_reducible refine below_drewN_ ?_ _) | (with_reducible refine le_drewN ?_ _) | (with_reducible refine over_le _ _ _ ?_) | (with_reducible refine le_alloc ?_ _) | (with_reducible refine le_setCell ?_ _ _) | (with_reducible refine le_put ?_ _ _) | (with_reducible refine le_drew ?_) | dsimp only | omega | ((try simp only [World.size_alloc, World.size_setCell, World.size_drew, size_put]); omega) | (simp; done))))) ?_
    (first | go_big_quiet_step (fail) | quiet_step (fail))
    refine wpQuiet_nil ?_
    refine wpAnyH_two 1 3 (by kernel_rfl) ?_ ?_
    · refine wpOp_at (k := 1) rfl (fun K hK => ?_)
      go_simp
      (refine calls_args ((clone_ms ⟨A, n, c⟩ l _ (Hs.out.toW hBwx) (by dsimp only; omega)).mono ?_) ?_; rotate_left; (with_reducible rfl); rintro e u1 ⟨v, rfl, hb, hv⟩; have H1 := Lib.hid hv; clear hv; have hs_u1 := hb.size; have hr := below_step hr (by (first | omega | ((try simp only [World.size_alloc, World.size_setCell, World.size_drew, size_put]); omega))) hb; clear hb)
      refine hK _ _ (over_ex (by go_light; (repeat' (first | (with_reducible exact Below.refl _ _) | (with_reducible exact Nat.le_refl _) | (with_reducible assumption) | (with_reducible refine below_step ?_ ?_ hr) | (with_reducible refine below_over ?_ ?_ _) | (with_reducible refine Below.alloc ?_ ?_ _) | (with_reducible refine Below.setCell ?_ ?_ _) | (with_reducible refine below_put ?_ ?_ _) | (with_reducible refine Below.drew ?_) | (with_reducible refine below_drewN_ ?_ _) | (with_reducible refine le_drewN ?_ _) | (with_reducible refine over_le _ _ _ ?_) | (with_reducible refine le_alloc ?_ _) | (with_reducible refine le_setCell ?_ _ _) | (with_reducible refine le_put ?_ _ _) | (with_reducible refine le_drew ?_) | dsimp only | omega | ((try simp only [World.size_alloc, World.size_setCell, World.size_drew, size_put]); omega) | (simp; done))))) ?_
      clear hK K
      refine wpAnyH_sole 3 rfl (by kernel_rfl) (fun K hK => ?_)
      go_simp
      refine hK _ _ (over_ex (by go_light; (repeat' (first | (with_reducible exact Below.refl _ _) | (with_reducible exact Nat.le_refl _) | (with_reducible assumption) | (with_reducible refine below_step ?_ ?_ hr) | (with_reducible refine below_over ?_ ?_ _) | (with_reducible refine Below.alloc ?_ ?_ _) | (with_reducible refine Below.setCell ?_ ?_ _) | (with_reducible refine below_put ?_ ?_ _) | (with_reducible refine Below.drew ?_) | (with_reducible refine below_drewN_ ?_ _) | (with_reducible refine le_drewN ?_ _) | (with_reducible refine over_le _ _ _ ?_) | (with_reducible refine le_alloc ?_ _) | (with_reducible refine le_setCell ?_ _ _) | (with_reducible refine le_put ?_ _ _) | (with_reducible refine le_drew ?_) | dsimp only | omega | ((try simp only [World.size_alloc, World.size_setCell, World.size_drew, size_put]); omega) | (simp; done))))) ?_
      clear hK K
      refine any_letter (fun u2 hb => ?_)
      have QS := (hb.block u1.heap.size (by (first | omega | ((try simp only [World.size_alloc, World.size_setCell, World.size_drew, size_put]); omega)))).trans ((alloc_block_if _ _ _).trans (if_pos rfl))
      have hb2 : Below u1.heap.size u1 u2 := below_step (Below.alloc (Below.refl _ _) (Nat.le_refl _) _) (by simp only [World.size_alloc]; omega) hb
      have H1 := Lib.hid (H1.out.toW hb2)
      have hs_u2 := hb.size
      simp only [World.size_alloc] at hs_u2
      have hr := hr.trans (hb2.mono hr.size)
      clear hb hb2
      have hvl : v.n = n := by (have h1 := H1.out.len; have h2 := Hn.out; omega)
      refine wpAnyH_sole 4 rfl (by kernel_rfl) (fun K hK => ?_)
      rw [if_pos (by rfl)]
      obtain ⟨i0, hi, hi0, hi1, hi2⟩ := info_parts info_ms
      have hown := (H1.out.base (by omega) : Own _ w1.heap.size 30 7 _ v _)
      refine oper_append_rd _ _ _ rfl w1.heap.size 30 i0 _ 7 56 Try.underlying22 hi hi0 hi1 hi2 rfl (by decide) (fun _ => rfl) one_ms (s := v) (y := ⟨some ⟨u1.heap.size, 0, none⟩, 1, 1⟩) (xs := l) (ys := [⟨id, slide, by_, state, since, fr, till⟩]) rfl rfl hown (rd_lit 7 (fun _ => rfl) _ QS rfl rfl (by simp [maxLen])) (by simp only [maxLen]; omega) (by dsimp only; omega) hr.size ?_
      clear hi hi0 hi1 hi2 i0
      intro v2 u3 hv hg hpos
      have H2 := Lib.hid hv
      have hs_u3 := hg.size
      have hr := Below.grown hr hg hr.size (fun g hg2 => (hown.block g hg2).1)
      clear hv hg hpos hown
      refine hK _ _ (over_ex hr) ?_
      clear hK K
      refine wpAnyH_one 5 rfl rfl (by kernel_rfl) (by kernel_rfl) (fun _ _ _ _ _ h => h) (over_ex (by go_light; (repeat' (first | (with_reducible exact Below.refl _ _) | (with_reducible exact Nat.le_refl _) | (with_reducible assumption) | (with_reducible refine below_step ?_ ?_ hr) | (with_reducible refine below_over ?_ ?_ _) | (with_reducible refine Below.alloc ?_ ?_ _) | (with_reducible refine Below.setCell ?_ ?_ _) | (with_reducible refine below_put ?_ ?_ _) | (with_reducible refine Below.drew ?_) | (with_reducible refine below_drewN_ ?_ _) | (with_reducible refine le_drewN ?_ _) | (with_reducible refine over_le _ _ _ ?_) | (with_reducible refine le_alloc ?_ _) | (with_reducible refine le_setCell ?_ _ _) | (with_reducible refine le_put ?_ _ _) | (with_reducible refine le_drew ?_) | dsimp only | omega | ((try simp only [World.size_alloc, World.size_setCell, World.size_drew, size_put]); omega) | (simp; done))))) ?_
      (first | go_big_quiet_step (fail) | quiet_step (fail))
      refine wpQuiet_nil ?_
      refine wpAnyH_done (by kernel_rfl) ?_ _
      go_wp2_with fail
      go_meet
      case rel => exact ⟨v2, rfl, hr, H2⟩
    · refine wpOp_at (k := 3) rfl (fun K hK => ?_)
      go_simp
      refine hK _ _ (over_ex (by go_light; (repeat' (first | (with_reducible exact Below.refl _ _) | (with_reducible exact Nat.le_refl _) | (with_reducible assumption) | (with_reducible refine below_step ?_ ?_ hr) | (with_reducible refine below_over ?_ ?_ _) | (with_reducible refine Below.alloc ?_ ?_ _) | (with_reducible refine Below.setCell ?_ ?_ _) | (with_reducible refine below_put ?_ ?_ _) | (with_reducible refine Below.drew ?_) | (with_reducible refine below_drewN_ ?_ _) | (with_reducible refine le_drewN ?_ _) | (with_reducible refine over_le _ _ _ ?_) | (with_reducible refine le_alloc ?_ _) | (with_reducible refine le_setCell ?_ _ _) | (with_reducible refine le_put ?_ _ _) | (with_reducible refine le_drew ?_) | dsimp only | omega | ((try simp only [World.size_alloc, World.size_setCell, World.size_drew, size_put]); omega) | (simp; done))))) ?_
      clear hK K
      refine any_letter (fun u4 hb => ?_)
      have QS := (hb.block wx.heap.size (by (first | omega | ((try simp only [World.size_alloc, World.size_setCell, World.size_drew, size_put]); omega)))).trans ((alloc_block_if _ _ _).trans (if_pos rfl))
      have hb2 : Below wx.heap.size wx u4 := below_step (Below.alloc (Below.refl _ _) (Nat.le_refl _) _) (by simp only [World.size_alloc]; omega) hb
      have hs_u4 := hb.size
      simp only [World.size_alloc] at hs_u4
      have hr := hr.trans (hb2.mono hr.size)
      clear hb hb2
      have hBw4 : Below w.heap.size w u4 := hB1.trans (hr.mono (by omega))
      refine wpAnyH_sole 1 rfl (by kernel_rfl) (fun K hK => ?_)
      go_simp
      (refine calls_args ((clone_ms ⟨A, n, c⟩ l _ (Hs.out.toW hBw4) (by dsimp only; omega)).mono ?_) ?_; rotate_left; (with_reducible rfl); rintro e u5 ⟨v, rfl, hb, hv⟩; have H1 := Lib.hid hv; clear hv; have QS := (hb.block _ (by (first | omega | ((try simp only [World.size_alloc, World.size_setCell, World.size_drew, size_put]); omega)))).trans QS; have hs_u5 := hb.size; have hr := below_step hr (by (first | omega | ((try simp only [World.size_alloc, World.size_setCell, World.size_drew, size_put]); omega))) hb; clear hb)
      refine hK _ _ (over_ex (by go_light; (repeat' (first | (with_reducible exact Below.refl _ _) | (with_reducible exact Nat.le_refl _) | (with_reducible assumption) | (with_reducible refine below_step ?_ ?_ hr) | (with_reducible refine below_over ?_ ?_ _) | (with_reducible refine Below.alloc ?_ ?_ _) | (with_reducible refine Below.setCell ?_ ?_ _) | (with_reducible refine below_put ?_ ?_ _) | (with_reducible refine Below.drew ?_) | (with_reducible refine below_drewN_ ?_ _) | (with_reducible refine le_drewN ?_ _) | (with_reducible refine over_le _ _ _ ?_) | (with_reducible refine le_alloc ?_ _) | (with_reducible refine le_setCell ?_ _ _) | (with_reducible refine le_put ?_ _ _) | (with_reducible refine le_drew ?_) | dsimp only | omega | ((try simp only [World.size_alloc, World.size_setCell, World.size_drew, size_put]); omega) | (simp; done))))) ?_
      clear hK K
      have hvl : v.n = n := by (have h1 := H1.out.len; have h2 := Hn.out; omega)
      refine wpAnyH_sole 4 rfl (by kernel_rfl) (fun K hK => ?_)
      rw [if_pos (by rfl)]
      obtain ⟨i0, hi, hi0, hi1, hi2⟩ := info_parts info_ms
      have hown := (H1.out.base (by omega) : Own _ w1.heap.size 30 7 _ v _)
      refine oper_append_rd _ _ _ rfl w1.heap.size 30 i0 _ 7 56 Try.underlying22 hi hi0 hi1 hi2 rfl (by decide) (fun _ => rfl) one_ms (s := v) (y := ⟨some ⟨wx.heap.size, 0, none⟩, 1, 1⟩) (xs := l) (ys := [⟨id, slide, by_, state, since, fr, till⟩]) rfl rfl hown (rd_lit 7 (fun _ => rfl) _ QS rfl rfl (by simp [maxLen])) (by simp only [maxLen]; omega) (by dsimp only; omega) hr.size ?_
      clear hi hi0 hi1 hi2 i0
      intro v2 u6 hv hg hpos
      have H2 := Lib.hid hv
      have hs_u6 := hg.size
      have hr := Below.grown hr hg hr.size (fun g hg2 => (hown.block g hg2).1)
      clear hv hg hpos hown
      refine hK _ _ (over_ex hr) ?_
      clear hK K
      refine wpAnyH_one 5 rfl rfl (by kernel_rfl) (by kernel_rfl) (fun _ _ _ _ _ h => h) (over_ex (by go_light; (repeat' (first | (with_reducible exact Below.refl _ _) | (with_reducible exact Nat.le_refl _) | (with_reducible assumption) | (with_reducible refine below_step ?_ ?_ hr) | (with_reducible refine below_over ?_ ?_ _) | (with_reducible refine Below.alloc ?_ ?_ _) | (with_reducible refine Below.setCell ?_ ?_ _) | (with_reducible refine below_put ?_ ?_ _) | (with_reducible refine Below.drew ?_) | (with_reducible refine below_drewN_ ?_ _) | (with_reducible refine le_drewN ?_ _) | (with_reducible refine over_le _ _ _ ?_) | (with_reducible refine le_alloc ?_ _) | (with_reducible refine le_setCell ?_ _ _) | (with_reducible refine le_put ?_ _ _) | (with_reducible refine le_drew ?_) | dsimp only | omega | ((try simp only [World.size_alloc, World.size_setCell, World.size_drew, size_put]); omega) | (simp; done))))) ?_
      (first | go_big_quiet_step (fail) | quiet_step (fail))
      refine wpQuiet_nil ?_
      refine wpAnyH_done (by kernel_rfl) ?_ _
      go_wp2_with fail
      go_meet
      case rel => exact ⟨v2, rfl, hr, H2⟩
  case rest =>
    obtain ⟨v, rfl, hBx, HO⟩ := hcut
    have hBwc : Below w.heap.size w wc := hB1.trans (hBx.mono (by omega))
    have hzc := hBwc.size
    have hzc1 := hBx.size
    have Hc := Lib.hid (bla_Right v _ wc (HO.out.rd (fun _ => rfl)))
    rw [← HR.out] at Hc
    cases hr0 : (R == 0)
    · have h6 : (R != 0) = true := by simp at hr0 ⊢; exact hr0
      go_wp2_with (go_at_call 12; refine (Hc.out).mono ?_; rintro e w7 hg; obtain ⟨rfl, hb⟩ := hg.below; clear hg; have hz := hb.size; (try simp only [World.size_alloc, World.size_setCell, World.size_drew, size_put] at hz); have hB : Below w.heap.size w w7 := below_step (by (repeat' (first | (with_reducible exact Below.refl _ _) | (with_reducible exact Nat.le_refl _) | (with_reducible assumption) | (with_reducible refine below_step ?_ ?_ hr) | (with_reducible refine below_over ?_ ?_ _) | (with_reducible refine Below.alloc ?_ ?_ _) | (with_reducible refine Below.setCell ?_ ?_ _) | (with_reducible refine below_put ?_ ?_ _) | (with_reducible refine Below.drew ?_) | (with_reducible refine below_drewN_ ?_ _) | (with_reducible refine le_drewN ?_ _) | (with_reducible refine over_le _ _ _ ?_) | (with_reducible refine le_alloc ?_ _) | (with_reducible refine le_setCell ?_ _ _) | (with_reducible refine le_put ?_ _ _) | (with_reducible refine le_drew ?_) | dsimp only | omega | ((try simp only [World.size_alloc, World.size_setCell, World.size_drew, size_put]); omega) | (simp; done)))) (by (first | omega | ((try simp only [World.size_alloc, World.size_setCell, World.size_drew, size_put]); omega))) hb; clear hb)
      show P (.returned (.tuple #[.slice none 0 0, .int .i64 R])) _
      rw [← HP.out, if_neg (by simpa using hr0)]
      exact mg_none (by go_light; (repeat' (first | (with_reducible exact Below.refl _ _) | (with_reducible exact Nat.le_refl _) | (with_reducible assumption) | (with_reducible refine below_step ?_ ?_ hr) | (with_reducible refine below_over ?_ ?_ _) | (with_reducible refine Below.alloc ?_ ?_ _) | (with_reducible refine Below.setCell ?_ ?_ _) | (with_reducible refine below_put ?_ ?_ _) | (with_reducible refine Below.drew ?_) | (with_reducible refine below_drewN_ ?_ _) | (with_reducible refine le_drewN ?_ _) | (with_reducible refine over_le _ _ _ ?_) | (with_reducible refine le_alloc ?_ _) | (with_reducible refine le_setCell ?_ _ _) | (with_reducible refine le_put ?_ _ _) | (with_reducible refine le_drew ?_) | dsimp only | omega | ((try simp only [World.size_alloc, World.size_setCell, World.size_drew, size_put]); omega) | (simp; done))))
    · have h6 : (R != 0) = false := by simp at hr0 ⊢; exact hr0
      have h7 : R = 0 := by simpa using hr0
      go_wp2_with (go_at_call 12; refine (Hc.out).mono ?_; rintro e w7 hg; obtain ⟨rfl, hb⟩ := hg.below; clear hg; have hz := hb.size; (try simp only [World.size_alloc, World.size_setCell, World.size_drew, size_put] at hz); have hB : Below w.heap.size w w7 := below_step (by (repeat' (first | (with_reducible exact Below.refl _ _) | (with_reducible exact Nat.le_refl _) | (with_reducible assumption) | (with_reducible refine below_step ?_ ?_ hr) | (with_reducible refine below_over ?_ ?_ _) | (with_reducible refine Below.alloc ?_ ?_ _) | (with_reducible refine Below.setCell ?_ ?_ _) | (with_reducible refine below_put ?_ ?_ _) | (with_reducible refine Below.drew ?_) | (with_reducible refine below_drewN_ ?_ _) | (with_reducible refine le_drewN ?_ _) | (with_reducible refine over_le _ _ _ ?_) | (with_reducible refine le_alloc ?_ _) | (with_reducible refine le_setCell ?_ _ _) | (with_reducible refine le_put ?_ _ _) | (with_reducible refine le_drew ?_) | dsimp only | omega | ((try simp only [World.size_alloc, World.size_setCell, World.size_drew, size_put]); omega) | (simp; done)))) (by (first | omega | ((try simp only [World.size_alloc, World.size_setCell, World.size_drew, size_put]); omega))) hb; have HO := Lib.hid (HO.out.toW (below_step (by (repeat' (first | (with_reducible exact Below.refl _ _) | (with_reducible exact Nat.le_refl _) | (with_reducible assumption) | (with_reducible refine below_step ?_ ?_ hr) | (with_reducible refine below_over ?_ ?_ _) | (with_reducible refine Below.alloc ?_ ?_ _) | (with_reducible refine Below.setCell ?_ ?_ _) | (with_reducible refine below_put ?_ ?_ _) | (with_reducible refine Below.drew ?_) | (with_reducible refine below_drewN_ ?_ _) | (with_reducible refine le_drewN ?_ _) | (with_reducible refine over_le _ _ _ ?_) | (with_reducible refine le_alloc ?_ _) | (with_reducible refine le_setCell ?_ _ _) | (with_reducible refine le_put ?_ _ _) | (with_reducible refine le_drew ?_) | dsimp only | omega | ((try simp only [World.size_alloc, World.size_setCell, World.size_drew, size_put]); omega) | (simp; done)))) (by (first | omega | ((try simp only [World.size_alloc, World.size_setCell, World.size_drew, size_put]); omega))) hb)); clear hb)
      show P (.returned (.tuple #[.slice v.a v.n v.c, .int .i64 0])) _
      rw [← HP.out, if_pos h7, h7]
      exact ⟨v, rfl, by go_light; (repeat' (first | (with_reducible exact Below.refl _ _) | (with_reducible exact Nat.le_refl _) | (with_reducible assumption) | (with_reducible refine below_step ?_ ?_ hr) | (with_reducible refine below_over ?_ ?_ _) | (with_reducible refine Below.alloc ?_ ?_ _) | (with_reducible refine Below.setCell ?_ ?_ _) | (with_reducible refine below_put ?_ ?_ _) | (with_reducible refine Below.drew ?_) | (with_reducible refine below_drewN_ ?_ _) | (with_reducible refine le_drewN ?_ _) | (with_reducible refine over_le _ _ _ ?_) | (with_reducible refine le_alloc ?_ _) | (with_reducible refine le_setCell ?_ _ _) | (with_reducible refine le_put ?_ _ _) | (with_reducible refine le_drew ?_) | dsimp only | omega | ((try simp only [World.size_alloc, World.size_setCell, World.size_drew, size_put]); omega) | (simp; done))), by go_light; exact HO.out.base (by omega)⟩
set_option maxRecDepth 100000 in
set_option maxHeartbeats 6400000 in
theorem ref51_Plan (s : Sl) (l : List MS) (m : MS) (w : World) (hs : Rd w MS.enc s l) (hn : s.n ≤ 900) : Calls Try.prog 15 #[s.val, m.val] w (MGives (planE l m) (planF l m) w) := by
  obtain ⟨A, n, c⟩ := s
  obtain ⟨id, slide, by_, state, since, fr, till⟩ := m
  dsimp only at hn
  have Hs := Lib.hid hs
  have Hn : Hid (l.length = n) := hs.len
  clear hs
  simp only [Sl.val]
  cases hst : (state != 0)
  rotate_left
  · have e1 : planE l ⟨id, slide, by_, state, since, fr, till⟩ = 10 := by unfold planE; rw [if_pos hst]
    have e2 : planF l ⟨id, slide, by_, state, since, fr, till⟩ = [] := by unfold planF; rw [e1]; rfl
    rw [e1, e2]
    clear e1 e2
    (go_enter Try.func15, Try.ntmps15; try dsimp only [List.append])
    go_wp2_with fail
    refine bodyPost_ret (v := .tuple #[.slice none 0 0, .int .i64 10]) (by simp [results, Try.results15, go_sem]) rfl ?_
    exact mg_none (by go_light; (repeat' (first | (with_reducible exact Below.refl _ _) | (with_reducible exact Nat.le_refl _) | (with_reducible assumption) | (with_reducible refine below_step ?_ ?_ hr) | (with_reducible refine below_over ?_ ?_ _) | (with_reducible refine Below.alloc ?_ ?_ _) | (with_reducible refine Below.setCell ?_ ?_ _) | (with_reducible refine below_put ?_ ?_ _) | (with_reducible refine Below.drew ?_) | (with_reducible refine below_drewN_ ?_ _) | (with_reducible refine le_drewN ?_ _) | (with_reducible refine over_le _ _ _ ?_) | (with_reducible refine le_alloc ?_ _) | (with_reducible refine le_setCell ?_ _ _) | (with_reducible refine le_put ?_ _ _) | (with_reducible refine le_drew ?_) | dsimp only | omega | ((try simp only [World.size_alloc, World.size_setCell, World.size_drew, size_put]); omega) | (simp; done))))
  obtain ⟨R, hR⟩ : ∃ R, R = right51 (l ++ [(⟨id, slide, by_, state, since, fr, till⟩ : MS)]) := ⟨_, rfl⟩
  have e1 : planE l ⟨id, slide, by_, state, since, fr, till⟩ = R := by unfold planE; rw [if_neg (by rw [hst]; simp), hR]
  have e2 : planF l ⟨id, slide, by_, state, since, fr, till⟩ = if R = 0 then l ++ [⟨id, slide, by_, state, since, fr, till⟩] else [] := by unfold planF; rw [e1]
  rw [e1, e2]
  have HR := Lib.hid hR
  clear e1 e2 hR
  generalize hV : MGives R (if R = 0 then l ++ [⟨id, slide, by_, state, since, fr, till⟩] else []) w = P
  have HP := Lib.hid hV
  clear hV
  (go_enter Try.func15, Try.ntmps15; try dsimp only [List.append])
  go_upto_region 3 with fail
  clear hst
  refine wp_letter (fun w1 hb => ?_)
  have hz := hb.size
  (try simp only [World.size_alloc, World.size_setCell, World.size_drew, size_put] at hz)
  have hB : Below w.heap.size w w1 := below_step (by (repeat' (first | (with_reducible exact Below.refl _ _) | (with_reducible exact Nat.le_refl _) | (with_reducible assumption) | (with_reducible refine below_step ?_ ?_ hr) | (with_reducible refine below_over ?_ ?_ _) | (with_reducible refine Below.alloc ?_ ?_ _) | (with_reducible refine Below.setCell ?_ ?_ _) | (with_reducible refine below_put ?_ ?_ _) | (with_reducible refine Below.drew ?_) | (with_reducible refine below_drewN_ ?_ _) | (with_reducible refine le_drewN ?_ _) | (with_reducible refine over_le _ _ _ ?_) | (with_reducible refine le_alloc ?_ _) | (with_reducible refine le_setCell ?_ _ _) | (with_reducible refine le_put ?_ _ _) | (with_reducible refine le_drew ?_) | dsimp only | omega | ((try simp only [World.size_alloc, World.size_setCell, World.size_drew, size_put]); omega) | (simp; done)))) (by (first | omega | ((try simp only [World.size_alloc, World.size_setCell, World.size_drew, size_put]); omega))) hb
  have Q' : w1.heap[w.heap.size]? = _ := hb.block (w.heap.size) (by (first | omega | ((try simp only [World.size_alloc, World.size_setCell, World.size_drew, size_put]); omega)))
  simp only [alloc_block_if, put_block_if, over_block_if, set_block_if, setObj_cells, drew_block, drewN_block, Option.map_some, List.setIfInBounds_toArray, List.set_cons_zero, List.set_cons_succ, World.size_alloc, World.size_setCell, size_put, World.size_drew, if_true, if_false, ↓IntWalk.iteOmega] at Q'
  have Q_0 := Q'
  clear Q'
  have q_0 := cell_of_block Q_0
  clear hb
  have hB1 := hB
  have hz1 : w.heap.size + 1 ≤ w1.heap.size := hz
  have l0 : w.heap.size < w1.heap.size := by omega
  go_cut [6] (fun c6 wx => ∃ v : Sl, c6 = v.val ∧ Below w1.heap.size w1 wx ∧ Hid (OwnM wx w1.heap.size v (l ++ [⟨id, slide, by_, state, since, fr, till⟩])))
  case first =>
    refine wp_region_ord (by kernel_rfl) (fun wx hr => ?_)
    simp only [List.length_cons, List.length_nil, Nat.reduceAdd]
    have hzx := hr.size
    refine wpAnyH_one 1 rfl rfl (by kernel_rfl) (by kernel_rfl) (fun _ _ _ _ _ h => h) (over_ex (by go_light; (repeat' (first | (with_reducible exact Below.refl _ _) | (with_reducible exact Nat.le_refl _) | (with_reducible assumption) | (with_reducible refine below_step ?_ ?_ hr) | (with_reducible refine below_over ?_ ?_ _) | (with_reducible refine Below.alloc ?_ ?_ _) | (with_reducible refine Below.setCell ?_ ?_ _) | (with_reducible refine below_put ?_ ?_ _) | (with_reducible refine Below.drew ?_) | (with_reducible refine below_drewN_ ?_ _) | (with_reducible refine le_drewN ?_ _) | (with_reducible refine over_le _ _ _ ?_) | (with_reducible refine le_alloc ?_ _) | (with_reducible refine le_setCell ?_ _ _) | (with_reducible refine le_put ?_ _ _) | (with_reducible refine le_drew ?_) | dsimp only | omega | ((try simp only [World.size_alloc, World.size_setCell, World.size_drew, size_put]); omega) | (simp; done))))) ?_
    (first | go_big_quiet_step (fail) | quiet_step (fail))
    refine wpQuiet_nil ?_
    refine wpAnyH_one 3 rfl rfl (by kernel_rfl) (by kernel_rfl) (fun _ _ _ _ _ h => h) (over_ex (by go_light; (repeat' (first | (with_reducible exact Below.refl _ _) | (with_reducible exact Nat.le_refl _) | (with_reducible assumption) | (with_reducible refine below_step ?_ ?_ hr) | (with_reducible refine below_over ?_ ?_ _) | (with_reducible refine Below.alloc ?_ ?_ _) | (with_reducible refine Below.setCell ?_ ?_ _) | (with_reducible refine below_put ?_ ?_ _) | (with_reducible refine Below.drew ?_) | (with_reducible refine below_drewN_ ?_ _) | (with_reducible refine le_drewN ?_ _) | (with_reducible refine over_le _ _ _ ?_) | (with_reducible refine le_alloc ?_ _) | (with_reducible refine le_setCell ?_ _ _) | (with_reducible refine le_put ?_ _ _) | (with_reducible refine le_drew ?_) | dsimp only | omega | ((try simp only [World.size_alloc, World.size_setCell, World.size_drew, size_put]); omega) | (simp; done))))) ?_
    (first | go_big_quiet_step (fail) | quiet_step (fail))
    refine wpQuiet_nil ?_
    refine wpAnyH_two 0 4 (by kernel_rfl) ?_ ?_
    · refine wpOp_at (k := 0) rfl (fun K hK => ?_)
      go_simp
      refine hK _ _ (over_ex (by go_light; (repeat' (first | (with_reducible exact Below.refl _ _) | (with_reducible exact Nat.le_refl _) | (with_reducible assumption) | (with_reducible refine below_step ?_ ?_ hr) | (with_reducible refine below_over ?_ ?_ _) | (with_reducible refine Below.alloc ?_ ?_ _) | (with_reducible refine Below.setCell ?_ ?_ _) | (with_reducible refine below_put ?_ ?_ _) | (with_reducible refine Below.drew ?_) | (with_reducible refine below_drewN_ ?_ _) | (with_reducible refine le_drewN ?_ _) | (with_reducible refine over_le _ _ _ ?_) | (with_reducible refine le_alloc ?_ _) | (with_reducible refine le_setCell ?_ _ _) | (with_reducible refine le_put ?_ _ _) | (with_reducible refine le_drew ?_) | dsimp only | omega | ((try simp only [World.size_alloc, World.size_setCell, World.size_drew, size_put]); omega) | (simp; done))))) ?_
      clear hK K
      have HZ : Hid (OwnM (wx.alloc (.cells #[] 30)) wx.heap.size ⟨some ⟨wx.heap.size, 0, none⟩, 0, 0⟩ []) := own_empty wx _ _
      refine any_letter (fun u1 hb => ?_)
      have HZ := Lib.hid (HZ.out.toW hb)
      have hs_u1 := hb.size
      simp only [World.size_alloc] at hs_u1
      have hr : Below w1.heap.size w1 u1 := hr.trans (below_step (Below.alloc (Below.refl _ _) (Nat.le_refl _) _) (by simp only [World.size_alloc]; omega) hb |>.mono hr.size)
      clear hb
      have hBu : Below w.heap.size w u1 := hB1.trans (hr.mono (by omega))
      refine wpAnyH_two 2 4 (by kernel_rfl) ?_ ?_
      · refine wpOp_at (k := 2) rfl (fun K hK => ?_)
        rw [if_pos (by rfl)]
        obtain ⟨i0, hi, hi0, hi1, hi2⟩ := info_parts info_ms
        have hown := (HZ.out.base (by omega) : Own _ w1.heap.size 30 7 _ ⟨some ⟨wx.heap.size, 0, none⟩, 0, 0⟩ _)
        refine oper_append_rd _ _ _ rfl w1.heap.size 30 i0 _ 7 56 Try.underlying22 hi hi0 hi1 hi2 rfl (by decide) (fun _ => rfl) one_ms (s := ⟨some ⟨wx.heap.size, 0, none⟩, 0, 0⟩) (y := ⟨A, n, c⟩) (xs := []) (ys := l) rfl rfl hown (Hs.out.toW hBu) (by simp only [maxLen]; omega) (by dsimp only; omega) hr.size ?_
        clear hi hi0 hi1 hi2 i0
        intro v u2 hv hg hpos
        have H1 := Lib.hid hv
        have hs_u2 := hg.size
        have hr := Below.grown hr hg hr.size (fun g hg2 => (hown.block g hg2).1)
        clear hv hg hpos hown
        refine hK _ _ (over_ex hr) ?_
        clear hK K
        rw [List.nil_append] at H1
        have hvl : v.n = n := by (have h1 := H1.out.len; have h2 := Hn.out; omega)
        refine wpAnyH_sole 4 rfl (by kernel_rfl) (fun K hK => ?_)
        go_simp
        refine hK _ _ (over_ex (by go_light; (repeat' (first | (with_reducible exact Below.refl _ _) | (with_reducible exact Nat.le_refl _) | (with_reducible assumption) | (with_reducible refine below_step ?_ ?_ hr) | (with_reducible refine below_over ?_ ?_ _) | (with_reducible refine Below.alloc ?_ ?_ _) | (with_reducible refine Below.setCell ?_ ?_ _) | (with_reducible refine below_put ?_ ?_ _) | (with_reducible refine Below.drew ?_) | (with_reducible refine below_drewN_ ?_ _) | (with_reducible refine le_drewN ?_ _) | (with_reducible refine over_le _ _ _ ?_) | (with_reducible refine le_alloc ?_ _) | (with_reducible refine le_setCell ?_ _ _) | (with_reducible refine le_put ?_ _ _) | (with_reducible refine le_drew ?_) | dsimp only | omega | ((try simp only [World.size_alloc, World.size_setCell, World.size_drew, size_put]); omega) | (simp; done))))) ?_
        clear hK K
        refine any_letter (fun u3 hb => ?_)
        have QS := (hb.block u2.heap.size (by (first | omega | ((try simp only [World.size_alloc, World.size_setCell, World.size_drew, size_put]); omega)))).trans ((alloc_block_if _ _ _).trans (if_pos rfl))
        have hb2 : Below u2.heap.size u2 u3 := below_step (Below.alloc (Below.refl _ _) (Nat.le_refl _) _) (by simp only [World.size_alloc]; omega) hb
        have H1 := Lib.hid (H1.out.toW hb2)
        have hs_u3 := hb.size
        simp only [World.size_alloc] at hs_u3
        have hr := hr.trans (hb2.mono hr.size)
        clear hb hb2
        refine wpAnyH_sole 5 rfl (by kernel_rfl) (fun K hK => ?_)
        rw [if_pos (by rfl)]
        obtain ⟨i0, hi, hi0, hi1, hi2⟩ := info_parts info_ms
        have hown := (H1.out : Own _ w1.heap.size 30 7 _ v _)
        refine oper_append_rd _ _ _ rfl w1.heap.size 30 i0 _ 7 56 Try.underlying22 hi hi0 hi1 hi2 rfl (by decide) (fun _ => rfl) one_ms (s := v) (y := ⟨some ⟨u2.heap.size, 0, none⟩, 1, 1⟩) (xs := l) (ys := [⟨id, slide, by_, state, since, fr, till⟩]) rfl rfl hown (rd_lit 7 (fun _ => rfl) _ QS rfl rfl (by simp [maxLen])) (by simp only [maxLen]; omega) (by dsimp only; omega) hr.size ?_
        clear hi hi0 hi1 hi2 i0
        intro v2 u4 hv hg hpos
        have H2 := Lib.hid hv
        have hs_u4 := hg.size
        have hr := Below.grown hr hg hr.size (fun g hg2 => (hown.block g hg2).1)
        clear hv hg hpos hown
        refine hK _ _ (over_ex hr) ?_
        clear hK K
        refine wpAnyH_one 6 rfl rfl (by kernel_rfl) (by kernel_rfl) (fun _ _ _ _ _ h => h) (over_ex (by go_light; (repeat' (first | (with_reducible exact Below.refl _ _) | (with_reducible exact Nat.le_refl _) | (with_reducible assumption) | (with_reducible refine below_step ?_ ?_ hr) | (with_reducible refine below_over ?_ ?_ _) | (with_reducible refine Below.alloc ?_ ?_ _) | (with_reducible refine Below.setCell ?_ ?_ _) | (with_reducible refine below_put ?_ ?_ _) | (with_reducible refine Below.drew ?_) | (with_reducible refine below_drewN_ ?_ _) | (with_reducible refine le_drewN ?_ _) | (with_reducible refine over_le _ _ _ ?_) | (with_reducible refine le_alloc ?_ _) | (with_reducible refine le_setCell ?_ _ _) | (with_reducible refine le_put ?_ _ _) | (with_reducible refine le_drew ?_) | dsimp only | omega | ((try simp only [World.size_alloc, World.size_setCell, World.size_drew, size_put]); omega) | (simp; done))))) ?_
        (first | go_big_quiet_step (fail) | quiet_step (fail))
        refine wpQuiet_nil ?_
        refine wpAnyH_done (by kernel_rfl) ?_ _
        go_wp2_with fail
        go_meet
        case rel => exact ⟨v2, rfl, hr, H2⟩
      · refine wpOp_at (k := 4) rfl (fun K hK => ?_)
        go_simp
        refine hK _ _ (over_ex (by go_light; (repeat' (first | (with_reducible exact Below.refl _ _) | (with_reducible exact Nat.le_refl _) | (with_reducible assumption) | (with_reducible refine below_step ?_ ?_ hr) | (with_reducible refine below_over ?_ ?_ _) | (with_reducible refine Below.alloc ?_ ?_ _) | (with_reducible refine Below.setCell ?_ ?_ _) | (with_reducible refine below_put ?_ ?_ _) | (with_reducible refine Below.drew ?_) | (with_reducible refine below_drewN_ ?_ _) | (with_reducible refine le_drewN ?_ _) | (with_reducible refine over_le _ _ _ ?_) | (with_reducible refine le_alloc ?_ _) | (with_reducible refine le_setCell ?_ _ _) | (with_reducible refine le_put ?_ _ _) | (with_reducible refine le_drew ?_) | dsimp only | omega | ((try simp only [World.size_alloc, World.size_setCell, World.size_drew, size_put]); omega) | (simp; done))))) ?_
        clear hK K
        refine any_letter (fun u5 hb => ?_)
        have QS := (hb.block u1.heap.size (by (first | omega | ((try simp only [World.size_alloc, World.size_setCell, World.size_drew, size_put]); omega)))).trans ((alloc_block_if _ _ _).trans (if_pos rfl))
        have hb2 : Below u1.heap.size u1 u5 := below_step (Below.alloc (Below.refl _ _) (Nat.le_refl _) _) (by simp only [World.size_alloc]; omega) hb
        have HZ := Lib.hid (HZ.out.toW hb2)
        have hs_u5 := hb.size
        simp only [World.size_alloc] at hs_u5
        have hr := hr.trans (hb2.mono hr.size)
        clear hb hb2
        have hBu : Below w.heap.size w u5 := hB1.trans (hr.mono (by omega))
        refine wpAnyH_sole 2 rfl (by kernel_rfl) (fun K hK => ?_)
        rw [if_pos (by rfl)]
        obtain ⟨i0, hi, hi0, hi1, hi2⟩ := info_parts info_ms
        have hown := (HZ.out.base (by omega) : Own _ w1.heap.size 30 7 _ ⟨some ⟨wx.heap.size, 0, none⟩, 0, 0⟩ _)
        refine oper_append_rd _ _ _ rfl w1.heap.size 30 i0 _ 7 56 Try.underlying22 hi hi0 hi1 hi2 rfl (by decide) (fun _ => rfl) one_ms (s := ⟨some ⟨wx.heap.size, 0, none⟩, 0, 0⟩) (y := ⟨A, n, c⟩) (xs := []) (ys := l) rfl rfl hown (Hs.out.toW hBu) (by simp only [maxLen]; omega) (by dsimp only; omega) hr.size ?_
        clear hi hi0 hi1 hi2 i0
        intro v u6 hv hg hpos
        have H1 := Lib.hid hv
        have QS := (hg.block _ (by omega) (fun hg2 => by first | (have := (hown.block _ hg2.symm).1; omega) | (simp [Value.ownBlock] at hg2; omega))).trans QS
        have hs_u6 := hg.size
        have hr := Below.grown hr hg hr.size (fun g hg2 => (hown.block g hg2).1)
        clear hv hg hpos hown
        refine hK _ _ (over_ex hr) ?_
        clear hK K
        rw [List.nil_append] at H1
        have hvl : v.n = n := by (have h1 := H1.out.len; have h2 := Hn.out; omega)
        refine wpAnyH_sole 5 rfl (by kernel_rfl) (fun K hK => ?_)
        rw [if_pos (by rfl)]
        obtain ⟨i0, hi, hi0, hi1, hi2⟩ := info_parts info_ms
        have hown := (H1.out : Own _ w1.heap.size 30 7 _ v _)
        refine oper_append_rd _ _ _ rfl w1.heap.size 30 i0 _ 7 56 Try.underlying22 hi hi0 hi1 hi2 rfl (by decide) (fun _ => rfl) one_ms (s := v) (y := ⟨some ⟨u1.heap.size, 0, none⟩, 1, 1⟩) (xs := l) (ys := [⟨id, slide, by_, state, since, fr, till⟩]) rfl rfl hown (rd_lit 7 (fun _ => rfl) _ QS rfl rfl (by simp [maxLen])) (by simp only [maxLen]; omega) (by dsimp only; omega) hr.size ?_
        clear hi hi0 hi1 hi2 i0
        intro v2 u7 hv hg hpos
        have H2 := Lib.hid hv
        have hs_u7 := hg.size
        have hr := Below.grown hr hg hr.size (fun g hg2 => (hown.block g hg2).1)
        clear hv hg hpos hown
        refine hK _ _ (over_ex hr) ?_
        clear hK K
        refine wpAnyH_one 6 rfl rfl (by kernel_rfl) (by kernel_rfl) (fun _ _ _ _ _ h => h) (over_ex (by go_light; (repeat' (first | (with_reducible exact Below.refl _ _) | (with_reducible exact Nat.le_refl _) | (with_reducible assumption) | (with_reducible refine below_step ?_ ?_ hr) | (with_reducible refine below_over ?_ ?_ _) | (with_reducible refine Below.alloc ?_ ?_ _) | (with_reducible refine Below.setCell ?_ ?_ _) | (with_reducible refine below_put ?_ ?_ _) | (with_reducible refine Below.drew ?_) | (with_reducible refine below_drewN_ ?_ _) | (with_reducible refine le_drewN ?_ _) | (with_reducible refine over_le _ _ _ ?_) | (with_reducible refine le_alloc ?_ _) | (with_reducible refine le_setCell ?_ _ _) | (with_reducible refine le_put ?_ _ _) | (with_reducible refine le_drew ?_) | dsimp only | omega | ((try simp only [World.size_alloc, World.size_setCell, World.size_drew, size_put]); omega) | (simp; done))))) ?_
        (first | go_big_quiet_step (fail) | quiet_step (fail))
        refine wpQuiet_nil ?_
        refine wpAnyH_done (by kernel_rfl) ?_ _
        go_wp2_with fail
        go_meet
        case rel => exact ⟨v2, rfl, hr, H2⟩
    · refine wpOp_at (k := 4) rfl (fun K hK => ?_)
      go_simp
      refine hK _ _ (over_ex (by go_light; (repeat' (first | (with_reducible exact Below.refl _ _) | (with_reducible exact Nat.le_refl _) | (with_reducible assumption) | (with_reducible refine below_step ?_ ?_ hr) | (with_reducible refine below_over ?_ ?_ _) | (with_reducible refine Below.alloc ?_ ?_ _) | (with_reducible refine Below.setCell ?_ ?_ _) | (with_reducible refine below_put ?_ ?_ _) | (with_reducible refine Below.drew ?_) | (with_reducible refine below_drewN_ ?_ _) | (with_reducible refine le_drewN ?_ _) | (with_reducible refine over_le _ _ _ ?_) | (with_reducible refine le_alloc ?_ _) | (with_reducible refine le_setCell ?_ _ _) | (with_reducible refine le_put ?_ _ _) | (with_reducible refine le_drew ?_) | dsimp only | omega | ((try simp only [World.size_alloc, World.size_setCell, World.size_drew, size_put]); omega) | (simp; done))))) ?_
      clear hK K
      refine any_letter (fun u8 hb => ?_)
      have QS := (hb.block wx.heap.size (by (first | omega | ((try simp only [World.size_alloc, World.size_setCell, World.size_drew, size_put]); omega)))).trans ((alloc_block_if _ _ _).trans (if_pos rfl))
      have hb2 : Below wx.heap.size wx u8 := below_step (Below.alloc (Below.refl _ _) (Nat.le_refl _) _) (by simp only [World.size_alloc]; omega) hb
      have hs_u8 := hb.size
      simp only [World.size_alloc] at hs_u8
      have hr := hr.trans (hb2.mono hr.size)
      clear hb hb2
      refine wpAnyH_sole 0 rfl (by kernel_rfl) (fun K hK => ?_)
      go_simp
      refine hK _ _ (over_ex (by go_light; (repeat' (first | (with_reducible exact Below.refl _ _) | (with_reducible exact Nat.le_refl _) | (with_reducible assumption) | (with_reducible refine below_step ?_ ?_ hr) | (with_reducible refine below_over ?_ ?_ _) | (with_reducible refine Below.alloc ?_ ?_ _) | (with_reducible refine Below.setCell ?_ ?_ _) | (with_reducible refine below_put ?_ ?_ _) | (with_reducible refine Below.drew ?_) | (with_reducible refine below_drewN_ ?_ _) | (with_reducible refine le_drewN ?_ _) | (with_reducible refine over_le _ _ _ ?_) | (with_reducible refine le_alloc ?_ _) | (with_reducible refine le_setCell ?_ _ _) | (with_reducible refine le_put ?_ _ _) | (with_reducible refine le_drew ?_) | dsimp only | omega | ((try simp only [World.size_alloc, World.size_setCell, World.size_drew, size_put]); omega) | (simp; done))))) ?_
      clear hK K
      have HZ : Hid (OwnM (u8.alloc (.cells #[] 30)) u8.heap.size ⟨some ⟨u8.heap.size, 0, none⟩, 0, 0⟩ []) := own_empty u8 _ _
      refine any_letter (fun u9 hb => ?_)
      have HZ := Lib.hid (HZ.out.toW hb)
      have hs_u9 := hb.size
      simp only [World.size_alloc] at hs_u9
      have hb2 : Below u8.heap.size u8 u9 := below_step (Below.alloc (Below.refl _ _) (Nat.le_refl _) _) (by simp only [World.size_alloc]; omega) hb
      have QS := (hb2.block _ (by omega)).trans QS
      have hr : Below w1.heap.size w1 u9 := hr.trans (hb2.mono hr.size)
      clear hb hb2
      have hBu : Below w.heap.size w u9 := hB1.trans (hr.mono (by omega))
      refine wpAnyH_sole 2 rfl (by kernel_rfl) (fun K hK => ?_)
      rw [if_pos (by rfl)]
      obtain ⟨i0, hi, hi0, hi1, hi2⟩ := info_parts info_ms
      have hown := (HZ.out.base (by omega) : Own _ w1.heap.size 30 7 _ ⟨some ⟨u8.heap.size, 0, none⟩, 0, 0⟩ _)
      refine oper_append_rd _ _ _ rfl w1.heap.size 30 i0 _ 7 56 Try.underlying22 hi hi0 hi1 hi2 rfl (by decide) (fun _ => rfl) one_ms (s := ⟨some ⟨u8.heap.size, 0, none⟩, 0, 0⟩) (y := ⟨A, n, c⟩) (xs := []) (ys := l) rfl rfl hown (Hs.out.toW hBu) (by simp only [maxLen]; omega) (by dsimp only; omega) hr.size ?_
      clear hi hi0 hi1 hi2 i0
      intro v u10 hv hg hpos
      have H1 := Lib.hid hv
      have QS := (hg.block _ (by omega) (fun hg2 => by first | (have := (hown.block _ hg2.symm).1; omega) | (simp [Value.ownBlock] at hg2; omega))).trans QS
      have hs_u10 := hg.size
      have hr := Below.grown hr hg hr.size (fun g hg2 => (hown.block g hg2).1)
      clear hv hg hpos hown
      refine hK _ _ (over_ex hr) ?_
      clear hK K
      rw [List.nil_append] at H1
      have hvl : v.n = n := by (have h1 := H1.out.len; have h2 := Hn.out; omega)
      refine wpAnyH_sole 5 rfl (by kernel_rfl) (fun K hK => ?_)
      rw [if_pos (by rfl)]
      obtain ⟨i0, hi, hi0, hi1, hi2⟩ := info_parts info_ms
      have hown := (H1.out : Own _ w1.heap.size 30 7 _ v _)
      refine oper_append_rd _ _ _ rfl w1.heap.size 30 i0 _ 7 56 Try.underlying22 hi hi0 hi1 hi2 rfl (by decide) (fun _ => rfl) one_ms (s := v) (y := ⟨some ⟨wx.heap.size, 0, none⟩, 1, 1⟩) (xs := l) (ys := [⟨id, slide, by_, state, since, fr, till⟩]) rfl rfl hown (rd_lit 7 (fun _ => rfl) _ QS rfl rfl (by simp [maxLen])) (by simp only [maxLen]; omega) (by dsimp only; omega) hr.size ?_
      clear hi hi0 hi1 hi2 i0
      intro v2 u11 hv hg hpos
      have H2 := Lib.hid hv
      have hs_u11 := hg.size
      have hr := Below.grown hr hg hr.size (fun g hg2 => (hown.block g hg2).1)
      clear hv hg hpos hown
      refine hK _ _ (over_ex hr) ?_
      clear hK K
      refine wpAnyH_one 6 rfl rfl (by kernel_rfl) (by kernel_rfl) (fun _ _ _ _ _ h => h) (over_ex (by go_light; (repeat' (first | (with_reducible exact Below.refl _ _) | (with_reducible exact Nat.le_refl _) | (with_reducible assumption) | (with_reducible refine below_step ?_ ?_ hr) | (with_reducible refine below_over ?_ ?_ _) | (with_reducible refine Below.alloc ?_ ?_ _) | (with_reducible refine Below.setCell ?_ ?_ _) | (with_reducible refine below_put ?_ ?_ _) | (with_reducible refine Below.drew ?_) | (with_reducible refine below_drewN_ ?_ _) | (with_reducible refine le_drewN ?_ _) | (with_reducible refine over_le _ _ _ ?_) | (with_reducible refine le_alloc ?_ _) | (with_reducible refine le_setCell ?_ _ _) | (with_reducible refine le_put ?_ _ _) | (with_reducible refine le_drew ?_) | dsimp only | omega | ((try simp only [World.size_alloc, World.size_setCell, World.size_drew, size_put]); omega) | (simp; done))))) ?_
      (first | go_big_quiet_step (fail) | quiet_step (fail))
      refine wpQuiet_nil ?_
      refine wpAnyH_done (by kernel_rfl) ?_ _
      go_wp2_with fail
      go_meet
      case rel => exact ⟨v2, rfl, hr, H2⟩
  case rest =>
    obtain ⟨v, rfl, hBx, HO⟩ := hcut
    have hBwc : Below w.heap.size w wc := hB1.trans (hBx.mono (by omega))
    have hzc := hBwc.size
    have hzc1 := hBx.size
    have Hc := Lib.hid (ref51_Right v _ wc (HO.out.rd (fun _ => rfl)))
    rw [← HR.out] at Hc
    cases hr0 : (R == 0)
    · have h6 : (R != 0) = true := by simp at hr0 ⊢; exact hr0
      go_wp2_with (go_at_call 13; refine (Hc.out).mono ?_; rintro e w7 hg; obtain ⟨rfl, hb⟩ := hg.below; clear hg; have hz := hb.size; (try simp only [World.size_alloc, World.size_setCell, World.size_drew, size_put] at hz); have hB : Below w.heap.size w w7 := below_step (by (repeat' (first | (with_reducible exact Below.refl _ _) | (with_reducible exact Nat.le_refl _) | (with_reducible assumption) | (with_reducible refine below_step ?_ ?_ hr) | (with_reducible refine below_over ?_ ?_ _) | (with_reducible refine Below.alloc ?_ ?_ _) | (with_reducible refine Below.setCell ?_ ?_ _) | (with_reducible refine below_put ?_ ?_ _) | (with_reducible refine Below.drew ?_) | (with_reducible refine below_drewN_ ?_ _) | (with_reducible refine le_drewN ?_ _) | (with_reducible refine over_le _ _ _ ?_) | (with_reducible refine le_alloc ?_ _) | (with_reducible refine le_setCell ?_ _ _) | (with_reducible refine le_put ?_ _ _) | (with_reducible refine le_drew ?_) | dsimp only | omega | ((try simp only [World.size_alloc, World.size_setCell, World.size_drew, size_put]); omega) | (simp; done)))) (by (first | omega | ((try simp only [World.size_alloc, World.size_setCell, World.size_drew, size_put]); omega))) hb; clear hb)
      show P (.returned (.tuple #[.slice none 0 0, .int .i64 R])) _
      rw [← HP.out, if_neg (by simpa using hr0)]
      exact mg_none (by go_light; (repeat' (first | (with_reducible exact Below.refl _ _) | (with_reducible exact Nat.le_refl _) | (with_reducible assumption) | (with_reducible refine below_step ?_ ?_ hr) | (with_reducible refine below_over ?_ ?_ _) | (with_reducible refine Below.alloc ?_ ?_ _) | (with_reducible refine Below.setCell ?_ ?_ _) | (with_reducible refine below_put ?_ ?_ _) | (with_reducible refine Below.drew ?_) | (with_reducible refine below_drewN_ ?_ _) | (with_reducible refine le_drewN ?_ _) | (with_reducible refine over_le _ _ _ ?_) | (with_reducible refine le_alloc ?_ _) | (with_reducible refine le_setCell ?_ _ _) | (with_reducible refine le_put ?_ _ _) | (with_reducible refine le_drew ?_) | dsimp only | omega | ((try simp only [World.size_alloc, World.size_setCell, World.size_drew, size_put]); omega) | (simp; done))))
    · have h6 : (R != 0) = false := by simp at hr0 ⊢; exact hr0
      have h7 : R = 0 := by simpa using hr0
      go_wp2_with (go_at_call 13; refine (Hc.out).mono ?_; rintro e w7 hg; obtain ⟨rfl, hb⟩ := hg.below; clear hg; have hz := hb.size; (try simp only [World.size_alloc, World.size_setCell, World.size_drew, size_put] at hz); have hB : Below w.heap.size w w7 := below_step (by (repeat' (first | (with_reducible exact Below.refl _ _) | (with_reducible exact Nat.le_refl _) | (with_reducible assumption) | (with_reducible refine below_step ?_ ?_ hr) | (with_reducible refine below_over ?_ ?_ _) | (with_reducible refine Below.alloc ?_ ?_ _) | (with_reducible refine Below.setCell ?_ ?_ _) | (with_reducible refine below_put ?_ ?_ _) | (with_reducible refine Below.drew ?_) | (with_reducible refine below_drewN_ ?_ _) | (with_reducible refine le_drewN ?_ _) | (with_reducible refine over_le _ _ _ ?_) | (with_reducible refine le_alloc ?_ _) | (with_reducible refine le_setCell ?_ _ _) | (with_reducible refine le_put ?_ _ _) | (with_reducible refine le_drew ?_) | dsimp only | omega | ((try simp only [World.size_alloc, World.size_setCell, World.size_drew, size_put]); omega) | (simp; done)))) (by (first | omega | ((try simp only [World.size_alloc, World.size_setCell, World.size_drew, size_put]); omega))) hb; have HO := Lib.hid (HO.out.toW (below_step (by (repeat' (first | (with_reducible exact Below.refl _ _) | (with_reducible exact Nat.le_refl _) | (with_reducible assumption) | (with_reducible refine below_step ?_ ?_ hr) | (with_reducible refine below_over ?_ ?_ _) | (with_reducible refine Below.alloc ?_ ?_ _) | (with_reducible refine Below.setCell ?_ ?_ _) | (with_reducible refine below_put ?_ ?_ _) | (with_reducible refine Below.drew ?_) | (with_reducible refine below_drewN_ ?_ _) | (with_reducible refine le_drewN ?_ _) | (with_reducible refine over_le _ _ _ ?_) | (with_reducible refine le_alloc ?_ _) | (with_reducible refine le_setCell ?_ _ _) | (with_reducible refine le_put ?_ _ _) | (with_reducible refine le_drew ?_) | dsimp only | omega | ((try simp only [World.size_alloc, World.size_setCell, World.size_drew, size_put]); omega) | (simp; done)))) (by (first | omega | ((try simp only [World.size_alloc, World.size_setCell, World.size_drew, size_put]); omega))) hb)); clear hb)
      show P (.returned (.tuple #[.slice v.a v.n v.c, .int .i64 0])) _
      rw [← HP.out, if_pos h7, h7]
      exact ⟨v, rfl, by go_light; (repeat' (first | (with_reducible exact Below.refl _ _) | (with_reducible exact Nat.le_refl _) | (with_reducible assumption) | (with_reducible refine below_step ?_ ?_ hr) | (with_reducible refine below_over ?_ ?_ _) | (with_reducible refine Below.alloc ?_ ?_ _) | (with_reducible refine Below.setCell ?_ ?_ _) | (with_reducible refine below_put ?_ ?_ _) | (with_reducible refine Below.drew ?_) | (with_reducible refine below_drewN_ ?_ _) | (with_reducible refine le_drewN ?_ _) | (with_reducible refine over_le _ _ _ ?_) | (with_reducible refine le_alloc ?_ _) | (with_reducible refine le_setCell ?_ _ _) | (with_reducible refine le_put ?_ _ _) | (with_reducible refine le_drew ?_) | dsimp only | omega | ((try simp only [World.size_alloc, World.size_setCell, World.size_drew, size_put]); omega) | (simp; done))), by go_light; exact HO.out.base (by omega)⟩
end Go.Proofs.Ythcdnkhgmicpoaa
