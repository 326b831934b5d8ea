/- Media: Check, New; the list of revoked media: Has. -/
import Derived.Test.YtfajjgkhanjcfaaGreatSign
import Derived.Test.YtfajjgkhanjcfaaGreatRevR
namespace Go.Proofs.YtfajjgkhanjcfaaGreat
set_option linter.unusedSimpArgs false
set_option linter.unusedVariables false
open Go.RowKit
theorem fit_of {m : MV} (h : mRight m = 0) : m.fit ∧ 0 ≤ m.serial ∧ m.serial ≤ 9223372036854775807 := by
  obtain ⟨⟨h1, h2, h3, h4, h5, h6, h7, h8, h9, h10, h11, h12, h13, h14, h15, h16⟩, -⟩ := mRight_facts h
  exact ⟨⟨⟨by omega, by omega, by omega, by omega, by omega, by omega, by omega, by omega⟩, by omega, by omega, by omega⟩, by omega, by omega⟩
def checkF (key : Int) (m : MV) : Bool := (mRight m == 0) && (signF key m == m.tag)
set_option maxRecDepth 100000 in
set_option maxHeartbeats 1600000 in
theorem media_Check (key : Int) (m : MV) (w : World) : Calls Tryz.prog 30 #[.int .u64 key, m.val] w (Gives (.bool (checkF key m)) w) := by
  cases hr : (mRight m == 0)
  · have HE : Hid (checkF key m = false) := by show _ = _; rw [checkF, hr]; rfl
    have Hc1 := Lib.hid (fun w' => media_Right m w')
    generalize mRight m = R at Hc1 hr
    (go_enter Tryz.func30, Tryz.ntmps30; try dsimp only [List.append])
    go_wp2_with fail
    refine wp_letter (fun w1 hb => ?_)
    have hz := hb.size
    (try simp only [World.size_alloc, World.size_setCell, World.size_drew, size_put] at hz)
    have hB : Below w.heap.size w w1 := below_step (by (repeat' (first | (with_reducible exact Below.refl _ _) | (with_reducible exact Nat.le_refl _) | (with_reducible assumption) | (with_reducible refine below_step ?_ ?_ hr) | (with_reducible refine below_over ?_ ?_ _) | (with_reducible refine Below.alloc ?_ ?_ _) | (with_reducible refine Below.setCell ?_ ?_ _) | (with_reducible refine below_put ?_ ?_ _) | (with_reducible refine Below.drew ?_) | (with_reducible refine below_drewN_ ?_ _) | (with_reducible refine le_drewN ?_ _) | (with_reducible refine over_le _ _ _ ?_) | (with_reducible refine le_alloc ?_ _) | (with_reducible refine le_setCell ?_ _ _) | (with_reducible refine le_put ?_ _ _) | (with_reducible refine le_drew ?_) | dsimp only | omega | ((try simp only [World.size_alloc, World.size_setCell, World.size_drew, size_put]); omega) | (simp; done)))) (by (first | omega | ((try simp only [World.size_alloc, World.size_setCell, World.size_drew, size_put]); omega))) hb
    have Q' : w1.heap[w.heap.size]? = _ := hb.block (w.heap.size) (by (first | omega | ((try simp only [World.size_alloc, World.size_setCell, World.size_drew, size_put]); omega)))
    simp only [alloc_block_if, put_block_if, over_block_if, set_block_if, setObj_cells, drew_block, drewN_block, Option.map_some, List.setIfInBounds_toArray, List.set_cons_zero, List.set_cons_succ, World.size_alloc, World.size_setCell, size_put, World.size_drew, if_true, if_false, ↓IntWalk.iteOmega] at Q'
    have Q_0 := Q'
    clear Q'
    have q_0 := cell_of_block Q_0
    clear hb
    all_goals refine wp_region_over (by kernel_rfl) (by kernel_rfl) ?_
    repeat (any_goals (first | go_big_quiet_step ((first | (go_at_call 51; exact quiet_gives (Hc1.out _)))) | (refine wpQuiet_step (fun K hK => ?_); go_simp; split <;> (refine hK _ ?_; clear hK K)) | quiet_step ((first | (go_at_call 51; exact quiet_gives (Hc1.out _))))))
    all_goals (refine wpQuiet_nil ?_; intro w2 hw'; have hb := below_of_ex hw'; clear hw'; have hz := hb.size; (try simp only [World.size_alloc, World.size_setCell, World.size_drew, size_put] at hz); have hB : Below w.heap.size w w2 := below_step (by (repeat' (first | (with_reducible exact Below.refl _ _) | (with_reducible exact Nat.le_refl _) | (with_reducible assumption) | (with_reducible refine below_step ?_ ?_ hr) | (with_reducible refine below_over ?_ ?_ _) | (with_reducible refine Below.alloc ?_ ?_ _) | (with_reducible refine Below.setCell ?_ ?_ _) | (with_reducible refine below_put ?_ ?_ _) | (with_reducible refine Below.drew ?_) | (with_reducible refine below_drewN_ ?_ _) | (with_reducible refine le_drewN ?_ _) | (with_reducible refine over_le _ _ _ ?_) | (with_reducible refine le_alloc ?_ _) | (with_reducible refine le_setCell ?_ _ _) | (with_reducible refine le_put ?_ _ _) | (with_reducible refine le_drew ?_) | dsimp only | omega | ((try simp only [World.size_alloc, World.size_setCell, World.size_drew, size_put]); omega) | (simp; done)))) (by (first | omega | ((try simp only [World.size_alloc, World.size_setCell, World.size_drew, size_put]); omega))) hb; have Q' : w2.heap[w.heap.size]? = _ := hb.block (w.heap.size) (by (first | omega | ((try simp only [World.size_alloc, World.size_setCell, World.size_drew, size_put]); omega))); simp only [alloc_block_if, put_block_if, over_block_if, set_block_if, setObj_cells, drew_block, drewN_block, Option.map_some, List.setIfInBounds_toArray, List.set_cons_zero, List.set_cons_succ, World.size_alloc, World.size_setCell, size_put, World.size_drew, if_true, if_false, ↓IntWalk.iteOmega, Q_0] at Q'; clear Q_0; have Q_0 := Q'; clear Q'; have q_0 := cell_of_block Q_0; clear hb)
    go_wp2_with fail
    go_ret
    exact gives_of (ret_bool HE.out.symm) (by go_light; (repeat' (first | (with_reducible exact Below.refl _ _) | (with_reducible exact Nat.le_refl _) | (with_reducible assumption) | (with_reducible refine below_step ?_ ?_ hr) | (with_reducible refine below_over ?_ ?_ _) | (with_reducible refine Below.alloc ?_ ?_ _) | (with_reducible refine Below.setCell ?_ ?_ _) | (with_reducible refine below_put ?_ ?_ _) | (with_reducible refine Below.drew ?_) | (with_reducible refine below_drewN_ ?_ _) | (with_reducible refine le_drewN ?_ _) | (with_reducible refine over_le _ _ _ ?_) | (with_reducible refine le_alloc ?_ _) | (with_reducible refine le_setCell ?_ _ _) | (with_reducible refine le_put ?_ _ _) | (with_reducible refine le_drew ?_) | dsimp only | omega | ((try simp only [World.size_alloc, World.size_setCell, World.size_drew, size_put]); omega) | (simp; done))))
  · have hr0 : mRight m = 0 := by simpa using hr
    obtain ⟨hf, hs0, hs1⟩ := fit_of hr0
    have Hf := Lib.hid hf
    have Hc1 := Lib.hid (fun w' => hr0 ▸ media_Right m w')
    have Hc2 := Lib.hid (fun w' => media_Sign key m w' Hf.out hs0 hs1)
    simp only [MV.tagged] at Hc2
    have HE : Hid (checkF key m = (signF key m == m.tag)) := by show _ = _; rw [checkF, hr]; rfl
    clear hf hr hr0
    generalize checkF key m = V at HE
    generalize signF key m = T at Hc2 HE
    cases ht : (T == m.tag)
    all_goals
      rw [ht] at HE
      (go_enter Tryz.func30, Tryz.ntmps30; try dsimp only [List.append])
      go_wp2_with fail
      refine wp_letter (fun w1 hb => ?_)
      have hz := hb.size
      (try simp only [World.size_alloc, World.size_setCell, World.size_drew, size_put] at hz)
      have hB : Below w.heap.size w w1 := below_step (by (repeat' (first | (with_reducible exact Below.refl _ _) | (with_reducible exact Nat.le_refl _) | (with_reducible assumption) | (with_reducible refine below_step ?_ ?_ hr) | (with_reducible refine below_over ?_ ?_ _) | (with_reducible refine Below.alloc ?_ ?_ _) | (with_reducible refine Below.setCell ?_ ?_ _) | (with_reducible refine below_put ?_ ?_ _) | (with_reducible refine Below.drew ?_) | (with_reducible refine below_drewN_ ?_ _) | (with_reducible refine le_drewN ?_ _) | (with_reducible refine over_le _ _ _ ?_) | (with_reducible refine le_alloc ?_ _) | (with_reducible refine le_setCell ?_ _ _) | (with_reducible refine le_put ?_ _ _) | (with_reducible refine le_drew ?_) | dsimp only | omega | ((try simp only [World.size_alloc, World.size_setCell, World.size_drew, size_put]); omega) | (simp; done)))) (by (first | omega | ((try simp only [World.size_alloc, World.size_setCell, World.size_drew, size_put]); omega))) hb
      have Q' : w1.heap[w.heap.size]? = _ := hb.block (w.heap.size) (by (first | omega | ((try simp only [World.size_alloc, World.size_setCell, World.size_drew, size_put]); omega)))
      simp only [alloc_block_if, put_block_if, over_block_if, set_block_if, setObj_cells, drew_block, drewN_block, Option.map_some, List.setIfInBounds_toArray, List.set_cons_zero, List.set_cons_succ, World.size_alloc, World.size_setCell, size_put, World.size_drew, if_true, if_false, ↓IntWalk.iteOmega] at Q'
      have Q_0 := Q'
      clear Q'
      have q_0 := cell_of_block Q_0
      clear hb
      all_goals refine wp_region_over (by kernel_rfl) (by kernel_rfl) ?_
      repeat (any_goals (first | go_big_quiet_step ((first | (go_at_call 51; exact quiet_gives (Hc1.out _)) | (go_at_call 21; exact quiet_gives (Hc2.out _)))) | (refine wpQuiet_step (fun K hK => ?_); go_simp; split <;> (refine hK _ ?_; clear hK K)) | quiet_step ((first | (go_at_call 51; exact quiet_gives (Hc1.out _)) | (go_at_call 21; exact quiet_gives (Hc2.out _))))))
      all_goals (refine wpQuiet_nil ?_; intro w2 hw'; have hb := below_of_ex hw'; clear hw'; have hz := hb.size; (try simp only [World.size_alloc, World.size_setCell, World.size_drew, size_put] at hz); have hB : Below w.heap.size w w2 := below_step (by (repeat' (first | (with_reducible exact Below.refl _ _) | (with_reducible exact Nat.le_refl _) | (with_reducible assumption) | (with_reducible refine below_step ?_ ?_ hr) | (with_reducible refine below_over ?_ ?_ _) | (with_reducible refine Below.alloc ?_ ?_ _) | (with_reducible refine Below.setCell ?_ ?_ _) | (with_reducible refine below_put ?_ ?_ _) | (with_reducible refine Below.drew ?_) | (with_reducible refine below_drewN_ ?_ _) | (with_reducible refine le_drewN ?_ _) | (with_reducible refine over_le _ _ _ ?_) | (with_reducible refine le_alloc ?_ _) | (with_reducible refine le_setCell ?_ _ _) | (with_reducible refine le_put ?_ _ _) | (with_reducible refine le_drew ?_) | dsimp only | omega | ((try simp only [World.size_alloc, World.size_setCell, World.size_drew, size_put]); omega) | (simp; done)))) (by (first | omega | ((try simp only [World.size_alloc, World.size_setCell, World.size_drew, size_put]); omega))) hb; have Q' : w2.heap[w.heap.size]? = _ := hb.block (w.heap.size) (by (first | omega | ((try simp only [World.size_alloc, World.size_setCell, World.size_drew, size_put]); omega))); simp only [alloc_block_if, put_block_if, over_block_if, set_block_if, setObj_cells, drew_block, drewN_block, Option.map_some, List.setIfInBounds_toArray, List.set_cons_zero, List.set_cons_succ, World.size_alloc, World.size_setCell, size_put, World.size_drew, if_true, if_false, ↓IntWalk.iteOmega, Q_0] at Q'; clear Q_0; have Q_0 := Q'; clear Q'; have q_0 := cell_of_block Q_0; clear hb)
      go_wp2_with fail
      go_ret
      exact gives_of (ret_bool HE.out.symm) (by go_light; (repeat' (first | (with_reducible exact Below.refl _ _) | (with_reducible exact Nat.le_refl _) | (with_reducible assumption) | (with_reducible refine below_step ?_ ?_ hr) | (with_reducible refine below_over ?_ ?_ _) | (with_reducible refine Below.alloc ?_ ?_ _) | (with_reducible refine Below.setCell ?_ ?_ _) | (with_reducible refine below_put ?_ ?_ _) | (with_reducible refine Below.drew ?_) | (with_reducible refine below_drewN_ ?_ _) | (with_reducible refine le_drewN ?_ _) | (with_reducible refine over_le _ _ _ ?_) | (with_reducible refine le_alloc ?_ _) | (with_reducible refine le_setCell ?_ _ _) | (with_reducible refine le_put ?_ _ _) | (with_reducible refine le_drew ?_) | dsimp only | omega | ((try simp only [World.size_alloc, World.size_setCell, World.size_drew, size_put]); omega) | (simp; done))))
def newBad (serial product units : Int) : Bool := decide (serial < 1) || (decide (9999 < serial) || (decide (product < 1) || (decide (9999 < product) || (decide (units < 0) || decide (100 < units)))))
abbrev newM (serial product units : Int) : MV := ⟨serial, 0, product, -1, units, -1, 0, -1, 0⟩
abbrev zeroM0 : MV := ⟨0, 0, 0, 0, 0, 0, 0, 0, 0⟩
def newV (key serial product units : Int) : Value := if newBad serial product units = true then .tuple #[zeroM0.val, .int .i64 2] else .tuple #[((newM serial product units).tagged (signF key (newM serial product units))).val, .int .i64 0]
theorem new_ok {s p u : Int} (h : newBad s p u = false) : 1 ≤ s ∧ s ≤ 9999 ∧ 1 ≤ p ∧ p ≤ 9999 ∧ 0 ≤ u ∧ u ≤ 100 := by
  simp [newBad] at h; omega
set_option maxRecDepth 100000 in
set_option maxHeartbeats 1600000 in
theorem media_New (key serial product units : Int) (w : World) : Calls Tryz.prog 11 #[.int .u64 key, .int .i64 serial, .int .i64 product, .int .i64 units] w (Gives (newV key serial product units) w) := by
  cases hb : newBad serial product units
  · obtain ⟨h1, h2, h3, h4, h5, h6⟩ := new_ok hb
    have HV : Hid (newV key serial product units = .tuple #[((newM serial product units).tagged (signF key (newM serial product units))).val, .int .i64 0]) := by show _ = _; rw [newV, if_neg (by rw [hb]; simp)]
    have hf : (newM serial product units).fit := ⟨⟨by dsimp only; omega, by simp, by dsimp only; omega, by simp, by dsimp only; omega, by simp, by simp, by simp⟩, by simp, by simp, by simp⟩
    have Hc := Lib.hid (fun w' => media_Sign key (newM serial product units) w' hf (by dsimp only; omega) (by dsimp only; omega))
    generalize signF key (newM serial product units) = T at HV Hc
    have g1 : decide (serial < 1) = false := by simp; omega
    have g2 : decide (9999 < serial) = false := by simp; omega
    have g3 : decide (product < 1) = false := by simp; omega
    have g4 : decide (9999 < product) = false := by simp; omega
    have g5 : decide (units < 0) = false := by simp; omega
    have g6 : decide (100 < units) = false := by simp; omega
    rw [HV.out]
    clear hb hf HV
    (go_enter Tryz.func11, Tryz.ntmps11; try dsimp only [List.append])
    go_wp2_with fail
    refine (Hc.out _).mono ?_
    rintro e w1 hg
    obtain ⟨rfl, hb⟩ := hg.below
    clear hg
    have hz := hb.size
    (try simp only [World.size_alloc, World.size_setCell, World.size_drew, size_put] at hz)
    have hB : Below w.heap.size w w1 := below_step (by (repeat' (first | (with_reducible exact Below.refl _ _) | (with_reducible exact Nat.le_refl _) | (with_reducible assumption) | (with_reducible refine below_step ?_ ?_ hr) | (with_reducible refine below_over ?_ ?_ _) | (with_reducible refine Below.alloc ?_ ?_ _) | (with_reducible refine Below.setCell ?_ ?_ _) | (with_reducible refine below_put ?_ ?_ _) | (with_reducible refine Below.drew ?_) | (with_reducible refine below_drewN_ ?_ _) | (with_reducible refine le_drewN ?_ _) | (with_reducible refine over_le _ _ _ ?_) | (with_reducible refine le_alloc ?_ _) | (with_reducible refine le_setCell ?_ _ _) | (with_reducible refine le_put ?_ _ _) | (with_reducible refine le_drew ?_) | dsimp only | omega | ((try simp only [World.size_alloc, World.size_setCell, World.size_drew, size_put]); omega) | (simp; done)))) (by (first | omega | ((try simp only [World.size_alloc, World.size_setCell, World.size_drew, size_put]); omega))) hb
    have Q' : w1.heap[w.heap.size]? = _ := hb.block (w.heap.size) (by (first | omega | ((try simp only [World.size_alloc, World.size_setCell, World.size_drew, size_put]); omega)))
    simp only [alloc_block_if, put_block_if, over_block_if, set_block_if, setObj_cells, drew_block, drewN_block, Option.map_some, List.setIfInBounds_toArray, List.set_cons_zero, List.set_cons_succ, World.size_alloc, World.size_setCell, size_put, World.size_drew, if_true, if_false, ↓IntWalk.iteOmega] at Q'
    have Q_0 := Q'
    clear Q'
    have q_0 := cell_of_block Q_0
    clear hb
    have L_0 : w.heap.size < w1.heap.size := by omega
    clear q_0
    rw [← put_self Q_0]
    go_wp2_with fail
    refine bodyPost_ret (v := .tuple #[((newM serial product units).tagged T).val, .int .i64 0]) (by simp [results, Tryz.results11, go_sem, L_0, MV.tagged]) rfl ?_
    exact gives_of rfl (by go_light; (repeat' (first | (with_reducible exact Below.refl _ _) | (with_reducible exact Nat.le_refl _) | (with_reducible assumption) | (with_reducible refine below_step ?_ ?_ hr) | (with_reducible refine below_over ?_ ?_ _) | (with_reducible refine Below.alloc ?_ ?_ _) | (with_reducible refine Below.setCell ?_ ?_ _) | (with_reducible refine below_put ?_ ?_ _) | (with_reducible refine Below.drew ?_) | (with_reducible refine below_drewN_ ?_ _) | (with_reducible refine le_drewN ?_ _) | (with_reducible refine over_le _ _ _ ?_) | (with_reducible refine le_alloc ?_ _) | (with_reducible refine le_setCell ?_ _ _) | (with_reducible refine le_put ?_ _ _) | (with_reducible refine le_drew ?_) | dsimp only | omega | ((try simp only [World.size_alloc, World.size_setCell, World.size_drew, size_put]); omega) | (simp; done))))
  · have HV : Hid (newV key serial product units = .tuple #[zeroM0.val, .int .i64 2]) := by show _ = _; rw [newV, if_pos hb]
    rw [HV.out]
    have HB := Lib.hid hb
    clear hb HV
    (go_enter Tryz.func11, Tryz.ntmps11; try dsimp only [List.append])
    go_wp2_with fail
    all_goals first
      | (refine bodyPost_ret (v := .tuple #[zeroM0.val, .int .i64 2]) (by simp [results, Tryz.results11, go_sem]) rfl ?_; exact gives_of rfl (by go_light; (repeat' (first | (with_reducible exact Below.refl _ _) | (with_reducible exact Nat.le_refl _) | (with_reducible assumption) | (with_reducible refine below_step ?_ ?_ hr) | (with_reducible refine below_over ?_ ?_ _) | (with_reducible refine Below.alloc ?_ ?_ _) | (with_reducible refine Below.setCell ?_ ?_ _) | (with_reducible refine below_put ?_ ?_ _) | (with_reducible refine Below.drew ?_) | (with_reducible refine below_drewN_ ?_ _) | (with_reducible refine le_drewN ?_ _) | (with_reducible refine over_le _ _ _ ?_) | (with_reducible refine le_alloc ?_ _) | (with_reducible refine le_setCell ?_ _ _) | (with_reducible refine le_put ?_ _ _) | (with_reducible refine le_drew ?_) | dsimp only | omega | ((try simp only [World.size_alloc, World.size_setCell, World.size_drew, size_put]); omega) | (simp; done)))))
      | (exfalso; go_light; have h := HB.out; simp [newBad] at h; omega)
set_option maxRecDepth 100000 in
set_option maxHeartbeats 400000 in
theorem revoke_Has (r : RV) (n : Int) (w : World) (hr : Rd w encI r.sl r.list) : Calls Tryz.prog 31 #[r.val, .int .i64 n] w (Gives (.bool (hasF r.list n)) w) := by
  obtain ⟨v, ⟨A, k, c⟩, xs⟩ := r
  have Hr := Lib.hid hr
  clear hr
  (go_enter Tryz.func31, Tryz.ntmps31; try dsimp only [List.append])
  go_wp2_with (go_at_call 52; refine (slices_Contains ⟨A, k, c⟩ xs n _ (Hr.out.toW (by (repeat' (first | (with_reducible exact Below.refl _ _) | (with_reducible exact Nat.le_refl _) | (with_reducible assumption) | (with_reducible refine below_step ?_ ?_ hr) | (with_reducible refine below_over ?_ ?_ _) | (with_reducible refine Below.alloc ?_ ?_ _) | (with_reducible refine Below.setCell ?_ ?_ _) | (with_reducible refine below_put ?_ ?_ _) | (with_reducible refine Below.drew ?_) | (with_reducible refine below_drewN_ ?_ _) | (with_reducible refine le_drewN ?_ _) | (with_reducible refine over_le _ _ _ ?_) | (with_reducible refine le_alloc ?_ _) | (with_reducible refine le_setCell ?_ _ _) | (with_reducible refine le_put ?_ _ _) | (with_reducible refine le_drew ?_) | dsimp only | omega | ((try simp only [World.size_alloc, World.size_setCell, World.size_drew, size_put]); omega) | (simp; done)))))).mono ?_; rintro e w' ⟨rfl, rfl⟩)
  go_ret
  exact gives_of rfl (by go_light; (repeat' (first | (with_reducible exact Below.refl _ _) | (with_reducible exact Nat.le_refl _) | (with_reducible assumption) | (with_reducible refine below_step ?_ ?_ hr) | (with_reducible refine below_over ?_ ?_ _) | (with_reducible refine Below.alloc ?_ ?_ _) | (with_reducible refine Below.setCell ?_ ?_ _) | (with_reducible refine below_put ?_ ?_ _) | (with_reducible refine Below.drew ?_) | (with_reducible refine below_drewN_ ?_ _) | (with_reducible refine le_drewN ?_ _) | (with_reducible refine over_le _ _ _ ?_) | (with_reducible refine le_alloc ?_ _) | (with_reducible refine le_setCell ?_ _ _) | (with_reducible refine le_put ?_ _ _) | (with_reducible refine le_drew ?_) | dsimp only | omega | ((try simp only [World.size_alloc, World.size_setCell, World.size_drew, size_put]); omega) | (simp; done))))
end Go.Proofs.YtfajjgkhanjcfaaGreat
