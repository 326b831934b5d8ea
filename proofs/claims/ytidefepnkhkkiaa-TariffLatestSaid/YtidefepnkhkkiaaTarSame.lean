/- Tariffs: whether two are equal; whether tariffs are right. -/
import Derived.Test.YtidefepnkhkkiaaTarAt
namespace Go.Proofs.Ytidefepnkhkkiaa
set_option linter.unusedSimpArgs false
set_option linter.unusedVariables false
open Go.RowKit
theorem Hrs.ext_ {a b : Hrs} (h1 : a.days = b.days) (h2 : a.from_ = b.from_) (h3 : a.till = b.till) : a = b := by cases a; cases b; simp_all
set_option maxRecDepth 100000 in
set_option maxHeartbeats 1600000 in
theorem ref33_sameRate (x y : RT) (w : World) (hx : x.at_ w) (hy : y.at_ w) (he : x.data = y.data) : Calls Try.prog 27 #[x.val, y.val] w (Gives (.bool true) w) := by
  obtain ⟨xl, xp, xe, ⟨A, n, c⟩, hs⟩ := x
  obtain ⟨yl, yp, ye, ⟨B, m, d⟩, gs⟩ := y
  obtain ⟨rfl, rfl, rfl, rfl⟩ : xl = yl ∧ xp = yp ∧ xe = ye ∧ hs = gs := by simpa [RT.data] using he
  have Hx : Hid (Rd w Hrs.enc ⟨A, n, c⟩ hs) := hx
  have Hy : Hid (Rd w Hrs.enc ⟨B, m, d⟩ hs) := hy
  have hmn : m = n := by have h1 := Hx.out.len; have h2 := Hy.out.len; dsimp only at h1 h2; omega
  subst hmn
  have hmax : m ≤ 9223372036854775807 := Hx.out.bound
  clear hx hy he
  simp only [RT.val]
  (go_enter Try.func27, Try.ntmps27; try dsimp only [List.append])
  go_wp2_with fail
  refine wp_letter (fun w1 hb => ?_)
  have hz := hb.size
  (try simp only [World.size_alloc, World.size_setCell, World.size_drew, size_put] at hz)
  have hB : Below w.heap.size w w1 := below_step (by (repeat' (first | (with_reducible exact Below.refl _ _) | (with_reducible exact Nat.le_refl _) | (with_reducible assumption) | (with_reducible refine below_step ?_ ?_ hr) | (with_reducible refine below_over ?_ ?_ _) | (with_reducible refine Below.alloc ?_ ?_ _) | (with_reducible refine Below.setCell ?_ ?_ _) | (with_reducible refine below_put ?_ ?_ _) | (with_reducible refine Below.drew ?_) | (with_reducible refine below_drewN_ ?_ _) | (with_reducible refine le_drewN ?_ _) | (with_reducible refine over_le _ _ _ ?_) | (with_reducible refine le_alloc ?_ _) | (with_reducible refine le_setCell ?_ _ _) | (with_reducible refine le_put ?_ _ _) | (with_reducible refine le_drew ?_) | dsimp only | omega | ((try simp only [World.size_alloc, World.size_setCell, World.size_drew, size_put]); omega) | (simp; done)))) (by (first | omega | ((try simp only [World.size_alloc, World.size_setCell, World.size_drew, size_put]); omega))) hb
  have Q' : w1.heap[w.heap.size]? = _ := hb.block (w.heap.size) (by (first | omega | ((try simp only [World.size_alloc, World.size_setCell, World.size_drew, size_put]); omega)))
  simp only [alloc_block_if, put_block_if, over_block_if, set_block_if, setObj_cells, drew_block, drewN_block, Option.map_some, List.setIfInBounds_toArray, List.set_cons_zero, List.set_cons_succ, World.size_alloc, World.size_setCell, size_put, World.size_drew, if_true, if_false, ↓IntWalk.iteOmega] at Q'
  have Q_0 := Q'
  clear Q'
  have Q' : w1.heap[w.heap.size + 1]? = _ := hb.block (w.heap.size + 1) (by (first | omega | ((try simp only [World.size_alloc, World.size_setCell, World.size_drew, size_put]); omega)))
  simp only [alloc_block_if, put_block_if, over_block_if, set_block_if, setObj_cells, drew_block, drewN_block, Option.map_some, List.setIfInBounds_toArray, List.set_cons_zero, List.set_cons_succ, World.size_alloc, World.size_setCell, size_put, World.size_drew, if_true, if_false, ↓IntWalk.iteOmega] at Q'
  have Q_1 := Q'
  clear Q'
  have q_0 := cell_of_block Q_0
  have q_1 := cell_of_block Q_1
  clear hb
  go_loopw [5] (fun i wr => ∃ k : Nat, k ≤ m ∧ i = .int .i64 k ∧ Below w1.heap.size w1 wr) (fun i _ => m - (intOf i).toNat)
  case atStart => exact ⟨0, Nat.zero_le _, rfl, Below.refl _ _⟩
  case round =>
    obtain ⟨k, hk, rfl, hBr⟩ := hrel
    have hzr := hBr.size
    have hBw : Below w.heap.size w wr := hB.trans (hBr.mono (by omega))
    have q_0r := cell_of_block ((hBr.block _ (by omega)).trans Q_0)
    have q_1r := cell_of_block ((hBr.block _ (by omega)).trans Q_1)
    by_cases hlt : k < m
    · obtain ⟨b, off, u, rfl, hbw, -, Hu, hc0, hc1, hc2⟩ := Hx.out.hrs hlt
      obtain ⟨b', off', u', rfl, hbw', -, Hu', hd0, hd1, hd2⟩ := Hy.out.hrs hlt
      obtain rfl : u = u' := by have h1 := Hu.out; have h2 := Hu'.out; rw [h1] at h2; cases h2; rfl
      have e0 := (hBw.cell (p := ⟨b, _, none⟩) hbw).trans hc0
      have e1 := (hBw.cell (p := ⟨b, _, none⟩) hbw).trans hc1
      have e2 := (hBw.cell (p := ⟨b, _, none⟩) hbw).trans hc2
      have e3 := (hBw.cell (p := ⟨b', _, none⟩) hbw').trans hd0
      have e4 := (hBw.cell (p := ⟨b', _, none⟩) hbw').trans hd1
      have e5 := (hBw.cell (p := ⟨b', _, none⟩) hbw').trans hd2
      clear hc0 hc1 hc2 hd0 hd1 hd2
      go_wp2_with fail
      all_goals refine wp_region_over (by kernel_rfl) (by kernel_rfl) ?_
      repeat (any_goals (first | go_big_quiet_step ((fail)) | (refine wpQuiet_step (fun K hK => ?_); go_simp; split <;> (refine hK _ ?_; clear hK K)) | quiet_step ((fail))))
      all_goals (refine wpQuiet_nil ?_; intro _ hw'; obtain ⟨xq, hw''⟩ := hw'; have hz := size_of hw''; (try simp only [World.size_alloc, World.size_setCell, World.size_drew] at hz); subst hw'')
      go_wp2_with fail
      go_roundw
      case rel => exact ⟨k + 1, by omega, by go_num, by go_light; (repeat' (first | (with_reducible exact Below.refl _ _) | (with_reducible exact Nat.le_refl _) | (with_reducible assumption) | (with_reducible refine below_step ?_ ?_ hr) | (with_reducible refine below_over ?_ ?_ _) | (with_reducible refine Below.alloc ?_ ?_ _) | (with_reducible refine Below.setCell ?_ ?_ _) | (with_reducible refine below_put ?_ ?_ _) | (with_reducible refine Below.drew ?_) | (with_reducible refine below_drewN_ ?_ _) | (with_reducible refine le_drewN ?_ _) | (with_reducible refine over_le _ _ _ ?_) | (with_reducible refine le_alloc ?_ _) | (with_reducible refine le_setCell ?_ _ _) | (with_reducible refine le_put ?_ _ _) | (with_reducible refine le_drew ?_) | dsimp only | omega | ((try simp only [World.size_alloc, World.size_setCell, World.size_drew, size_put]); omega) | (simp; done)))⟩
      case measure => (simp [intOf] <;> omega)
    · go_wp2_with fail
      go_ret
      exact gives_of rfl (by go_light; (repeat' (first | (with_reducible exact Below.refl _ _) | (with_reducible exact Nat.le_refl _) | (with_reducible assumption) | (with_reducible refine below_step ?_ ?_ hr) | (with_reducible refine below_over ?_ ?_ _) | (with_reducible refine Below.alloc ?_ ?_ _) | (with_reducible refine Below.setCell ?_ ?_ _) | (with_reducible refine below_put ?_ ?_ _) | (with_reducible refine Below.drew ?_) | (with_reducible refine below_drewN_ ?_ _) | (with_reducible refine le_drewN ?_ _) | (with_reducible refine over_le _ _ _ ?_) | (with_reducible refine le_alloc ?_ _) | (with_reducible refine le_setCell ?_ _ _) | (with_reducible refine le_put ?_ _ _) | (with_reducible refine le_drew ?_) | dsimp only | omega | ((try simp only [World.size_alloc, World.size_setCell, World.size_drew, size_put]); omega) | (simp; done))))
set_option maxRecDepth 100000 in
set_option maxHeartbeats 1600000 in
theorem ref33_Same (x y : TF) (w : World) (hx : x.at_ w) (hy : y.at_ w) (he : x.same y) : Calls Try.prog 17 #[x.val, y.val] w (Gives (.bool true) w) := by
  obtain ⟨xf, ⟨A, n, c⟩, rs⟩ := x
  obtain ⟨yf, ⟨B, m, d⟩, qs⟩ := y
  obtain ⟨hf, hd⟩ := he
  dsimp only at hf hd
  subst hf
  have hlen : rs.length = qs.length := by have h := congrArg List.length hd; simpa using h
  have Hd := Lib.hid hd
  have Hx := Lib.hid hx
  have Hy := Lib.hid hy
  have hmn : m = n := by have h1 := Hx.out.rd.len; have h2 := Hy.out.rd.len; dsimp only at h1 h2; omega
  subst hmn
  have hmax : m ≤ 9223372036854775807 := Hx.out.rd.bound
  clear hx hy hd hlen
  simp only [TF.val]
  (go_enter Try.func17, Try.ntmps17; try dsimp only [List.append])
  go_wp2_with fail
  refine wp_letter (fun w1 hb => ?_)
  have hz := hb.size
  (try simp only [World.size_alloc, World.size_setCell, World.size_drew, size_put] at hz)
  have hB : Below w.heap.size w w1 := below_step (by (repeat' (first | (with_reducible exact Below.refl _ _) | (with_reducible exact Nat.le_refl _) | (with_reducible assumption) | (with_reducible refine below_step ?_ ?_ hr) | (with_reducible refine below_over ?_ ?_ _) | (with_reducible refine Below.alloc ?_ ?_ _) | (with_reducible refine Below.setCell ?_ ?_ _) | (with_reducible refine below_put ?_ ?_ _) | (with_reducible refine Below.drew ?_) | (with_reducible refine below_drewN_ ?_ _) | (with_reducible refine le_drewN ?_ _) | (with_reducible refine over_le _ _ _ ?_) | (with_reducible refine le_alloc ?_ _) | (with_reducible refine le_setCell ?_ _ _) | (with_reducible refine le_put ?_ _ _) | (with_reducible refine le_drew ?_) | dsimp only | omega | ((try simp only [World.size_alloc, World.size_setCell, World.size_drew, size_put]); omega) | (simp; done)))) (by (first | omega | ((try simp only [World.size_alloc, World.size_setCell, World.size_drew, size_put]); omega))) hb
  have Q' : w1.heap[w.heap.size]? = _ := hb.block (w.heap.size) (by (first | omega | ((try simp only [World.size_alloc, World.size_setCell, World.size_drew, size_put]); omega)))
  simp only [alloc_block_if, put_block_if, over_block_if, set_block_if, setObj_cells, drew_block, drewN_block, Option.map_some, List.setIfInBounds_toArray, List.set_cons_zero, List.set_cons_succ, World.size_alloc, World.size_setCell, size_put, World.size_drew, if_true, if_false, ↓IntWalk.iteOmega] at Q'
  have Q_0 := Q'
  clear Q'
  have Q' : w1.heap[w.heap.size + 1]? = _ := hb.block (w.heap.size + 1) (by (first | omega | ((try simp only [World.size_alloc, World.size_setCell, World.size_drew, size_put]); omega)))
  simp only [alloc_block_if, put_block_if, over_block_if, set_block_if, setObj_cells, drew_block, drewN_block, Option.map_some, List.setIfInBounds_toArray, List.set_cons_zero, List.set_cons_succ, World.size_alloc, World.size_setCell, size_put, World.size_drew, if_true, if_false, ↓IntWalk.iteOmega] at Q'
  have Q_1 := Q'
  clear Q'
  have q_0 := cell_of_block Q_0
  have q_1 := cell_of_block Q_1
  clear hb
  go_loopw [5] (fun i wr => ∃ k : Nat, k ≤ m ∧ i = .int .i64 k ∧ Below w1.heap.size w1 wr) (fun i _ => m - (intOf i).toNat)
  case atStart => exact ⟨0, Nat.zero_le _, rfl, Below.refl _ _⟩
  case round =>
    obtain ⟨k, hk, rfl, hBr⟩ := hrel
    have hzr := hBr.size
    have hBw : Below w.heap.size w wr := hB.trans (hBr.mono (by omega))
    have q_0r := cell_of_block ((hBr.block _ (by omega)).trans Q_0)
    have q_1r := cell_of_block ((hBr.block _ (by omega)).trans Q_1)
    by_cases hlt : k < m
    · obtain ⟨b, off, u, rfl, hbw, -, Hu, hc0, hc1, hc2, hc3⟩ := Hx.out.rd.rt hlt
      obtain ⟨b', off', u', rfl, hbw', -, Hu', hd0, hd1, hd2, hd3⟩ := Hy.out.rd.rt hlt
      have Hue : Hid (u.data = u'.data) := by
        have h1 : (rs.map RT.data)[k]? = some u.data := by rw [List.getElem?_map, Hu.out]; rfl
        have h2 : (qs.map RT.data)[k]? = some u'.data := by rw [List.getElem?_map, Hu'.out]; rfl
        rw [Hd.out, h2] at h1
        exact (Option.some.inj h1).symm
      have Hua := Lib.hid (Hx.out.all u (List.mem_of_getElem? Hu.out))
      have Hua' := Lib.hid (Hy.out.all u' (List.mem_of_getElem? Hu'.out))
      have e0 := (hBw.cell (p := ⟨b, _, none⟩) hbw).trans hc0
      have e1 := (hBw.cell (p := ⟨b, _, none⟩) hbw).trans hc1
      have e2 := (hBw.cell (p := ⟨b, _, none⟩) hbw).trans hc2
      have e2' := (hBw.cell (p := ⟨b, _, none⟩) hbw).trans hc3
      have e3 := (hBw.cell (p := ⟨b', _, none⟩) hbw').trans hd0
      have e4 := (hBw.cell (p := ⟨b', _, none⟩) hbw').trans hd1
      have e5 := (hBw.cell (p := ⟨b', _, none⟩) hbw').trans hd2
      have e6 := (hBw.cell (p := ⟨b', _, none⟩) hbw').trans hd3
      clear hc0 hc1 hc2 hc3 hd0 hd1 hd2 hd3
      go_wp2_with fail
      all_goals refine wp_region_over (by kernel_rfl) (by kernel_rfl) ?_
      repeat (any_goals (first | go_big_quiet_step ((first | (go_at_call 27; exact quiet_gives (ref33_sameRate u u' _ (Hua.out.toW (by (repeat' (first | (with_reducible exact Below.refl _ _) | (with_reducible exact Nat.le_refl _) | (with_reducible assumption) | (with_reducible refine below_step ?_ ?_ hr) | (with_reducible refine below_over ?_ ?_ _) | (with_reducible refine Below.alloc ?_ ?_ _) | (with_reducible refine Below.setCell ?_ ?_ _) | (with_reducible refine below_put ?_ ?_ _) | (with_reducible refine Below.drew ?_) | (with_reducible refine below_drewN_ ?_ _) | (with_reducible refine le_drewN ?_ _) | (with_reducible refine over_le _ _ _ ?_) | (with_reducible refine le_alloc ?_ _) | (with_reducible refine le_setCell ?_ _ _) | (with_reducible refine le_put ?_ _ _) | (with_reducible refine le_drew ?_) | dsimp only | omega | ((try simp only [World.size_alloc, World.size_setCell, World.size_drew, size_put]); omega) | (simp; done))))) (Hua'.out.toW (by (repeat' (first | (with_reducible exact Below.refl _ _) | (with_reducible exact Nat.le_refl _) | (with_reducible assumption) | (with_reducible refine below_step ?_ ?_ hr) | (with_reducible refine below_over ?_ ?_ _) | (with_reducible refine Below.alloc ?_ ?_ _) | (with_reducible refine Below.setCell ?_ ?_ _) | (with_reducible refine below_put ?_ ?_ _) | (with_reducible refine Below.drew ?_) | (with_reducible refine below_drewN_ ?_ _) | (with_reducible refine le_drewN ?_ _) | (with_reducible refine over_le _ _ _ ?_) | (with_reducible refine le_alloc ?_ _) | (with_reducible refine le_setCell ?_ _ _) | (with_reducible refine le_put ?_ _ _) | (with_reducible refine le_drew ?_) | dsimp only | omega | ((try simp only [World.size_alloc, World.size_setCell, World.size_drew, size_put]); omega) | (simp; done))))) Hue.out)))) | (refine wpQuiet_step (fun K hK => ?_); go_simp; split <;> (refine hK _ ?_; clear hK K)) | quiet_step ((first | (go_at_call 27; exact quiet_gives (ref33_sameRate u u' _ (Hua.out.toW (by (repeat' (first | (with_reducible exact Below.refl _ _) | (with_reducible exact Nat.le_refl _) | (with_reducible assumption) | (with_reducible refine below_step ?_ ?_ hr) | (with_reducible refine below_over ?_ ?_ _) | (with_reducible refine Below.alloc ?_ ?_ _) | (with_reducible refine Below.setCell ?_ ?_ _) | (with_reducible refine below_put ?_ ?_ _) | (with_reducible refine Below.drew ?_) | (with_reducible refine below_drewN_ ?_ _) | (with_reducible refine le_drewN ?_ _) | (with_reducible refine over_le _ _ _ ?_) | (with_reducible refine le_alloc ?_ _) | (with_reducible refine le_setCell ?_ _ _) | (with_reducible refine le_put ?_ _ _) | (with_reducible refine le_drew ?_) | dsimp only | omega | ((try simp only [World.size_alloc, World.size_setCell, World.size_drew, size_put]); omega) | (simp; done))))) (Hua'.out.toW (by (repeat' (first | (with_reducible exact Below.refl _ _) | (with_reducible exact Nat.le_refl _) | (with_reducible assumption) | (with_reducible refine below_step ?_ ?_ hr) | (with_reducible refine below_over ?_ ?_ _) | (with_reducible refine Below.alloc ?_ ?_ _) | (with_reducible refine Below.setCell ?_ ?_ _) | (with_reducible refine below_put ?_ ?_ _) | (with_reducible refine Below.drew ?_) | (with_reducible refine below_drewN_ ?_ _) | (with_reducible refine le_drewN ?_ _) | (with_reducible refine over_le _ _ _ ?_) | (with_reducible refine le_alloc ?_ _) | (with_reducible refine le_setCell ?_ _ _) | (with_reducible refine le_put ?_ _ _) | (with_reducible refine le_drew ?_) | dsimp only | omega | ((try simp only [World.size_alloc, World.size_setCell, World.size_drew, size_put]); omega) | (simp; done))))) Hue.out))))))
      all_goals (refine wpQuiet_nil ?_; intro _ hw'; obtain ⟨xq, hw''⟩ := hw'; have hz := size_of hw''; (try simp only [World.size_alloc, World.size_setCell, World.size_drew] at hz); subst hw'')
      go_wp2_with fail
      go_roundw
      case rel => exact ⟨k + 1, by omega, by go_num, by go_light; (repeat' (first | (with_reducible exact Below.refl _ _) | (with_reducible exact Nat.le_refl _) | (with_reducible assumption) | (with_reducible refine below_step ?_ ?_ hr) | (with_reducible refine below_over ?_ ?_ _) | (with_reducible refine Below.alloc ?_ ?_ _) | (with_reducible refine Below.setCell ?_ ?_ _) | (with_reducible refine below_put ?_ ?_ _) | (with_reducible refine Below.drew ?_) | (with_reducible refine below_drewN_ ?_ _) | (with_reducible refine le_drewN ?_ _) | (with_reducible refine over_le _ _ _ ?_) | (with_reducible refine le_alloc ?_ _) | (with_reducible refine le_setCell ?_ _ _) | (with_reducible refine le_put ?_ _ _) | (with_reducible refine le_drew ?_) | dsimp only | omega | ((try simp only [World.size_alloc, World.size_setCell, World.size_drew, size_put]); omega) | (simp; done)))⟩
      case measure => (simp [intOf] <;> omega)
    · go_wp2_with fail
      go_ret
      exact gives_of rfl (by go_light; (repeat' (first | (with_reducible exact Below.refl _ _) | (with_reducible exact Nat.le_refl _) | (with_reducible assumption) | (with_reducible refine below_step ?_ ?_ hr) | (with_reducible refine below_over ?_ ?_ _) | (with_reducible refine Below.alloc ?_ ?_ _) | (with_reducible refine Below.setCell ?_ ?_ _) | (with_reducible refine below_put ?_ ?_ _) | (with_reducible refine Below.drew ?_) | (with_reducible refine below_drewN_ ?_ _) | (with_reducible refine le_drewN ?_ _) | (with_reducible refine over_le _ _ _ ?_) | (with_reducible refine le_alloc ?_ _) | (with_reducible refine le_setCell ?_ _ _) | (with_reducible refine le_put ?_ _ _) | (with_reducible refine le_drew ?_) | dsimp only | omega | ((try simp only [World.size_alloc, World.size_setCell, World.size_drew, size_put]); omega) | (simp; done))))
/-! right -/
def rightT (xs : List TF) : Bool := fewF xs && (tarF xs == 0)
set_option maxRecDepth 100000 in
set_option maxHeartbeats 800000 in
theorem law33_right (s : Sl) (xs : List TF) (w : World) (hs : TFs w s xs) : Calls Try.prog 14 #[s.val] w (Gives (.bool (rightT xs)) w) := by
  have Hs := Lib.hid hs
  clear hs
  generalize hV : rightT xs = V
  cases hf : fewF xs
  · have HE : Hid (V = false) := by show _ = _; rw [← hV, rightT, hf]; rfl
    clear hV
    (go_enter Try.func14, Try.ntmps14; try dsimp only [List.append])
    go_wp2_with fail
    refine (hf ▸ law33_few s xs _ Hs.out).mono ?_
    rintro e w1 ⟨rfl, rfl⟩
    go_wp2_with fail
    go_ret
    exact gives_of (ret_bool HE.out.symm) (by go_light; (repeat' (first | (with_reducible exact Below.refl _ _) | (with_reducible exact Nat.le_refl _) | (with_reducible assumption) | (with_reducible refine below_step ?_ ?_ hr) | (with_reducible refine below_over ?_ ?_ _) | (with_reducible refine Below.alloc ?_ ?_ _) | (with_reducible refine Below.setCell ?_ ?_ _) | (with_reducible refine below_put ?_ ?_ _) | (with_reducible refine Below.drew ?_) | (with_reducible refine below_drewN_ ?_ _) | (with_reducible refine le_drewN ?_ _) | (with_reducible refine over_le _ _ _ ?_) | (with_reducible refine le_alloc ?_ _) | (with_reducible refine le_setCell ?_ _ _) | (with_reducible refine le_put ?_ _ _) | (with_reducible refine le_drew ?_) | dsimp only | omega | ((try simp only [World.size_alloc, World.size_setCell, World.size_drew, size_put]); omega) | (simp; done))))
  · have HE : Hid (V = (tarF xs == 0)) := by show _ = _; rw [← hV, rightT, hf]; rfl
    clear hV
    have Hc := fun w' (h : Below w.heap.size w w') => ref33_Right s xs w' (Hs.out.toW h)
    generalize tarF xs = T at HE Hc
    have Hc := Lib.hid Hc
    (go_enter Try.func14, Try.ntmps14; try dsimp only [List.append])
    go_wp2_with fail
    refine (hf ▸ law33_few s xs _ Hs.out).mono ?_
    rintro e w1 ⟨rfl, rfl⟩
    go_wp2_with fail
    refine (Hc.out _ (by (repeat' (first | (with_reducible exact Below.refl _ _) | (with_reducible exact Nat.le_refl _) | (with_reducible assumption) | (with_reducible refine below_step ?_ ?_ hr) | (with_reducible refine below_over ?_ ?_ _) | (with_reducible refine Below.alloc ?_ ?_ _) | (with_reducible refine Below.setCell ?_ ?_ _) | (with_reducible refine below_put ?_ ?_ _) | (with_reducible refine Below.drew ?_) | (with_reducible refine below_drewN_ ?_ _) | (with_reducible refine le_drewN ?_ _) | (with_reducible refine over_le _ _ _ ?_) | (with_reducible refine le_alloc ?_ _) | (with_reducible refine le_setCell ?_ _ _) | (with_reducible refine le_put ?_ _ _) | (with_reducible refine le_drew ?_) | dsimp only | omega | ((try simp only [World.size_alloc, World.size_setCell, World.size_drew, size_put]); omega) | (simp; done))))).mono ?_
    rintro e w2 hg
    obtain ⟨rfl, hb⟩ := hg.below
    clear hg
    have hz := hb.size
    (try simp only [World.size_alloc, World.size_setCell, World.size_drew, size_put] at hz)
    have hB : Below w.heap.size w w2 := below_step (by (repeat' (first | (with_reducible exact Below.refl _ _) | (with_reducible exact Nat.le_refl _) | (with_reducible assumption) | (with_reducible refine below_step ?_ ?_ hr) | (with_reducible refine below_over ?_ ?_ _) | (with_reducible refine Below.alloc ?_ ?_ _) | (with_reducible refine Below.setCell ?_ ?_ _) | (with_reducible refine below_put ?_ ?_ _) | (with_reducible refine Below.drew ?_) | (with_reducible refine below_drewN_ ?_ _) | (with_reducible refine le_drewN ?_ _) | (with_reducible refine over_le _ _ _ ?_) | (with_reducible refine le_alloc ?_ _) | (with_reducible refine le_setCell ?_ _ _) | (with_reducible refine le_put ?_ _ _) | (with_reducible refine le_drew ?_) | dsimp only | omega | ((try simp only [World.size_alloc, World.size_setCell, World.size_drew, size_put]); omega) | (simp; done)))) (by (first | omega | ((try simp only [World.size_alloc, World.size_setCell, World.size_drew, size_put]); omega))) hb
    clear hb
    go_wp2_with fail
    go_ret
    exact gives_of (ret_bool HE.out.symm) (by go_light; (repeat' (first | (with_reducible exact Below.refl _ _) | (with_reducible exact Nat.le_refl _) | (with_reducible assumption) | (with_reducible refine below_step ?_ ?_ hr) | (with_reducible refine below_over ?_ ?_ _) | (with_reducible refine Below.alloc ?_ ?_ _) | (with_reducible refine Below.setCell ?_ ?_ _) | (with_reducible refine below_put ?_ ?_ _) | (with_reducible refine Below.drew ?_) | (with_reducible refine below_drewN_ ?_ _) | (with_reducible refine le_drewN ?_ _) | (with_reducible refine over_le _ _ _ ?_) | (with_reducible refine le_alloc ?_ _) | (with_reducible refine le_setCell ?_ _ _) | (with_reducible refine le_put ?_ _ _) | (with_reducible refine le_drew ?_) | dsimp only | omega | ((try simp only [World.size_alloc, World.size_setCell, World.size_drew, size_put]); omega) | (simp; done))))
end Go.Proofs.Ytidefepnkhkkiaa
