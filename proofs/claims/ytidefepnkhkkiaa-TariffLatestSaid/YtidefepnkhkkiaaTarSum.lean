/- Tariffs: the reference's Points, both sums, right, and whether two tariffs are equal. -/
import Derived.Test.YtidefepnkhkkiaaTarPts
namespace Go.Proofs.Ytidefepnkhkkiaa
set_option linter.unusedSimpArgs false
set_option linter.unusedVariables false
open Go.RowKit
set_option maxRecDepth 100000 in
set_option maxHeartbeats 1600000 in
theorem ref33_Points (s : Sl) (xs : List TF) (r : RD) (w : World) (hs : TFs w s xs) (hg : goodTs xs) : Calls Try.prog 19 #[s.val, r.val] w (Gives (.int .i64 (ptsF xs r)) w) := by
  obtain ⟨rg, rq, rs, rc, rp, rl, t⟩ := r
  have Hs := Lib.hid hs
  clear hs
  generalize hV : ptsF xs ⟨rg, rq, rs, rc, rp, rl, t⟩ = V
  have HV : Hid (rateAt rl t (atX xs (idxF xs t)).rates = V) := hV
  clear hV
  simp only [RD.val]
  have Hat := fun w' (h : Below w.heap.size w w') => ref33_At s xs t w' (Hs.out.toW h)
  have Hxg := atX_good hg (idxF xs t)
  have Hxa := atX_at Hs.out (idxF xs t)
  clear hg
  generalize hx : atX xs (idxF xs t) = x at HV Hat Hxg Hxa
  generalize (idxF xs t).isSome = found at Hat
  clear hx
  have Hat := Lib.hid Hat
  have Hxg := Lib.hid Hxg
  have Hxa := Lib.hid Hxa
  obtain ⟨xf, ⟨B, m, cm⟩, rs⟩ := x
  have hm : m ≤ 9223372036854775807 := Hxa.out.rd.bound
  dsimp only at HV
  (go_enter Try.func19, Try.ntmps19; try dsimp only [List.append])
  go_wp2_with fail
  refine (Hat.out _ (by (repeat' (first | (with_reducible exact Below.refl _ _) | (with_reducible exact Nat.le_refl _) | (with_reducible assumption) | (with_reducible refine below_step ?_ ?_ hr) | (with_reducible refine below_over ?_ ?_ _) | (with_reducible refine Below.alloc ?_ ?_ _) | (with_reducible refine Below.setCell ?_ ?_ _) | (with_reducible refine below_put ?_ ?_ _) | (with_reducible refine Below.drew ?_) | (with_reducible refine below_drewN_ ?_ _) | (with_reducible refine le_drewN ?_ _) | (with_reducible refine over_le _ _ _ ?_) | (with_reducible refine le_alloc ?_ _) | (with_reducible refine le_setCell ?_ _ _) | (with_reducible refine le_put ?_ _ _) | (with_reducible refine le_drew ?_) | dsimp only | omega | ((try simp only [World.size_alloc, World.size_setCell, World.size_drew, size_put]); omega) | (simp; done))))).mono ?_
  rintro e w1 hg
  obtain ⟨rfl, hb⟩ := hg.below
  clear hg
  have hz := hb.size
  (try simp only [World.size_alloc, World.size_setCell, World.size_drew, size_put] at hz)
  have hB : Below w.heap.size w w1 := below_step (by (repeat' (first | (with_reducible exact Below.refl _ _) | (with_reducible exact Nat.le_refl _) | (with_reducible assumption) | (with_reducible refine below_step ?_ ?_ hr) | (with_reducible refine below_over ?_ ?_ _) | (with_reducible refine Below.alloc ?_ ?_ _) | (with_reducible refine Below.setCell ?_ ?_ _) | (with_reducible refine below_put ?_ ?_ _) | (with_reducible refine Below.drew ?_) | (with_reducible refine below_drewN_ ?_ _) | (with_reducible refine le_drewN ?_ _) | (with_reducible refine over_le _ _ _ ?_) | (with_reducible refine le_alloc ?_ _) | (with_reducible refine le_setCell ?_ _ _) | (with_reducible refine le_put ?_ _ _) | (with_reducible refine le_drew ?_) | dsimp only | omega | ((try simp only [World.size_alloc, World.size_setCell, World.size_drew, size_put]); omega) | (simp; done)))) (by (first | omega | ((try simp only [World.size_alloc, World.size_setCell, World.size_drew, size_put]); omega))) hb
  have Q' : w1.heap[w.heap.size]? = _ := hb.block (w.heap.size) (by (first | omega | ((try simp only [World.size_alloc, World.size_setCell, World.size_drew, size_put]); omega)))
  simp only [alloc_block_if, put_block_if, over_block_if, set_block_if, setObj_cells, drew_block, drewN_block, Option.map_some, List.setIfInBounds_toArray, List.set_cons_zero, List.set_cons_succ, World.size_alloc, World.size_setCell, size_put, World.size_drew, if_true, if_false, ↓IntWalk.iteOmega] at Q'
  have Q_0 := Q'
  clear Q'
  have q_0 := cell_of_block Q_0
  clear hb
  go_wp2_with fail
  refine wp_letter (fun w2 hb => ?_)
  have hz := hb.size
  (try simp only [World.size_alloc, World.size_setCell, World.size_drew, size_put] at hz)
  have hB : Below w.heap.size w w2 := below_step (by (repeat' (first | (with_reducible exact Below.refl _ _) | (with_reducible exact Nat.le_refl _) | (with_reducible assumption) | (with_reducible refine below_step ?_ ?_ hr) | (with_reducible refine below_over ?_ ?_ _) | (with_reducible refine Below.alloc ?_ ?_ _) | (with_reducible refine Below.setCell ?_ ?_ _) | (with_reducible refine below_put ?_ ?_ _) | (with_reducible refine Below.drew ?_) | (with_reducible refine below_drewN_ ?_ _) | (with_reducible refine le_drewN ?_ _) | (with_reducible refine over_le _ _ _ ?_) | (with_reducible refine le_alloc ?_ _) | (with_reducible refine le_setCell ?_ _ _) | (with_reducible refine le_put ?_ _ _) | (with_reducible refine le_drew ?_) | dsimp only | omega | ((try simp only [World.size_alloc, World.size_setCell, World.size_drew, size_put]); omega) | (simp; done)))) (by (first | omega | ((try simp only [World.size_alloc, World.size_setCell, World.size_drew, size_put]); omega))) hb
  have Q' : w2.heap[w.heap.size]? = _ := hb.block (w.heap.size) (by (first | omega | ((try simp only [World.size_alloc, World.size_setCell, World.size_drew, size_put]); omega)))
  simp only [alloc_block_if, put_block_if, over_block_if, set_block_if, setObj_cells, drew_block, drewN_block, Option.map_some, List.setIfInBounds_toArray, List.set_cons_zero, List.set_cons_succ, World.size_alloc, World.size_setCell, size_put, World.size_drew, if_true, if_false, ↓IntWalk.iteOmega, Q_0] at Q'
  clear Q_0
  have Q_0 := Q'
  clear Q'
  have Q' : w2.heap[w1.heap.size]? = _ := hb.block (w1.heap.size) (by (first | omega | ((try simp only [World.size_alloc, World.size_setCell, World.size_drew, size_put]); omega)))
  simp only [alloc_block_if, put_block_if, over_block_if, set_block_if, setObj_cells, drew_block, drewN_block, Option.map_some, List.setIfInBounds_toArray, List.set_cons_zero, List.set_cons_succ, World.size_alloc, World.size_setCell, size_put, World.size_drew, if_true, if_false, ↓IntWalk.iteOmega] at Q'
  have Qw1_0 := Q'
  clear Q'
  have q_0 := cell_of_block Q_0
  have qw1_0 := cell_of_block Qw1_0
  clear hb
  go_loopw [7] (fun i wr => ∃ k : Nat, k ≤ m ∧ i = .int .i64 k ∧ Hid (rateAt rl t (rs.drop k) = V) ∧ Below w2.heap.size w2 wr) (fun i _ => m - (intOf i).toNat)
  case atStart => exact ⟨0, Nat.zero_le _, rfl, HV, Below.refl _ _⟩
  case round =>
    obtain ⟨k, hk, rfl, Hl, hBr⟩ := hrel
    have hzr := hBr.size
    have hBw : Below w.heap.size w wr := hB.trans (hBr.mono (by omega))
    have Q_0r := (hBr.block _ (by omega)).trans Q_0
    have Q_1r := (hBr.block _ (by omega)).trans Qw1_0
    have q_0r := cell_of_block Q_0r
    have q_1r := cell_of_block Q_1r
    by_cases hlt : k < m
    · obtain ⟨b2, off2, y, rfl, hbw2, Hy, Hy0, hd0, hd1, hd2, hd3⟩ := Hxa.out.rd.rt hlt
      have e0 := (hBw.cell (p := ⟨b2, _, none⟩) hbw2).trans hd0
      have e1 := (hBw.cell (p := ⟨b2, _, none⟩) hbw2).trans hd1
      have e2 := (hBw.cell (p := ⟨b2, _, none⟩) hbw2).trans hd2
      have e3 := (hBw.cell (p := ⟨b2, _, none⟩) hbw2).trans hd3
      clear hd0 hd1 hd2 hd3
      have Hyg := Lib.hid (Hxg.out y (List.mem_of_getElem? Hy0.out))
      have Hya := Lib.hid (Hxa.out.all y (List.mem_of_getElem? Hy0.out))
      obtain ⟨m0, m1⟩ := Hyg.out.mul
      have p0 := Hyg.out.p0; have p1 := Hyg.out.p1
      rw [Hy.out] at Hl
      by_cases hyl : y.lift = rl
      · have hyb : (y.lift == rl) = true := by simpa using hyl
        cases hin : inF y.peak t
        · have HE : Hid (V = y.points) := by show _ = _; rw [← Hl.out, rateAt, if_pos hyl, cntR, if_neg (by rw [hin]; simp)]
          clear hyl
          go_wp2_with fail
          refine ((hin ▸ ref02_In y.sp y.peak t _ (Hya.out.toW (by (repeat' (first | (with_reducible exact Below.refl _ _) | (with_reducible exact Nat.le_refl _) | (with_reducible assumption) | (with_reducible refine below_step ?_ ?_ hr) | (with_reducible refine below_over ?_ ?_ _) | (with_reducible refine Below.alloc ?_ ?_ _) | (with_reducible refine Below.setCell ?_ ?_ _) | (with_reducible refine below_put ?_ ?_ _) | (with_reducible refine Below.drew ?_) | (with_reducible refine below_drewN_ ?_ _) | (with_reducible refine le_drewN ?_ _) | (with_reducible refine over_le _ _ _ ?_) | (with_reducible refine le_alloc ?_ _) | (with_reducible refine le_setCell ?_ _ _) | (with_reducible refine le_put ?_ _ _) | (with_reducible refine le_drew ?_) | dsimp only | omega | ((try simp only [World.size_alloc, World.size_setCell, World.size_drew, size_put]); omega) | (simp; done))))))).mono ?_
          rintro e w3 hg
          obtain ⟨rfl, hb⟩ := hg.below
          clear hg
          have hz := hb.size
          (try simp only [World.size_alloc, World.size_setCell, World.size_drew, size_put] at hz)
          have hB : Below w.heap.size w w3 := below_step (by (repeat' (first | (with_reducible exact Below.refl _ _) | (with_reducible exact Nat.le_refl _) | (with_reducible assumption) | (with_reducible refine below_step ?_ ?_ hr) | (with_reducible refine below_over ?_ ?_ _) | (with_reducible refine Below.alloc ?_ ?_ _) | (with_reducible refine Below.setCell ?_ ?_ _) | (with_reducible refine below_put ?_ ?_ _) | (with_reducible refine Below.drew ?_) | (with_reducible refine below_drewN_ ?_ _) | (with_reducible refine le_drewN ?_ _) | (with_reducible refine over_le _ _ _ ?_) | (with_reducible refine le_alloc ?_ _) | (with_reducible refine le_setCell ?_ _ _) | (with_reducible refine le_put ?_ _ _) | (with_reducible refine le_drew ?_) | dsimp only | omega | ((try simp only [World.size_alloc, World.size_setCell, World.size_drew, size_put]); omega) | (simp; done)))) (by (first | omega | ((try simp only [World.size_alloc, World.size_setCell, World.size_drew, size_put]); omega))) hb
          have Q' : w3.heap[wr.heap.size]? = _ := hb.block (wr.heap.size) (by (first | omega | ((try simp only [World.size_alloc, World.size_setCell, World.size_drew, size_put]); omega)))
          simp only [alloc_block_if, put_block_if, over_block_if, set_block_if, setObj_cells, drew_block, drewN_block, Option.map_some, List.setIfInBounds_toArray, List.set_cons_zero, List.set_cons_succ, World.size_alloc, World.size_setCell, size_put, World.size_drew, if_true, if_false, ↓IntWalk.iteOmega] at Q'
          have Qwr_0 := Q'
          clear Q'
          have qwr_0 := cell_of_block Qwr_0
          clear hb
          go_wp2_with fail
          go_ret
          exact gives_of (ret_int HE.out.symm) (by go_light; (repeat' (first | (with_reducible exact Below.refl _ _) | (with_reducible exact Nat.le_refl _) | (with_reducible assumption) | (with_reducible refine below_step ?_ ?_ hr) | (with_reducible refine below_over ?_ ?_ _) | (with_reducible refine Below.alloc ?_ ?_ _) | (with_reducible refine Below.setCell ?_ ?_ _) | (with_reducible refine below_put ?_ ?_ _) | (with_reducible refine Below.drew ?_) | (with_reducible refine below_drewN_ ?_ _) | (with_reducible refine le_drewN ?_ _) | (with_reducible refine over_le _ _ _ ?_) | (with_reducible refine le_alloc ?_ _) | (with_reducible refine le_setCell ?_ _ _) | (with_reducible refine le_put ?_ _ _) | (with_reducible refine le_drew ?_) | dsimp only | omega | ((try simp only [World.size_alloc, World.size_setCell, World.size_drew, size_put]); omega) | (simp; done))))
        · have HE : Hid (V = y.points + y.points * y.extra / 1000) := by show _ = _; rw [← Hl.out, rateAt, if_pos hyl, cntR, if_pos hin]
          clear hyl
          go_wp2_with fail
          refine ((hin ▸ ref02_In y.sp y.peak t _ (Hya.out.toW (by (repeat' (first | (with_reducible exact Below.refl _ _) | (with_reducible exact Nat.le_refl _) | (with_reducible assumption) | (with_reducible refine below_step ?_ ?_ hr) | (with_reducible refine below_over ?_ ?_ _) | (with_reducible refine Below.alloc ?_ ?_ _) | (with_reducible refine Below.setCell ?_ ?_ _) | (with_reducible refine below_put ?_ ?_ _) | (with_reducible refine Below.drew ?_) | (with_reducible refine below_drewN_ ?_ _) | (with_reducible refine le_drewN ?_ _) | (with_reducible refine over_le _ _ _ ?_) | (with_reducible refine le_alloc ?_ _) | (with_reducible refine le_setCell ?_ _ _) | (with_reducible refine le_put ?_ _ _) | (with_reducible refine le_drew ?_) | dsimp only | omega | ((try simp only [World.size_alloc, World.size_setCell, World.size_drew, size_put]); omega) | (simp; done))))))).mono ?_
          rintro e w3 hg
          obtain ⟨rfl, hb⟩ := hg.below
          clear hg
          have hz := hb.size
          (try simp only [World.size_alloc, World.size_setCell, World.size_drew, size_put] at hz)
          have hB : Below w.heap.size w w3 := below_step (by (repeat' (first | (with_reducible exact Below.refl _ _) | (with_reducible exact Nat.le_refl _) | (with_reducible assumption) | (with_reducible refine below_step ?_ ?_ hr) | (with_reducible refine below_over ?_ ?_ _) | (with_reducible refine Below.alloc ?_ ?_ _) | (with_reducible refine Below.setCell ?_ ?_ _) | (with_reducible refine below_put ?_ ?_ _) | (with_reducible refine Below.drew ?_) | (with_reducible refine below_drewN_ ?_ _) | (with_reducible refine le_drewN ?_ _) | (with_reducible refine over_le _ _ _ ?_) | (with_reducible refine le_alloc ?_ _) | (with_reducible refine le_setCell ?_ _ _) | (with_reducible refine le_put ?_ _ _) | (with_reducible refine le_drew ?_) | dsimp only | omega | ((try simp only [World.size_alloc, World.size_setCell, World.size_drew, size_put]); omega) | (simp; done)))) (by (first | omega | ((try simp only [World.size_alloc, World.size_setCell, World.size_drew, size_put]); omega))) hb
          have Q' : w3.heap[wr.heap.size]? = _ := hb.block (wr.heap.size) (by (first | omega | ((try simp only [World.size_alloc, World.size_setCell, World.size_drew, size_put]); omega)))
          simp only [alloc_block_if, put_block_if, over_block_if, set_block_if, setObj_cells, drew_block, drewN_block, Option.map_some, List.setIfInBounds_toArray, List.set_cons_zero, List.set_cons_succ, World.size_alloc, World.size_setCell, size_put, World.size_drew, if_true, if_false, ↓IntWalk.iteOmega] at Q'
          have Qwr_0 := Q'
          clear Q'
          have qwr_0 := cell_of_block Qwr_0
          clear hb
          go_wp2_with fail
          go_ret
          exact gives_of (ret_int HE.out.symm) (by go_light; (repeat' (first | (with_reducible exact Below.refl _ _) | (with_reducible exact Nat.le_refl _) | (with_reducible assumption) | (with_reducible refine below_step ?_ ?_ hr) | (with_reducible refine below_over ?_ ?_ _) | (with_reducible refine Below.alloc ?_ ?_ _) | (with_reducible refine Below.setCell ?_ ?_ _) | (with_reducible refine below_put ?_ ?_ _) | (with_reducible refine Below.drew ?_) | (with_reducible refine below_drewN_ ?_ _) | (with_reducible refine le_drewN ?_ _) | (with_reducible refine over_le _ _ _ ?_) | (with_reducible refine le_alloc ?_ _) | (with_reducible refine le_setCell ?_ _ _) | (with_reducible refine le_put ?_ _ _) | (with_reducible refine le_drew ?_) | dsimp only | omega | ((try simp only [World.size_alloc, World.size_setCell, World.size_drew, size_put]); omega) | (simp; done))))
      · have hyb : (y.lift == rl) = false := by simpa using hyl
        have HE : Hid (rateAt rl t (rs.drop (k + 1)) = V) := by show _ = _; rw [← Hl.out, rateAt, if_neg hyl]
        clear hyl
        go_wp2_with fail
        go_roundw
        case rel => exact ⟨k + 1, by omega, by go_num, HE, by go_light; (repeat' (first | (with_reducible exact Below.refl _ _) | (with_reducible exact Nat.le_refl _) | (with_reducible assumption) | (with_reducible refine below_step ?_ ?_ hr) | (with_reducible refine below_over ?_ ?_ _) | (with_reducible refine Below.alloc ?_ ?_ _) | (with_reducible refine Below.setCell ?_ ?_ _) | (with_reducible refine below_put ?_ ?_ _) | (with_reducible refine Below.drew ?_) | (with_reducible refine below_drewN_ ?_ _) | (with_reducible refine le_drewN ?_ _) | (with_reducible refine over_le _ _ _ ?_) | (with_reducible refine le_alloc ?_ _) | (with_reducible refine le_setCell ?_ _ _) | (with_reducible refine le_put ?_ _ _) | (with_reducible refine le_drew ?_) | dsimp only | omega | ((try simp only [World.size_alloc, World.size_setCell, World.size_drew, size_put]); omega) | (simp; done)))⟩
        case measure => (simp [intOf] <;> omega)
    · have HE : Hid (V = 0) := by show _ = _; rw [← Hl.out, Hxa.out.rd.done_ hlt]; rfl
      go_wp2_with fail
      go_ret
      exact gives_of (ret_int HE.out.symm) (by go_light; (repeat' (first | (with_reducible exact Below.refl _ _) | (with_reducible exact Nat.le_refl _) | (with_reducible assumption) | (with_reducible refine below_step ?_ ?_ hr) | (with_reducible refine below_over ?_ ?_ _) | (with_reducible refine Below.alloc ?_ ?_ _) | (with_reducible refine Below.setCell ?_ ?_ _) | (with_reducible refine below_put ?_ ?_ _) | (with_reducible refine Below.drew ?_) | (with_reducible refine below_drewN_ ?_ _) | (with_reducible refine le_drewN ?_ _) | (with_reducible refine over_le _ _ _ ?_) | (with_reducible refine le_alloc ?_ _) | (with_reducible refine le_setCell ?_ _ _) | (with_reducible refine le_put ?_ _ _) | (with_reducible refine le_drew ?_) | dsimp only | omega | ((try simp only [World.size_alloc, World.size_setCell, World.size_drew, size_put]); omega) | (simp; done))))
/-! Sums. -/
def sumL (xs : List TF) (lift : Int) : List RD → Int
  | [] => 0
  | r :: rs => (if r.lift = lift then ptsF xs r else 0) + sumL xs lift rs
theorem cntR_bd {r : RT} (h : r.good) (t : Int) : 0 ≤ cntR r t ∧ cntR r t ≤ 20000 := by
  obtain ⟨m0, m1⟩ := h.mul
  have h0 := h.p0; have h1 := h.p1
  unfold cntR
  split <;> omega
theorem rateAt_bd (lift t : Int) : ∀ {rs : List RT}, (∀ r ∈ rs, r.good) → 0 ≤ rateAt lift t rs ∧ rateAt lift t rs ≤ 20000
  | [], _ => by simp [rateAt]
  | r :: rs, h => by
    unfold rateAt
    split
    · exact cntR_bd (h r (List.mem_cons_self ..)) t
    · exact rateAt_bd lift t (fun y hy => h y (List.mem_cons_of_mem _ hy))
theorem ptsF_bd {xs : List TF} (h : goodTs xs) (r : RD) : 0 ≤ ptsF xs r ∧ ptsF xs r ≤ 20000 := rateAt_bd _ _ (atX_good h _)
theorem sumL_bd {xs : List TF} (h : goodTs xs) (lift : Int) : ∀ rs : List RD, 0 ≤ sumL xs lift rs ∧ sumL xs lift rs ≤ 20000 * rs.length
  | [] => by simp [sumL]
  | r :: rs => by
    have ih := sumL_bd h lift rs
    have hp := ptsF_bd h r
    unfold sumL
    simp only [List.length_cons]
    split <;> omega
theorem sumL_append (xs : List TF) (lift : Int) : ∀ a b : List RD, sumL xs lift (a ++ b) = sumL xs lift a + sumL xs lift b
  | [], b => by simp [sumL]
  | r :: a, b => by
    have := sumL_append xs lift a b
    show (if r.lift = lift then ptsF xs r else 0) + sumL xs lift (a ++ b) = ((if r.lift = lift then ptsF xs r else 0) + sumL xs lift a) + sumL xs lift b
    omega
theorem Rd.rd_ {w : World} {s : Sl} {xs : List RD} (h : Rd w RD.enc s xs) {k : Nat} (hk : k < s.n) : ∃ b off x, s.a = some ⟨b, off, none⟩ ∧ b < w.heap.size ∧ Hid (xs.drop k = x :: xs.drop (k + 1)) ∧ Hid (xs[k]? = some x) ∧
    w.cell? ⟨b, off + k * 7, none⟩ = some (.int .i64 x.gate) ∧ w.cell? ⟨b, off + k * 7 + 1, none⟩ = some (.int .i64 x.seq) ∧ w.cell? ⟨b, off + k * 7 + 2, none⟩ = some (.int .i64 x.serial) ∧ w.cell? ⟨b, off + k * 7 + 3, none⟩ = some (.int .i64 x.counter) ∧
    w.cell? ⟨b, off + k * 7 + 4, none⟩ = some (.int .i64 x.product) ∧ w.cell? ⟨b, off + k * 7 + 5, none⟩ = some (.int .i64 x.lift) ∧ w.cell? ⟨b, off + k * 7 + 6, none⟩ = some (.int .i64 x.at_) := by
  obtain ⟨b, off, x, e, hb, h1, h2, hc⟩ := h.step hk
  exact ⟨b, off, x, e, hb, h1, h2, hc 0 _ rfl, hc 1 _ rfl, hc 2 _ rfl, hc 3 _ rfl, hc 4 _ rfl, hc 5 _ rfl, hc 6 _ rfl⟩
theorem sumL_take {xs : List TF} {lift : Int} {rs : List RD} {k : Nat} {r : RD} (h : rs[k]? = some r) : sumL xs lift (rs.take (k + 1)) = sumL xs lift (rs.take k) + (if r.lift = lift then ptsF xs r else 0) := by
  rw [List.take_add_one, h, sumL_append]
  simp [sumL]
set_option maxRecDepth 100000 in
set_option maxHeartbeats 1600000 in
theorem tariff_Sum (s : Sl) (xs : List TF) (z : Sl) (rs : List RD) (lift : Int) (w : World) (hs : TFs w s xs) (hg : goodTs xs) (hz : Rd w RD.enc z rs) (h200 : z.n ≤ 200) : Calls Try.prog 20 #[s.val, z.val, .int .i64 lift] w (Gives (.int .i64 (sumL xs lift rs)) w) := by
  obtain ⟨A, n, c⟩ := z
  have Hs := Lib.hid hs
  have Hg := Lib.hid hg
  have Hz := Lib.hid hz
  have Hn : Hid (rs.length = n) := hz.len
  dsimp only at h200
  clear hs hg hz
  generalize hV : sumL xs lift rs = V
  have HV := Lib.hid hV
  clear hV
  simp only [Sl.val]
  (go_enter Try.func20, Try.ntmps20; try dsimp only [List.append])
  go_wp2_with fail
  go_loopw [7, 12] (fun u i wr => ∃ k : Nat, k ≤ n ∧ i = .int .i64 k ∧ u = .int .i64 (sumL xs lift (rs.take k)) ∧ Below w.heap.size w wr) (fun _ i _ => n - (intOf i).toNat)
  case atStart => exact ⟨0, Nat.zero_le _, rfl, rfl, Below.refl _ _⟩
  case round =>
    obtain ⟨k, hk, rfl, rfl, hB⟩ := hrel
    have hzr := hB.size
    by_cases hlt : k < n
    · obtain ⟨b, off, x, rfl, hbw, -, Hx0, hd0, hd1, hd2, hd3, hd4, hd5, hd6⟩ := Hz.out.rd_ hlt
      have e0 := (hB.cell (p := ⟨b, _, none⟩) hbw).trans hd0
      have e1 := (hB.cell (p := ⟨b, _, none⟩) hbw).trans hd1
      have e2 := (hB.cell (p := ⟨b, _, none⟩) hbw).trans hd2
      have e3 := (hB.cell (p := ⟨b, _, none⟩) hbw).trans hd3
      have e4 := (hB.cell (p := ⟨b, _, none⟩) hbw).trans hd4
      have e5 := (hB.cell (p := ⟨b, _, none⟩) hbw).trans hd5
      have e6 := (hB.cell (p := ⟨b, _, none⟩) hbw).trans hd6
      clear hd0 hd1 hd2 hd3 hd4 hd5 hd6
      have Ht := Lib.hid (sumL_take (xs := xs) (lift := lift) Hx0.out)
      obtain ⟨b0, b1⟩ := sumL_bd Hg.out lift (rs.take k)
      have b2 : sumL xs lift (rs.take k) ≤ 4000000 := by have : (rs.take k).length ≤ k := List.length_take_le _ _; omega
      clear b1
      obtain ⟨p0, p1⟩ := ptsF_bd Hg.out x
      generalize sumL xs lift (rs.take k) = S at Ht b0 b2
      by_cases hxl : x.lift = lift
      · have hb : (x.lift == lift) = true := by simpa using hxl
        rw [if_pos hxl] at Ht
        clear hxl
        have Hc := fun w' (h : Below w.heap.size w w') => tariff_Points s xs x w' (Hs.out.toW h) Hg.out
        generalize ptsF xs x = PT at Ht p0 p1 Hc
        have Hc := Lib.hid Hc
        go_wp2_with fail
        refine (Hc.out _ (by (repeat' (first | (with_reducible exact Below.refl _ _) | (with_reducible exact Nat.le_refl _) | (with_reducible assumption) | (with_reducible refine below_step ?_ ?_ hr) | (with_reducible refine below_over ?_ ?_ _) | (with_reducible refine Below.alloc ?_ ?_ _) | (with_reducible refine Below.setCell ?_ ?_ _) | (with_reducible refine below_put ?_ ?_ _) | (with_reducible refine Below.drew ?_) | (with_reducible refine below_drewN_ ?_ _) | (with_reducible refine le_drewN ?_ _) | (with_reducible refine over_le _ _ _ ?_) | (with_reducible refine le_alloc ?_ _) | (with_reducible refine le_setCell ?_ _ _) | (with_reducible refine le_put ?_ _ _) | (with_reducible refine le_drew ?_) | dsimp only | omega | ((try simp only [World.size_alloc, World.size_setCell, World.size_drew, size_put]); omega) | (simp; done))))).mono ?_
        rintro e w2 hg
        obtain ⟨rfl, hb⟩ := hg.below
        clear hg
        have hz := hb.size
        (try simp only [World.size_alloc, World.size_setCell, World.size_drew, size_put] at hz)
        have hB : Below w.heap.size w w2 := below_step (by (repeat' (first | (with_reducible exact Below.refl _ _) | (with_reducible exact Nat.le_refl _) | (with_reducible assumption) | (with_reducible refine below_step ?_ ?_ hr) | (with_reducible refine below_over ?_ ?_ _) | (with_reducible refine Below.alloc ?_ ?_ _) | (with_reducible refine Below.setCell ?_ ?_ _) | (with_reducible refine below_put ?_ ?_ _) | (with_reducible refine Below.drew ?_) | (with_reducible refine below_drewN_ ?_ _) | (with_reducible refine le_drewN ?_ _) | (with_reducible refine over_le _ _ _ ?_) | (with_reducible refine le_alloc ?_ _) | (with_reducible refine le_setCell ?_ _ _) | (with_reducible refine le_put ?_ _ _) | (with_reducible refine le_drew ?_) | dsimp only | omega | ((try simp only [World.size_alloc, World.size_setCell, World.size_drew, size_put]); omega) | (simp; done)))) (by (first | omega | ((try simp only [World.size_alloc, World.size_setCell, World.size_drew, size_put]); omega))) hb
        have Q' : w2.heap[wr.heap.size]? = _ := hb.block (wr.heap.size) (by (first | omega | ((try simp only [World.size_alloc, World.size_setCell, World.size_drew, size_put]); omega)))
        simp only [alloc_block_if, put_block_if, over_block_if, set_block_if, setObj_cells, drew_block, drewN_block, Option.map_some, List.setIfInBounds_toArray, List.set_cons_zero, List.set_cons_succ, World.size_alloc, World.size_setCell, size_put, World.size_drew, if_true, if_false, ↓IntWalk.iteOmega] at Q'
        have Qwr_0 := Q'
        clear Q'
        have qwr_0 := cell_of_block Qwr_0
        clear hb
        go_wp2_with fail
        go_roundw
        case rel => exact ⟨k + 1, by omega, by go_num, by rw [Ht.out], by go_light; (repeat' (first | (with_reducible exact Below.refl _ _) | (with_reducible exact Nat.le_refl _) | (with_reducible assumption) | (with_reducible refine below_step ?_ ?_ hr) | (with_reducible refine below_over ?_ ?_ _) | (with_reducible refine Below.alloc ?_ ?_ _) | (with_reducible refine Below.setCell ?_ ?_ _) | (with_reducible refine below_put ?_ ?_ _) | (with_reducible refine Below.drew ?_) | (with_reducible refine below_drewN_ ?_ _) | (with_reducible refine le_drewN ?_ _) | (with_reducible refine over_le _ _ _ ?_) | (with_reducible refine le_alloc ?_ _) | (with_reducible refine le_setCell ?_ _ _) | (with_reducible refine le_put ?_ _ _) | (with_reducible refine le_drew ?_) | dsimp only | omega | ((try simp only [World.size_alloc, World.size_setCell, World.size_drew, size_put]); omega) | (simp; done)))⟩
        case measure => (simp [intOf] <;> omega)
      · have hb : (x.lift == lift) = false := by simpa using hxl
        rw [if_neg hxl, Int.add_zero] at Ht
        clear hxl
        go_wp2_with fail
        go_roundw
        case rel => exact ⟨k + 1, by omega, by go_num, by rw [Ht.out], by go_light; (repeat' (first | (with_reducible exact Below.refl _ _) | (with_reducible exact Nat.le_refl _) | (with_reducible assumption) | (with_reducible refine below_step ?_ ?_ hr) | (with_reducible refine below_over ?_ ?_ _) | (with_reducible refine Below.alloc ?_ ?_ _) | (with_reducible refine Below.setCell ?_ ?_ _) | (with_reducible refine below_put ?_ ?_ _) | (with_reducible refine Below.drew ?_) | (with_reducible refine below_drewN_ ?_ _) | (with_reducible refine le_drewN ?_ _) | (with_reducible refine over_le _ _ _ ?_) | (with_reducible refine le_alloc ?_ _) | (with_reducible refine le_setCell ?_ _ _) | (with_reducible refine le_put ?_ _ _) | (with_reducible refine le_drew ?_) | dsimp only | omega | ((try simp only [World.size_alloc, World.size_setCell, World.size_drew, size_put]); omega) | (simp; done)))⟩
        case measure => (simp [intOf] <;> omega)
    · have HE : Hid (sumL xs lift (rs.take k) = V) := by show _ = _; rw [← HV.out, List.take_of_length_le (by have := Hn.out; omega)]
      go_wp2_with fail
      go_ret
      exact gives_of (ret_int HE.out) (by go_light; (repeat' (first | (with_reducible exact Below.refl _ _) | (with_reducible exact Nat.le_refl _) | (with_reducible assumption) | (with_reducible refine below_step ?_ ?_ hr) | (with_reducible refine below_over ?_ ?_ _) | (with_reducible refine Below.alloc ?_ ?_ _) | (with_reducible refine Below.setCell ?_ ?_ _) | (with_reducible refine below_put ?_ ?_ _) | (with_reducible refine Below.drew ?_) | (with_reducible refine below_drewN_ ?_ _) | (with_reducible refine le_drewN ?_ _) | (with_reducible refine over_le _ _ _ ?_) | (with_reducible refine le_alloc ?_ _) | (with_reducible refine le_setCell ?_ _ _) | (with_reducible refine le_put ?_ _ _) | (with_reducible refine le_drew ?_) | dsimp only | omega | ((try simp only [World.size_alloc, World.size_setCell, World.size_drew, size_put]); omega) | (simp; done))))
set_option maxRecDepth 100000 in
set_option maxHeartbeats 1600000 in
theorem ref33_Sum (s : Sl) (xs : List TF) (z : Sl) (rs : List RD) (lift : Int) (w : World) (hs : TFs w s xs) (hg : goodTs xs) (hz : Rd w RD.enc z rs) (h200 : z.n ≤ 200) : Calls Try.prog 21 #[s.val, z.val, .int .i64 lift] w (Gives (.int .i64 (sumL xs lift rs)) w) := by
  obtain ⟨A, n, c⟩ := z
  have Hs := Lib.hid hs
  have Hg := Lib.hid hg
  have Hz := Lib.hid hz
  have Hn : Hid (rs.length = n) := hz.len
  dsimp only at h200
  clear hs hg hz
  generalize hV : sumL xs lift rs = V
  have HV := Lib.hid hV
  clear hV
  simp only [Sl.val]
  (go_enter Try.func21, Try.ntmps21; try dsimp only [List.append])
  go_wp2_with fail
  go_loopw [7, 8] (fun u i wr => ∃ k : Nat, k ≤ n ∧ i = .int .i64 k ∧ u = .int .i64 (sumL xs lift (rs.take k)) ∧ Below w.heap.size w wr) (fun _ i _ => n - (intOf i).toNat)
  case atStart => exact ⟨0, Nat.zero_le _, rfl, rfl, Below.refl _ _⟩
  case round =>
    obtain ⟨k, hk, rfl, rfl, hB⟩ := hrel
    have hzr := hB.size
    by_cases hlt : k < n
    · obtain ⟨b, off, x, rfl, hbw, -, Hx0, hd0, hd1, hd2, hd3, hd4, hd5, hd6⟩ := Hz.out.rd_ hlt
      have e0 := (hB.cell (p := ⟨b, _, none⟩) hbw).trans hd0
      have e1 := (hB.cell (p := ⟨b, _, none⟩) hbw).trans hd1
      have e2 := (hB.cell (p := ⟨b, _, none⟩) hbw).trans hd2
      have e3 := (hB.cell (p := ⟨b, _, none⟩) hbw).trans hd3
      have e4 := (hB.cell (p := ⟨b, _, none⟩) hbw).trans hd4
      have e5 := (hB.cell (p := ⟨b, _, none⟩) hbw).trans hd5
      have e6 := (hB.cell (p := ⟨b, _, none⟩) hbw).trans hd6
      clear hd0 hd1 hd2 hd3 hd4 hd5 hd6
      have Ht := Lib.hid (sumL_take (xs := xs) (lift := lift) Hx0.out)
      obtain ⟨b0, b1⟩ := sumL_bd Hg.out lift (rs.take k)
      have b2 : sumL xs lift (rs.take k) ≤ 4000000 := by have : (rs.take k).length ≤ k := List.length_take_le _ _; omega
      clear b1
      obtain ⟨p0, p1⟩ := ptsF_bd Hg.out x
      generalize sumL xs lift (rs.take k) = S at Ht b0 b2
      by_cases hxl : x.lift = lift
      · have hb : (x.lift == lift) = true := by simpa using hxl
        rw [if_pos hxl] at Ht
        clear hxl
        have Hc := fun w' (h : Below w.heap.size w w') => ref33_Points s xs x w' (Hs.out.toW h) Hg.out
        generalize ptsF xs x = PT at Ht p0 p1 Hc
        have Hc := Lib.hid Hc
        go_wp2_with fail
        refine (Hc.out _ (by (repeat' (first | (with_reducible exact Below.refl _ _) | (with_reducible exact Nat.le_refl _) | (with_reducible assumption) | (with_reducible refine below_step ?_ ?_ hr) | (with_reducible refine below_over ?_ ?_ _) | (with_reducible refine Below.alloc ?_ ?_ _) | (with_reducible refine Below.setCell ?_ ?_ _) | (with_reducible refine below_put ?_ ?_ _) | (with_reducible refine Below.drew ?_) | (with_reducible refine below_drewN_ ?_ _) | (with_reducible refine le_drewN ?_ _) | (with_reducible refine over_le _ _ _ ?_) | (with_reducible refine le_alloc ?_ _) | (with_reducible refine le_setCell ?_ _ _) | (with_reducible refine le_put ?_ _ _) | (with_reducible refine le_drew ?_) | dsimp only | omega | ((try simp only [World.size_alloc, World.size_setCell, World.size_drew, size_put]); omega) | (simp; done))))).mono ?_
        rintro e w2 hg
        obtain ⟨rfl, hb⟩ := hg.below
        clear hg
        have hz := hb.size
        (try simp only [World.size_alloc, World.size_setCell, World.size_drew, size_put] at hz)
        have hB : Below w.heap.size w w2 := below_step (by (repeat' (first | (with_reducible exact Below.refl _ _) | (with_reducible exact Nat.le_refl _) | (with_reducible assumption) | (with_reducible refine below_step ?_ ?_ hr) | (with_reducible refine below_over ?_ ?_ _) | (with_reducible refine Below.alloc ?_ ?_ _) | (with_reducible refine Below.setCell ?_ ?_ _) | (with_reducible refine below_put ?_ ?_ _) | (with_reducible refine Below.drew ?_) | (with_reducible refine below_drewN_ ?_ _) | (with_reducible refine le_drewN ?_ _) | (with_reducible refine over_le _ _ _ ?_) | (with_reducible refine le_alloc ?_ _) | (with_reducible refine le_setCell ?_ _ _) | (with_reducible refine le_put ?_ _ _) | (with_reducible refine le_drew ?_) | dsimp only | omega | ((try simp only [World.size_alloc, World.size_setCell, World.size_drew, size_put]); omega) | (simp; done)))) (by (first | omega | ((try simp only [World.size_alloc, World.size_setCell, World.size_drew, size_put]); omega))) hb
        clear hb
        go_wp2_with fail
        go_roundw
        case rel => exact ⟨k + 1, by omega, by go_num, by rw [Ht.out], by go_light; (repeat' (first | (with_reducible exact Below.refl _ _) | (with_reducible exact Nat.le_refl _) | (with_reducible assumption) | (with_reducible refine below_step ?_ ?_ hr) | (with_reducible refine below_over ?_ ?_ _) | (with_reducible refine Below.alloc ?_ ?_ _) | (with_reducible refine Below.setCell ?_ ?_ _) | (with_reducible refine below_put ?_ ?_ _) | (with_reducible refine Below.drew ?_) | (with_reducible refine below_drewN_ ?_ _) | (with_reducible refine le_drewN ?_ _) | (with_reducible refine over_le _ _ _ ?_) | (with_reducible refine le_alloc ?_ _) | (with_reducible refine le_setCell ?_ _ _) | (with_reducible refine le_put ?_ _ _) | (with_reducible refine le_drew ?_) | dsimp only | omega | ((try simp only [World.size_alloc, World.size_setCell, World.size_drew, size_put]); omega) | (simp; done)))⟩
        case measure => (simp [intOf] <;> omega)
      · have hb : (x.lift == lift) = false := by simpa using hxl
        rw [if_neg hxl, Int.add_zero] at Ht
        clear hxl
        go_wp2_with fail
        go_roundw
        case rel => exact ⟨k + 1, by omega, by go_num, by rw [Ht.out], by go_light; (repeat' (first | (with_reducible exact Below.refl _ _) | (with_reducible exact Nat.le_refl _) | (with_reducible assumption) | (with_reducible refine below_step ?_ ?_ hr) | (with_reducible refine below_over ?_ ?_ _) | (with_reducible refine Below.alloc ?_ ?_ _) | (with_reducible refine Below.setCell ?_ ?_ _) | (with_reducible refine below_put ?_ ?_ _) | (with_reducible refine Below.drew ?_) | (with_reducible refine below_drewN_ ?_ _) | (with_reducible refine le_drewN ?_ _) | (with_reducible refine over_le _ _ _ ?_) | (with_reducible refine le_alloc ?_ _) | (with_reducible refine le_setCell ?_ _ _) | (with_reducible refine le_put ?_ _ _) | (with_reducible refine le_drew ?_) | dsimp only | omega | ((try simp only [World.size_alloc, World.size_setCell, World.size_drew, size_put]); omega) | (simp; done)))⟩
        case measure => (simp [intOf] <;> omega)
    · have HE : Hid (sumL xs lift (rs.take k) = V) := by show _ = _; rw [← HV.out, List.take_of_length_le (by have := Hn.out; omega)]
      go_wp2_with fail
      go_ret
      exact gives_of (ret_int HE.out) (by go_light; (repeat' (first | (with_reducible exact Below.refl _ _) | (with_reducible exact Nat.le_refl _) | (with_reducible assumption) | (with_reducible refine below_step ?_ ?_ hr) | (with_reducible refine below_over ?_ ?_ _) | (with_reducible refine Below.alloc ?_ ?_ _) | (with_reducible refine Below.setCell ?_ ?_ _) | (with_reducible refine below_put ?_ ?_ _) | (with_reducible refine Below.drew ?_) | (with_reducible refine below_drewN_ ?_ _) | (with_reducible refine le_drewN ?_ _) | (with_reducible refine over_le _ _ _ ?_) | (with_reducible refine le_alloc ?_ _) | (with_reducible refine le_setCell ?_ _ _) | (with_reducible refine le_put ?_ _ _) | (with_reducible refine le_drew ?_) | dsimp only | omega | ((try simp only [World.size_alloc, World.size_setCell, World.size_drew, size_put]); omega) | (simp; done))))
end Go.Proofs.Ytidefepnkhkkiaa
